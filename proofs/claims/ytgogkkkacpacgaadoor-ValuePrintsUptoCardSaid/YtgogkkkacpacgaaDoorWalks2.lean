/- the values' functions, walked: kinds, comparisons, the logic of three truths -/
import Derived.Test.YtgogkkkacpacgaaDoorWalks
namespace Go.Proofs.YtgogkkkacpacgaaDoor
open Go.WK Go.RowKit 

theorem zs23 : (Tryd.prog.info? 23).map (fun i => (i.zero, i.size)) = some (some (.agg #[.int .i64 0, .int .i64 0, .string .empty]), 3) := by kernel_rfl

theorem allK (k : Int) (A : Option Addr) (n c : Nat) (l : List Val) (w : World) (hr : Rd w A (valsV l)) (hn : l.length = n) (hm : n ≤ 100) (hf : ∀ v ∈ l, fit v) : Calls Tryd.prog 52 #[.int .i64 k, .slice A n c] w (Pure w (.int .i64 (allE k l))) := by
  refine calls_tri (args := [.int .i64 k, .slice A n c]) (lent := []) (H := []) Tryd.func52 rfl Tryd.ntmps52 rfl (Sat.start _ _ _ _) ?_
  refine (show Tri _ [(0, _), (1, _)] _ _ _ from ?_)
  have hR : ∀ cx H, cx.w0 = w → cx.lent = [] → RdS cx H A (valsV l) := fun cx H h1 h2 => RdS.arg (by rw [h1]; exact hr) h2
  refine tri_seq ?_
  refine tri_region ?_
  refine o_assign rfl rfl ?_
  refine triL_nil ?_
  refine thenQ_normal ?_
  refine tri_seq ?_
  refine tri_seq ?_
  refine tri_region ?_
  refine o_move rfl rfl ?_
  refine o_lenS Tryd.underlying35 rfl rfl ?_
  refine o_move rfl rfl ?_
  refine triL_nil ?_
  refine thenQ_normal ?_
  refine tri_block ?_
  refine tri_loop (ι := Nat) (F := fun i => [(0, .int .i64 k), (1, .slice A n c), (9, .slice A n c), (10, .int .i64 (n : Int)), (11, .int .i64 (i : Int))]) (HH := fun i => []) (Pu := fun i => i ≤ n ∧ (l.take i).all may = true) (μ := fun i => n - i) (0) (.cons rfl (.cons rfl (.cons rfl (.cons rfl (.cons rfl (.nil _)))))) (fun _ h => h) (⟨by omega, by simp⟩) (fun i hi => ?_)
  refine tri_seq ?_
  refine tri_region ?_
  refine o_lss rfl rfl rfl ?_
  refine triL_nil ?_
  refine thenQ_normal ?_
  refine tri_seq ?_
  refine tri_if rfl (fun h1 => ?_) (fun h1 => ?_)
  · skip
    refine tri_skip ?_
    refine thenQ_normal ?_
    refine tri_seq ?_
    refine tri_block ?_
    refine tri_seq ?_
    refine tri_region ?_
    refine o_idxS Tryd.underlying35 sz23 rfl rfl rfl (hR _ _ rfl rfl) (by omega) (by omega) (by rw [valsV_length]; omega) (by decide) ?_
    refine o_loadV i agg23 sz23 rfl rfl (hR _ _ rfl rfl) (by omega) (by omega) ?_
    refine o_alloc (Val.cs Val.zero) rfl zero23 rfl (fun b6 => ?_)
    refine o_storeBV sz23 (by first | exact Nth.z | exact .s .z | exact .s (.s .z) | exact .s (.s (.s .z)) | exact .s (.s (.s (.s .z))) | exact .s (.s (.s (.s (.s .z)))) | exact .s (.s (.s (.s (.s (.s .z))))) | exact .s (.s (.s (.s (.s (.s (.s .z))))))) rfl rfl rfl ?_
    refine triL_nil ?_
    refine thenQ_normal ?_
    refine tri_seq ?_
    refine tri_region ?_
    refine o_loadBV agg23 sz23 (by first | exact Nth.z | exact .s .z | exact .s (.s .z) | exact .s (.s (.s .z)) | exact .s (.s (.s (.s .z))) | exact .s (.s (.s (.s (.s .z)))) | exact .s (.s (.s (.s (.s (.s .z))))) | exact .s (.s (.s (.s (.s (.s (.s .z))))))) rfl rfl ?_
    refine o_callP (first := []) (cap := []) rfl rfl rfl Tryd.call14 (fun w1 h1 => mayK (l.getD i Val.zero) w1 (hf _ (getD_mem _ _ (by omega)))) ?_
    refine o_not rfl rfl ?_
    refine triL_nil ?_
    refine thenQ_normal ?_
    refine tri_cond rfl (fun h2 => ?_) (fun h2 => ?_)
    · skip
      have h2 : may (l.getD i Val.zero) = false := by simpa using h2
      refine tri_seq ?_
      refine tri_slots [] (.nil _) ?_
      refine tri_region ?_
      refine o_assign rfl rfl ?_
      refine triL_nil ?_
      refine thenQ_normal ?_
      refine tri_ret ?_
      refine blockQ_ret ?_
      refine thenQ_ret ?_
      refine thenQ_ret ?_
      refine blockQ_ret ?_
      refine thenQ_ret ?_
      refine end1 rfl rfl ?_
      exact fun w1 hw1 => ⟨congrArg (fun b => Ending.returned (.int .i64 b)) (by rw [allE, if_neg (fun e => by have := List.all_eq_true.1 e _ (getD_mem l i (by omega)); rw [h2] at this; cases this)]), hw1.chg⟩
    · skip
      have h2 : may (l.getD i Val.zero) = true := by simpa using h2
      refine tri_skip ?_
      refine blockQ_normal ?_
      refine thenQ_normal ?_
      refine tri_slots [(0, _), (1, _), (9, _), (10, _), (11, _)] (.cons rfl (.cons rfl (.cons rfl (.cons rfl (.cons rfl (.nil _)))))) ?_
      refine tri_region ?_
      refine o_addN rfl rfl rfl (by omega) ?_
      refine o_move rfl rfl ?_
      refine triL_nil ?_
      refine thenQ_normal ?_
      exact ⟨i + 1, (.cons rfl (.cons rfl (.cons rfl (.cons rfl (.cons rfl (.nil _)))))), fun w1 hw1 => hw1.tail, ⟨by omega, by rw [take_snocV l i (by omega), List.all_append, hi.2]; simp only [List.all_cons, List.all_nil, h2, Bool.and_self]⟩, by omega⟩
  · skip
    have ei : i = n := by omega
    have hall : l.all may = true := by have := hi.2; rwa [List.take_of_length_le (by omega)] at this
    refine tri_exit ?_
    refine thenQ_exit ?_
    refine thenQ_exit ?_
    refine blockQ_here ?_
    refine thenQ_normal ?_
    refine tri_seq ?_
    refine tri_seq ?_
    refine tri_slots [(0, _), (1, _)] (.cons rfl (.cons rfl (.nil _))) ?_
    refine tri_region ?_
    refine o_move rfl rfl ?_
    refine o_lenS Tryd.underlying35 rfl rfl ?_
    refine o_move rfl rfl ?_
    refine triL_nil ?_
    refine thenQ_normal ?_
    refine tri_block ?_
    refine tri_loop (ι := Nat) (F := fun i => [(0, .int .i64 k), (19, .slice A n c), (20, .int .i64 (n : Int)), (21, .int .i64 (i : Int))]) (HH := fun i => []) (Pu := fun i => i ≤ n ∧ ((l.take i).all fun v => decide (v.k = 0) || decide (v.k = k)) = true) (μ := fun i => n - i) (0) (.cons rfl (.cons rfl (.cons rfl (.cons rfl (.nil _))))) (fun _ h => h) (⟨by omega, by simp⟩) (fun i hi => ?_)
    refine tri_seq ?_
    refine tri_region ?_
    refine o_lss rfl rfl rfl ?_
    refine triL_nil ?_
    refine thenQ_normal ?_
    refine tri_seq ?_
    refine tri_if rfl (fun h3 => ?_) (fun h3 => ?_)
    · skip
      refine tri_skip ?_
      refine thenQ_normal ?_
      refine tri_seq ?_
      refine tri_block ?_
      refine tri_seq ?_
      refine tri_region ?_
      refine o_idxS Tryd.underlying35 sz23 rfl rfl rfl (hR _ _ rfl rfl) (by omega) (by omega) (by rw [valsV_length]; omega) (by decide) ?_
      refine o_loadV i agg23 sz23 rfl rfl (hR _ _ rfl rfl) (by omega) (by omega) ?_
      refine o_alloc (Val.cs Val.zero) rfl zero23 rfl (fun b8 => ?_)
      refine o_storeBV sz23 (by first | exact Nth.z | exact .s .z | exact .s (.s .z) | exact .s (.s (.s .z)) | exact .s (.s (.s (.s .z))) | exact .s (.s (.s (.s (.s .z)))) | exact .s (.s (.s (.s (.s (.s .z))))) | exact .s (.s (.s (.s (.s (.s (.s .z))))))) rfl rfl rfl ?_
      refine triL_nil ?_
      refine thenQ_normal ?_
      refine tri_seq ?_
      refine tri_region ?_
      refine o_field fo23_0 rfl rfl ?_
      refine o_load agg3 (by first | exact Nth.z | exact .s .z | exact .s (.s .z) | exact .s (.s (.s .z)) | exact .s (.s (.s (.s .z))) | exact .s (.s (.s (.s (.s .z)))) | exact .s (.s (.s (.s (.s (.s .z))))) | exact .s (.s (.s (.s (.s (.s (.s .z))))))) rfl rfl rfl ?_
      refine o_neqI rfl rfl rfl ?_
      refine o_move rfl rfl ?_
      refine' triL_and [_, _, _, _] [(0, _), (19, _), (20, _), (21, _)] (dj := 28) (dr := 32) rfl rfl (fun g1 => ?_) ⟨_, rfl, rfl, rfl, (.cons rfl (.cons rfl (.cons rfl (.cons rfl (.nil _)))))⟩ rfl ?_
      rotate_left
      · skip
        have g1 := of_decide_eq_true g1
        refine o_field fo23_0 rfl rfl ?_
        refine o_load agg3 (by first | exact Nth.z | exact .s .z | exact .s (.s .z) | exact .s (.s (.s .z)) | exact .s (.s (.s (.s .z))) | exact .s (.s (.s (.s (.s .z)))) | exact .s (.s (.s (.s (.s (.s .z))))) | exact .s (.s (.s (.s (.s (.s (.s .z))))))) rfl rfl rfl ?_
        refine o_move rfl rfl ?_
        refine o_neqI rfl rfl rfl ?_
        exact triL_nil (Piece.mk rfl rfl (.cons rfl (.cons rfl (.cons rfl (.cons rfl (.nil _))))) (fun _ h => h))
      refine triL_nil ?_
      refine thenQ_normal ?_
      refine tri_cond rfl (fun h4 => ?_) (fun h4 => ?_)
      · skip
        simp only [Bool.and_eq_true, decide_eq_true_eq] at h4
        refine tri_seq ?_
        refine tri_slots [] (.nil _) ?_
        refine tri_region ?_
        refine o_assign rfl rfl ?_
        refine triL_nil ?_
        refine thenQ_normal ?_
        refine tri_ret ?_
        refine blockQ_ret ?_
        refine thenQ_ret ?_
        refine thenQ_ret ?_
        refine blockQ_ret ?_
        refine thenQ_ret ?_
        refine end1 rfl rfl ?_
        exact fun w1 hw1 => ⟨congrArg (fun b => Ending.returned (.int .i64 b)) (by rw [allE, if_pos hall, if_neg (fun e => by have := List.all_eq_true.1 e _ (getD_mem l i (by omega)); simp only [Bool.or_eq_true, decide_eq_true_eq] at this; omega)]), hw1.chg⟩
      · skip
        simp only [Bool.and_eq_false_iff, decide_eq_false_iff_not] at h4
        refine tri_skip ?_
        refine blockQ_normal ?_
        refine thenQ_normal ?_
        refine tri_region ?_
        refine o_addN rfl rfl rfl (by omega) ?_
        refine o_move rfl rfl ?_
        refine triL_nil ?_
        refine thenQ_normal ?_
        exact ⟨i + 1, (.cons rfl (.cons rfl (.cons rfl (.cons rfl (.nil _))))), fun w1 hw1 => hw1.tail, ⟨by omega, by rw [take_snocV l i (by omega), List.all_append, hi.2]; simp only [Bool.true_and, List.all_cons, List.all_nil, Bool.and_true]; rw [Bool.or_eq_true, decide_eq_true_eq, decide_eq_true_eq]; omega⟩, by omega⟩
    · skip
      have ej : i = n := by omega
      have hk : (l.all fun v => decide (v.k = 0) || decide (v.k = k)) = true := by have := hi.2; rwa [List.take_of_length_le (by omega)] at this
      refine tri_exit ?_
      refine thenQ_exit ?_
      refine thenQ_exit ?_
      refine blockQ_here ?_
      refine thenQ_normal ?_
      refine tri_seq ?_
      refine tri_slots [] (.nil _) ?_
      refine tri_region ?_
      refine o_assign rfl rfl ?_
      refine triL_nil ?_
      refine thenQ_normal ?_
      refine tri_ret ?_
      refine end1 rfl rfl ?_
      exact fun w1 hw1 => ⟨congrArg (fun b => Ending.returned (.int .i64 b)) (by rw [allE, if_pos hall, if_pos hk]), hw1.chg⟩

theorem allE_pair {k : Int} {a b : Val} (h : (may a && may b) = true) : allE k [a, b] = if (a.k = 0 ∨ a.k = k) ∧ (b.k = 0 ∨ b.k = k) then 0 else 30 := by
  have h2 : [a, b].all may = true := by simpa using h
  unfold allE
  rw [if_pos h2]
  simp only [List.all_cons, List.all_nil, Bool.and_true, Bool.and_eq_true, Bool.or_eq_true, decide_eq_true_eq]
theorem allE_pair_no {k : Int} {a b : Val} (h : ¬ (may a && may b) = true) : allE k [a, b] = 5 := by
  unfold allE
  rw [if_neg (by simpa using h)]

theorem fitR (k : Int) (a b : Val) (w : World) (fa : fit a) (fb : fit b) : Calls Tryd.prog 64 #[.int .i64 k, aggV a, aggV b] w (Pure w (.int .i64 (allE k [a, b]))) := by
  refine calls_tri (args := [.int .i64 k, aggV a, aggV b]) (lent := []) (H := []) Tryd.func64 rfl Tryd.ntmps64 rfl (Sat.start _ _ _ _) ?_
  refine (show Tri _ [(0, _), (1, _), (2, _)] _ _ _ from ?_)
  refine tri_seq ?_
  refine tri_region ?_
  refine o_box (Val.cs _) rfl rfl rfl (fun b4 => ?_)
  refine o_box (Val.cs _) rfl rfl rfl (fun b5 => ?_)
  refine o_assign rfl rfl ?_
  refine triL_nil ?_
  refine thenQ_normal ?_
  refine tri_seq ?_
  refine tri_seq ?_
  refine tri_region ?_
  refine o_loadBV agg23 sz23 (by first | exact Nth.z | exact .s .z | exact .s (.s .z) | exact .s (.s (.s .z)) | exact .s (.s (.s (.s .z))) | exact .s (.s (.s (.s (.s .z)))) | exact .s (.s (.s (.s (.s (.s .z))))) | exact .s (.s (.s (.s (.s (.s (.s .z))))))) rfl rfl ?_
  refine o_callP (first := []) (cap := []) rfl rfl rfl Tryd.call15 (fun w_ hw_ => mayR _ w_ (by assumption)) ?_
  refine o_not rfl rfl ?_
  refine o_move rfl rfl ?_
  refine' triL_or [_, _, _] [(5, _), (4, _), (0, _)] (dj := 10) (dr := 13) rfl rfl (fun g1 => ?_) ⟨_, rfl, rfl, rfl, (.cons rfl (.cons rfl (.cons rfl (.nil _))))⟩ rfl ?_
  rotate_left
  · skip
    refine o_loadBV agg23 sz23 (by first | exact Nth.z | exact .s .z | exact .s (.s .z) | exact .s (.s (.s .z)) | exact .s (.s (.s (.s .z))) | exact .s (.s (.s (.s (.s .z)))) | exact .s (.s (.s (.s (.s (.s .z))))) | exact .s (.s (.s (.s (.s (.s (.s .z))))))) rfl rfl ?_
    refine o_callP (first := []) (cap := []) rfl rfl rfl Tryd.call15 (fun w_ hw_ => mayR _ w_ (by assumption)) ?_
    refine o_not rfl rfl ?_
    exact triL_nil (Piece.mk rfl rfl (.cons rfl (.cons rfl (.cons rfl (.nil _)))) (fun _ h => h))
  refine triL_nil ?_
  refine thenQ_normal ?_
  refine tri_cond rfl (fun h1 => ?_) (fun h1 => ?_)
  · skip
    have h1 : ¬ (may a && may b) = true := fun e => by simp only [Bool.and_eq_true] at e; simp [e.1, e.2] at h1
    refine tri_seq ?_
    refine tri_slots [] (.nil _) ?_
    refine tri_region ?_
    refine o_assign rfl rfl ?_
    refine triL_nil ?_
    refine thenQ_normal ?_
    refine tri_ret ?_
    refine thenQ_ret ?_
    refine end1 rfl rfl ?_
    exact fun w1 hw1 => ⟨congrArg (fun b => Ending.returned (.int .i64 b)) (by rw [allE_pair_no h1]), hw1.chg⟩
  · skip
    have h1 : (may a && may b) = true := by cases x1 : may a <;> cases x2 : may b <;> simp [x1, x2] at h1 ⊢
    have ma : may a = true := (Bool.and_eq_true_iff.1 h1).1
    have mb : may b = true := (Bool.and_eq_true_iff.1 h1).2
    refine tri_skip ?_
    refine thenQ_normal ?_
    refine tri_seq ?_
    refine tri_seq ?_
    refine tri_region ?_
    refine o_field fo23_0 rfl rfl ?_
    refine o_load agg3 (by first | exact Nth.z | exact .s .z | exact .s (.s .z) | exact .s (.s (.s .z)) | exact .s (.s (.s (.s .z))) | exact .s (.s (.s (.s (.s .z)))) | exact .s (.s (.s (.s (.s (.s .z))))) | exact .s (.s (.s (.s (.s (.s (.s .z))))))) rfl rfl rfl ?_
    refine o_move rfl rfl ?_
    refine o_neqI rfl rfl rfl ?_
    refine o_move rfl rfl ?_
    refine' triL_and [_, _, _] [(5, _), (0, _)] (dj := 19) (dr := 22) rfl rfl (fun g2 => ?_) ⟨_, rfl, rfl, rfl, (.cons rfl (.cons rfl (.nil _)))⟩ rfl ?_
    rotate_left
    · skip
      refine o_field fo23_0 rfl rfl ?_
      refine o_load agg3 (by first | exact Nth.z | exact .s .z | exact .s (.s .z) | exact .s (.s (.s .z)) | exact .s (.s (.s (.s .z))) | exact .s (.s (.s (.s (.s .z)))) | exact .s (.s (.s (.s (.s (.s .z))))) | exact .s (.s (.s (.s (.s (.s (.s .z))))))) rfl rfl rfl ?_
      refine o_neqI rfl rfl rfl ?_
      exact triL_nil (Piece.mk rfl rfl (.cons rfl (.cons rfl (.nil _))) (fun _ h => h))
    refine o_move rfl rfl ?_
    refine' triL_or [_, _, _, _, _, _, _, _, _] [] (dj := 24) (dr := 33) rfl rfl (fun g3 => ?_) ⟨_, rfl, rfl, rfl, (.nil _)⟩ rfl ?_
    rotate_left
    · skip
      refine o_field fo23_0 rfl rfl ?_
      refine o_load agg3 (by first | exact Nth.z | exact .s .z | exact .s (.s .z) | exact .s (.s (.s .z)) | exact .s (.s (.s (.s .z))) | exact .s (.s (.s (.s (.s .z)))) | exact .s (.s (.s (.s (.s (.s .z))))) | exact .s (.s (.s (.s (.s (.s (.s .z))))))) rfl rfl rfl ?_
      refine o_move rfl rfl ?_
      refine o_neqI rfl rfl rfl ?_
      refine o_move rfl rfl ?_
      refine' triL_and [_, _, _] [(24, _)] (dj := 29) (dr := 32) rfl rfl (fun g4 => ?_) ⟨_, rfl, rfl, rfl, (.cons rfl (.nil _))⟩ rfl ?_
      rotate_left
      · skip
        refine o_field fo23_0 rfl rfl ?_
        refine o_load agg3 (by first | exact Nth.z | exact .s .z | exact .s (.s .z) | exact .s (.s (.s .z)) | exact .s (.s (.s (.s .z))) | exact .s (.s (.s (.s (.s .z)))) | exact .s (.s (.s (.s (.s (.s .z))))) | exact .s (.s (.s (.s (.s (.s (.s .z))))))) rfl rfl rfl ?_
        refine o_neqI rfl rfl rfl ?_
        exact triL_nil (Piece.mk rfl rfl (.cons rfl (.nil _)) (fun _ h => h))
      exact triL_nil (Piece.mk rfl rfl (.nil _) (fun _ h => h))
    refine triL_nil ?_
    refine thenQ_normal ?_
    refine tri_cond rfl (fun h2 => ?_) (fun h2 => ?_)
    · skip
      have h2 : ¬ ((a.k = 0 ∨ a.k = k) ∧ (b.k = 0 ∨ b.k = k)) := by simp at h2; omega
      refine tri_seq ?_
      refine tri_region ?_
      refine o_assign rfl rfl ?_
      refine triL_nil ?_
      refine thenQ_normal ?_
      refine tri_ret ?_
      refine thenQ_ret ?_
      refine end1 rfl rfl ?_
      exact fun w1 hw1 => ⟨congrArg (fun b => Ending.returned (.int .i64 b)) (by rw [allE_pair h1, if_neg h2]), hw1.chg⟩
    · skip
      have h2 : (a.k = 0 ∨ a.k = k) ∧ (b.k = 0 ∨ b.k = k) := by simp at h2; omega
      refine tri_skip ?_
      refine thenQ_normal ?_
      refine tri_seq ?_
      refine tri_region ?_
      refine o_assign rfl rfl ?_
      refine triL_nil ?_
      refine thenQ_normal ?_
      refine tri_ret ?_
      refine end1 rfl rfl ?_
      exact fun w1 hw1 => ⟨congrArg (fun b => Ending.returned (.int .i64 b)) (by rw [allE_pair h1, if_pos h2]), hw1.chg⟩

def pkEq (c : Int) : Bool := decide (c = 0)

theorem kEqF (c : Int) (w : World)  : Calls Tryd.prog 56 #[.int .i64 c] w (Pure w (.bool (pkEq c))) := by
  refine calls_tri (args := [.int .i64 c]) (lent := []) (H := []) Tryd.func56 rfl Tryd.ntmps56 rfl (Sat.start _ _ _ _) ?_
  refine (show Tri _ [(0, _)] _ _ _ from ?_)
  refine tri_seq ?_
  refine tri_region ?_
  refine o_assign rfl rfl ?_
  refine triL_nil ?_
  refine thenQ_normal ?_
  refine tri_seq ?_
  refine tri_region ?_
  refine o_move rfl rfl ?_
  refine o_eqlI rfl rfl rfl ?_
  refine o_assign rfl rfl ?_
  refine triL_nil ?_
  refine thenQ_normal ?_
  refine tri_ret ?_
  refine end1 rfl rfl ?_
  exact fin_pure

def pkNe (c : Int) : Bool := decide (c ≠ 0)

theorem kNeF (c : Int) (w : World)  : Calls Tryd.prog 57 #[.int .i64 c] w (Pure w (.bool (pkNe c))) := by
  refine calls_tri (args := [.int .i64 c]) (lent := []) (H := []) Tryd.func57 rfl Tryd.ntmps57 rfl (Sat.start _ _ _ _) ?_
  refine (show Tri _ [(0, _)] _ _ _ from ?_)
  refine tri_seq ?_
  refine tri_region ?_
  refine o_assign rfl rfl ?_
  refine triL_nil ?_
  refine thenQ_normal ?_
  refine tri_seq ?_
  refine tri_region ?_
  refine o_move rfl rfl ?_
  refine o_neqI rfl rfl rfl ?_
  refine o_assign rfl rfl ?_
  refine triL_nil ?_
  refine thenQ_normal ?_
  refine tri_ret ?_
  refine end1 rfl rfl ?_
  exact fin_pure

def pkLt (c : Int) : Bool := decide (c < 0)

theorem kLtF (c : Int) (w : World)  : Calls Tryd.prog 58 #[.int .i64 c] w (Pure w (.bool (pkLt c))) := by
  refine calls_tri (args := [.int .i64 c]) (lent := []) (H := []) Tryd.func58 rfl Tryd.ntmps58 rfl (Sat.start _ _ _ _) ?_
  refine (show Tri _ [(0, _)] _ _ _ from ?_)
  refine tri_seq ?_
  refine tri_region ?_
  refine o_assign rfl rfl ?_
  refine triL_nil ?_
  refine thenQ_normal ?_
  refine tri_seq ?_
  refine tri_region ?_
  refine o_move rfl rfl ?_
  refine o_lss rfl rfl rfl ?_
  refine o_assign rfl rfl ?_
  refine triL_nil ?_
  refine thenQ_normal ?_
  refine tri_ret ?_
  refine end1 rfl rfl ?_
  exact fin_pure

def pkLe (c : Int) : Bool := decide (c ≤ 0)

theorem kLeF (c : Int) (w : World)  : Calls Tryd.prog 59 #[.int .i64 c] w (Pure w (.bool (pkLe c))) := by
  refine calls_tri (args := [.int .i64 c]) (lent := []) (H := []) Tryd.func59 rfl Tryd.ntmps59 rfl (Sat.start _ _ _ _) ?_
  refine (show Tri _ [(0, _)] _ _ _ from ?_)
  refine tri_seq ?_
  refine tri_region ?_
  refine o_assign rfl rfl ?_
  refine triL_nil ?_
  refine thenQ_normal ?_
  refine tri_seq ?_
  refine tri_region ?_
  refine o_move rfl rfl ?_
  refine o_leq rfl rfl rfl ?_
  refine o_assign rfl rfl ?_
  refine triL_nil ?_
  refine thenQ_normal ?_
  refine tri_ret ?_
  refine end1 rfl rfl ?_
  exact fin_pure

def pkGt (c : Int) : Bool := decide (0 < c)

theorem kGtF (c : Int) (w : World)  : Calls Tryd.prog 60 #[.int .i64 c] w (Pure w (.bool (pkGt c))) := by
  refine calls_tri (args := [.int .i64 c]) (lent := []) (H := []) Tryd.func60 rfl Tryd.ntmps60 rfl (Sat.start _ _ _ _) ?_
  refine (show Tri _ [(0, _)] _ _ _ from ?_)
  refine tri_seq ?_
  refine tri_region ?_
  refine o_assign rfl rfl ?_
  refine triL_nil ?_
  refine thenQ_normal ?_
  refine tri_seq ?_
  refine tri_region ?_
  refine o_move rfl rfl ?_
  refine o_gtr rfl rfl rfl ?_
  refine o_assign rfl rfl ?_
  refine triL_nil ?_
  refine thenQ_normal ?_
  refine tri_ret ?_
  refine end1 rfl rfl ?_
  exact fin_pure

def pkGe (c : Int) : Bool := decide (0 ≤ c)

theorem kGeF (c : Int) (w : World)  : Calls Tryd.prog 61 #[.int .i64 c] w (Pure w (.bool (pkGe c))) := by
  refine calls_tri (args := [.int .i64 c]) (lent := []) (H := []) Tryd.func61 rfl Tryd.ntmps61 rfl (Sat.start _ _ _ _) ?_
  refine (show Tri _ [(0, _)] _ _ _ from ?_)
  refine tri_seq ?_
  refine tri_region ?_
  refine o_assign rfl rfl ?_
  refine triL_nil ?_
  refine thenQ_normal ?_
  refine tri_seq ?_
  refine tri_region ?_
  refine o_move rfl rfl ?_
  refine o_geq rfl rfl rfl ?_
  refine o_assign rfl rfl ?_
  refine triL_nil ?_
  refine thenQ_normal ?_
  refine tri_ret ?_
  refine end1 rfl rfl ?_
  exact fin_pure

theorem comparedK (a b : Val) (p : Int → Bool) (q : Nat) (w : World) (fa : fit a) (fb : fit b) (hc : ∀ args w, (callFunc q args).run Tryd.prog w = .ok (.enter q args) w) (hq : ∀ c w, Calls Tryd.prog q #[.int .i64 c] w (Pure w (.bool (p c)))) : Calls Tryd.prog 55 #[aggV a, aggV b, .func (.func q) #[] #[]] w (Pure w (resV (held p a b))) := by
  refine calls_tri (args := [aggV a, aggV b, .func (.func q) #[] #[]]) (lent := []) (H := []) Tryd.func55 rfl Tryd.ntmps55 rfl (Sat.start _ _ _ _) ?_
  refine (show Tri _ [(0, _), (1, _), (2, _)] _ _ _ from ?_)
  refine tri_seq ?_
  refine tri_region ?_
  refine o_box (Val.cs _) rfl rfl rfl (fun b3 => ?_)
  refine o_box (Val.cs _) rfl rfl rfl (fun b4 => ?_)
  refine o_alloc (Val.cs Val.zero) rfl zero23 rfl (fun b6 => ?_)
  refine o_assign rfl rfl ?_
  refine triL_nil ?_
  refine thenQ_normal ?_
  refine tri_seq ?_
  refine tri_seq ?_
  refine tri_region ?_
  refine o_loadBV agg23 sz23 (by first | exact Nth.z | exact .s .z | exact .s (.s .z) | exact .s (.s (.s .z)) | exact .s (.s (.s (.s .z))) | exact .s (.s (.s (.s (.s .z)))) | exact .s (.s (.s (.s (.s (.s .z))))) | exact .s (.s (.s (.s (.s (.s (.s .z))))))) rfl rfl ?_
  refine o_callP (first := []) (cap := []) rfl rfl rfl Tryd.call14 (fun w_ hw_ => mayK _ w_ (by assumption)) ?_
  refine o_not rfl rfl ?_
  refine o_move rfl rfl ?_
  refine' triL_or [_, _, _] [(6, _), (4, _), (3, _), (2, _)] (dj := 11) (dr := 14) rfl rfl (fun g1 => ?_) ⟨_, rfl, rfl, rfl, (.cons rfl (.cons rfl (.cons rfl (.cons rfl (.nil _)))))⟩ rfl ?_
  rotate_left
  · skip
    refine o_loadBV agg23 sz23 (by first | exact Nth.z | exact .s .z | exact .s (.s .z) | exact .s (.s (.s .z)) | exact .s (.s (.s (.s .z))) | exact .s (.s (.s (.s (.s .z)))) | exact .s (.s (.s (.s (.s (.s .z))))) | exact .s (.s (.s (.s (.s (.s (.s .z))))))) rfl rfl ?_
    refine o_callP (first := []) (cap := []) rfl rfl rfl Tryd.call14 (fun w_ hw_ => mayK _ w_ (by assumption)) ?_
    refine o_not rfl rfl ?_
    exact triL_nil (Piece.mk rfl rfl (.cons rfl (.cons rfl (.cons rfl (.cons rfl (.nil _))))) (fun _ h => h))
  refine triL_nil ?_
  refine thenQ_normal ?_
  refine tri_cond rfl (fun h1 => ?_) (fun h1 => ?_)
  · skip
    have h1 : ¬ (may a && may b) = true := fun e => by simp only [Bool.and_eq_true] at e; simp [e.1, e.2] at h1
    refine tri_seq ?_
    refine tri_slots [(6, _)] (.cons rfl (.nil _)) ?_
    refine tri_region ?_
    refine o_build bval23 rfl rfl ?_
    refine o_storeBV sz23 (by first | exact Nth.z | exact .s .z | exact .s (.s .z) | exact .s (.s (.s .z)) | exact .s (.s (.s (.s .z))) | exact .s (.s (.s (.s (.s .z)))) | exact .s (.s (.s (.s (.s (.s .z))))) | exact .s (.s (.s (.s (.s (.s (.s .z))))))) rfl rfl rfl ?_
    refine o_assign rfl rfl ?_
    refine triL_nil ?_
    refine thenQ_normal ?_
    refine tri_ret ?_
    refine thenQ_ret ?_
    refine endC2 rfl agg23 sz23 (by first | exact Nth.z | exact .s .z | exact .s (.s .z) | exact .s (.s (.s .z)) | exact .s (.s (.s (.s .z))) | exact .s (.s (.s (.s (.s .z)))) | exact .s (.s (.s (.s (.s (.s .z))))) | exact .s (.s (.s (.s (.s (.s (.s .z))))))) rfl rfl rfl ?_
    exact fun w1 hw1 => ⟨by have e : held p a b = (Val.zero, 5) := (by rw [held, if_neg h1]); rw [e] <;> rfl, hw1.chg⟩
  · skip
    have h1 : (may a && may b) = true := by cases x1 : may a <;> cases x2 : may b <;> simp [x1, x2] at h1 ⊢
    have ma : may a = true := (Bool.and_eq_true_iff.1 h1).1
    have mb : may b = true := (Bool.and_eq_true_iff.1 h1).2
    refine tri_skip ?_
    refine thenQ_normal ?_
    refine tri_seq ?_
    refine tri_seq ?_
    refine tri_region ?_
    refine o_field fo23_0 rfl rfl ?_
    refine o_load agg3 (by first | exact Nth.z | exact .s .z | exact .s (.s .z) | exact .s (.s (.s .z)) | exact .s (.s (.s (.s .z))) | exact .s (.s (.s (.s (.s .z)))) | exact .s (.s (.s (.s (.s (.s .z))))) | exact .s (.s (.s (.s (.s (.s (.s .z))))))) rfl rfl rfl ?_
    refine o_eqlI rfl rfl rfl ?_
    refine o_move rfl rfl ?_
    refine' triL_or [_, _, _] [(6, _), (4, _), (3, _), (2, _)] (dj := 20) (dr := 23) rfl rfl (fun g2 => ?_) ⟨_, rfl, rfl, rfl, (.cons rfl (.cons rfl (.cons rfl (.cons rfl (.nil _)))))⟩ rfl ?_
    rotate_left
    · skip
      have g2 := of_decide_eq_false g2
      refine o_field fo23_0 rfl rfl ?_
      refine o_load agg3 (by first | exact Nth.z | exact .s .z | exact .s (.s .z) | exact .s (.s (.s .z)) | exact .s (.s (.s (.s .z))) | exact .s (.s (.s (.s (.s .z)))) | exact .s (.s (.s (.s (.s (.s .z))))) | exact .s (.s (.s (.s (.s (.s (.s .z))))))) rfl rfl rfl ?_
      refine o_eqlI rfl rfl rfl ?_
      exact triL_nil (Piece.mk rfl rfl (.cons rfl (.cons rfl (.cons rfl (.cons rfl (.nil _))))) (fun _ h => h))
    refine triL_nil ?_
    refine thenQ_normal ?_
    refine tri_cond rfl (fun h2 => ?_) (fun h2 => ?_)
    · skip
      simp only [Bool.or_eq_true, decide_eq_true_eq] at h2
      refine tri_seq ?_
      refine tri_slots [(6, _)] (.cons rfl (.nil _)) ?_
      refine tri_region ?_
      refine o_build bval23 rfl rfl ?_
      refine o_storeBV sz23 (by first | exact Nth.z | exact .s .z | exact .s (.s .z) | exact .s (.s (.s .z)) | exact .s (.s (.s (.s .z))) | exact .s (.s (.s (.s (.s .z)))) | exact .s (.s (.s (.s (.s (.s .z))))) | exact .s (.s (.s (.s (.s (.s (.s .z))))))) rfl rfl rfl ?_
      refine o_assign rfl rfl ?_
      refine triL_nil ?_
      refine thenQ_normal ?_
      refine tri_ret ?_
      refine thenQ_ret ?_
      refine endC2 rfl agg23 sz23 (by first | exact Nth.z | exact .s .z | exact .s (.s .z) | exact .s (.s (.s .z)) | exact .s (.s (.s (.s .z))) | exact .s (.s (.s (.s (.s .z)))) | exact .s (.s (.s (.s (.s (.s .z))))) | exact .s (.s (.s (.s (.s (.s (.s .z))))))) rfl rfl rfl ?_
      exact fun w1 hw1 => ⟨by have e : held p a b = (Val.zero, 0) := (by rw [held, if_pos h1, if_pos h2]); rw [e] <;> rfl, hw1.chg⟩
    · skip
      simp only [Bool.or_eq_false_iff, decide_eq_false_iff_not] at h2
      refine tri_skip ?_
      refine thenQ_normal ?_
      refine tri_seq ?_
      refine tri_seq ?_
      refine tri_region ?_
      refine o_field fo23_0 rfl rfl ?_
      refine o_load agg3 (by first | exact Nth.z | exact .s .z | exact .s (.s .z) | exact .s (.s (.s .z)) | exact .s (.s (.s (.s .z))) | exact .s (.s (.s (.s (.s .z)))) | exact .s (.s (.s (.s (.s (.s .z))))) | exact .s (.s (.s (.s (.s (.s (.s .z))))))) rfl rfl rfl ?_
      refine o_field fo23_0 rfl rfl ?_
      refine o_load agg3 (by first | exact Nth.z | exact .s .z | exact .s (.s .z) | exact .s (.s (.s .z)) | exact .s (.s (.s (.s .z))) | exact .s (.s (.s (.s (.s .z)))) | exact .s (.s (.s (.s (.s (.s .z))))) | exact .s (.s (.s (.s (.s (.s (.s .z))))))) rfl rfl rfl ?_
      refine o_neqI rfl rfl rfl ?_
      refine triL_nil ?_
      refine thenQ_normal ?_
      refine tri_if rfl (fun h3 => ?_) (fun h3 => ?_)
      · skip
        refine tri_seq ?_
        refine tri_slots [(6, _)] (.cons rfl (.nil _)) ?_
        refine tri_region ?_
        refine o_build bval23 rfl rfl ?_
        refine o_storeBV sz23 (by first | exact Nth.z | exact .s .z | exact .s (.s .z) | exact .s (.s (.s .z)) | exact .s (.s (.s (.s .z))) | exact .s (.s (.s (.s (.s .z)))) | exact .s (.s (.s (.s (.s (.s .z))))) | exact .s (.s (.s (.s (.s (.s (.s .z))))))) rfl rfl rfl ?_
        refine o_assign rfl rfl ?_
        refine triL_nil ?_
        refine thenQ_normal ?_
        refine tri_ret ?_
        refine thenQ_ret ?_
        refine endC2 rfl agg23 sz23 (by first | exact Nth.z | exact .s .z | exact .s (.s .z) | exact .s (.s (.s .z)) | exact .s (.s (.s (.s .z))) | exact .s (.s (.s (.s (.s .z)))) | exact .s (.s (.s (.s (.s (.s .z))))) | exact .s (.s (.s (.s (.s (.s (.s .z))))))) rfl rfl rfl ?_
        exact fun w1 hw1 => ⟨by have e : held p a b = (Val.zero, 30) := (by rw [held, if_pos h1, if_neg (by omega), if_neg h3]); rw [e] <;> rfl, hw1.chg⟩
      · skip
        have h3 : a.k = b.k := Decidable.not_not.1 h3
        refine tri_skip ?_
        refine thenQ_normal ?_
        refine tri_seq ?_
        refine tri_slots [(6, _), (4, _), (3, _), (2, _)] (.cons rfl (.cons rfl (.cons rfl (.cons rfl (.nil _))))) ?_
        refine tri_region ?_
        refine o_move rfl rfl ?_
        refine o_loadBV agg23 sz23 (by first | exact Nth.z | exact .s .z | exact .s (.s .z) | exact .s (.s (.s .z)) | exact .s (.s (.s (.s .z))) | exact .s (.s (.s (.s (.s .z)))) | exact .s (.s (.s (.s (.s (.s .z))))) | exact .s (.s (.s (.s (.s (.s (.s .z))))))) rfl rfl ?_
        refine o_loadBV agg23 sz23 (by first | exact Nth.z | exact .s .z | exact .s (.s .z) | exact .s (.s (.s .z)) | exact .s (.s (.s (.s .z))) | exact .s (.s (.s (.s (.s .z)))) | exact .s (.s (.s (.s (.s (.s .z))))) | exact .s (.s (.s (.s (.s (.s (.s .z))))))) rfl rfl ?_
        refine o_callP (first := []) (cap := []) rfl rfl rfl Tryd.call45 (fun w_ hw_ => orderK _ _ w_ (by assumption) (by assumption)) ?_
        refine o_callP (first := []) (cap := []) rfl rfl rfl hc (fun w1 h1 => hq _ w1) ?_
        refine o_callP (first := []) (cap := []) rfl rfl rfl Tryd.call63 (fun w_ hw_ => yesK _ w_) ?_
        refine o_storeBV sz23 (by first | exact Nth.z | exact .s .z | exact .s (.s .z) | exact .s (.s (.s .z)) | exact .s (.s (.s (.s .z))) | exact .s (.s (.s (.s (.s .z)))) | exact .s (.s (.s (.s (.s (.s .z))))) | exact .s (.s (.s (.s (.s (.s (.s .z))))))) rfl rfl rfl ?_
        refine o_assign rfl rfl ?_
        refine triL_nil ?_
        refine thenQ_normal ?_
        refine tri_ret ?_
        refine endC2 rfl agg23 sz23 (by first | exact Nth.z | exact .s .z | exact .s (.s .z) | exact .s (.s (.s .z)) | exact .s (.s (.s (.s .z))) | exact .s (.s (.s (.s (.s .z)))) | exact .s (.s (.s (.s (.s (.s .z))))) | exact .s (.s (.s (.s (.s (.s (.s .z))))))) rfl rfl rfl ?_
        exact fun w1 hw1 => ⟨by have e : held p a b = (truth (p (cmpV a b)), 0) := (by rw [held, if_pos h1, if_neg (by omega), if_pos h3]); rw [e] <;> rfl, hw1.chg⟩

theorem kEq (a b : Val) (w : World) (fa : fit a) (fb : fit b) : Calls Tryd.prog 23 #[aggV a, aggV b] w (Pure w (resV (held pkEq a b))) := by
  refine calls_tri (args := [aggV a, aggV b]) (lent := []) (H := []) Tryd.func23 rfl Tryd.ntmps23 rfl (Sat.start _ _ _ _) ?_
  refine (show Tri _ [(0, _), (1, _)] _ _ _ from ?_)
  refine tri_seq ?_
  refine tri_region ?_
  refine o_box (Val.cs _) rfl rfl rfl (fun b2 => ?_)
  refine o_box (Val.cs _) rfl rfl rfl (fun b3 => ?_)
  refine o_alloc (Val.cs Val.zero) rfl zero23 rfl (fun b4 => ?_)
  refine o_assign rfl rfl ?_
  refine triL_nil ?_
  refine thenQ_normal ?_
  refine tri_seq ?_
  refine tri_region ?_
  refine o_loadBV agg23 sz23 (by first | exact Nth.z | exact .s .z | exact .s (.s .z) | exact .s (.s (.s .z)) | exact .s (.s (.s (.s .z))) | exact .s (.s (.s (.s (.s .z)))) | exact .s (.s (.s (.s (.s (.s .z))))) | exact .s (.s (.s (.s (.s (.s (.s .z))))))) rfl rfl ?_
  refine o_loadBV agg23 sz23 (by first | exact Nth.z | exact .s .z | exact .s (.s .z) | exact .s (.s (.s .z)) | exact .s (.s (.s (.s .z))) | exact .s (.s (.s (.s (.s .z)))) | exact .s (.s (.s (.s (.s (.s .z))))) | exact .s (.s (.s (.s (.s (.s (.s .z))))))) rfl rfl ?_
  refine o_callP (first := []) (cap := []) rfl rfl rfl Tryd.call55 (fun w1 h1 => comparedK a b pkEq 56 w1 fa fb Tryd.call56 (fun c w => kEqF c w)) ?_
  refine o_extract rfl rfl rfl ?_
  refine o_extract rfl rfl rfl ?_
  refine o_storeBV sz23 (by first | exact Nth.z | exact .s .z | exact .s (.s .z) | exact .s (.s (.s .z)) | exact .s (.s (.s (.s .z))) | exact .s (.s (.s (.s (.s .z)))) | exact .s (.s (.s (.s (.s (.s .z))))) | exact .s (.s (.s (.s (.s (.s (.s .z))))))) rfl rfl rfl ?_
  refine o_assign rfl rfl ?_
  refine triL_nil ?_
  refine thenQ_normal ?_
  refine tri_ret ?_
  refine endC2 rfl agg23 sz23 (by first | exact Nth.z | exact .s .z | exact .s (.s .z) | exact .s (.s (.s .z)) | exact .s (.s (.s (.s .z))) | exact .s (.s (.s (.s (.s .z)))) | exact .s (.s (.s (.s (.s (.s .z))))) | exact .s (.s (.s (.s (.s (.s (.s .z))))))) rfl rfl rfl ?_
  exact fin_pure

theorem kNe (a b : Val) (w : World) (fa : fit a) (fb : fit b) : Calls Tryd.prog 24 #[aggV a, aggV b] w (Pure w (resV (held pkNe a b))) := by
  refine calls_tri (args := [aggV a, aggV b]) (lent := []) (H := []) Tryd.func24 rfl Tryd.ntmps24 rfl (Sat.start _ _ _ _) ?_
  refine (show Tri _ [(0, _), (1, _)] _ _ _ from ?_)
  refine tri_seq ?_
  refine tri_region ?_
  refine o_box (Val.cs _) rfl rfl rfl (fun b2 => ?_)
  refine o_box (Val.cs _) rfl rfl rfl (fun b3 => ?_)
  refine o_alloc (Val.cs Val.zero) rfl zero23 rfl (fun b4 => ?_)
  refine o_assign rfl rfl ?_
  refine triL_nil ?_
  refine thenQ_normal ?_
  refine tri_seq ?_
  refine tri_region ?_
  refine o_loadBV agg23 sz23 (by first | exact Nth.z | exact .s .z | exact .s (.s .z) | exact .s (.s (.s .z)) | exact .s (.s (.s (.s .z))) | exact .s (.s (.s (.s (.s .z)))) | exact .s (.s (.s (.s (.s (.s .z))))) | exact .s (.s (.s (.s (.s (.s (.s .z))))))) rfl rfl ?_
  refine o_loadBV agg23 sz23 (by first | exact Nth.z | exact .s .z | exact .s (.s .z) | exact .s (.s (.s .z)) | exact .s (.s (.s (.s .z))) | exact .s (.s (.s (.s (.s .z)))) | exact .s (.s (.s (.s (.s (.s .z))))) | exact .s (.s (.s (.s (.s (.s (.s .z))))))) rfl rfl ?_
  refine o_callP (first := []) (cap := []) rfl rfl rfl Tryd.call55 (fun w1 h1 => comparedK a b pkNe 57 w1 fa fb Tryd.call57 (fun c w => kNeF c w)) ?_
  refine o_extract rfl rfl rfl ?_
  refine o_extract rfl rfl rfl ?_
  refine o_storeBV sz23 (by first | exact Nth.z | exact .s .z | exact .s (.s .z) | exact .s (.s (.s .z)) | exact .s (.s (.s (.s .z))) | exact .s (.s (.s (.s (.s .z)))) | exact .s (.s (.s (.s (.s (.s .z))))) | exact .s (.s (.s (.s (.s (.s (.s .z))))))) rfl rfl rfl ?_
  refine o_assign rfl rfl ?_
  refine triL_nil ?_
  refine thenQ_normal ?_
  refine tri_ret ?_
  refine endC2 rfl agg23 sz23 (by first | exact Nth.z | exact .s .z | exact .s (.s .z) | exact .s (.s (.s .z)) | exact .s (.s (.s (.s .z))) | exact .s (.s (.s (.s (.s .z)))) | exact .s (.s (.s (.s (.s (.s .z))))) | exact .s (.s (.s (.s (.s (.s (.s .z))))))) rfl rfl rfl ?_
  exact fin_pure

theorem kLt (a b : Val) (w : World) (fa : fit a) (fb : fit b) : Calls Tryd.prog 25 #[aggV a, aggV b] w (Pure w (resV (held pkLt a b))) := by
  refine calls_tri (args := [aggV a, aggV b]) (lent := []) (H := []) Tryd.func25 rfl Tryd.ntmps25 rfl (Sat.start _ _ _ _) ?_
  refine (show Tri _ [(0, _), (1, _)] _ _ _ from ?_)
  refine tri_seq ?_
  refine tri_region ?_
  refine o_box (Val.cs _) rfl rfl rfl (fun b2 => ?_)
  refine o_box (Val.cs _) rfl rfl rfl (fun b3 => ?_)
  refine o_alloc (Val.cs Val.zero) rfl zero23 rfl (fun b4 => ?_)
  refine o_assign rfl rfl ?_
  refine triL_nil ?_
  refine thenQ_normal ?_
  refine tri_seq ?_
  refine tri_region ?_
  refine o_loadBV agg23 sz23 (by first | exact Nth.z | exact .s .z | exact .s (.s .z) | exact .s (.s (.s .z)) | exact .s (.s (.s (.s .z))) | exact .s (.s (.s (.s (.s .z)))) | exact .s (.s (.s (.s (.s (.s .z))))) | exact .s (.s (.s (.s (.s (.s (.s .z))))))) rfl rfl ?_
  refine o_loadBV agg23 sz23 (by first | exact Nth.z | exact .s .z | exact .s (.s .z) | exact .s (.s (.s .z)) | exact .s (.s (.s (.s .z))) | exact .s (.s (.s (.s (.s .z)))) | exact .s (.s (.s (.s (.s (.s .z))))) | exact .s (.s (.s (.s (.s (.s (.s .z))))))) rfl rfl ?_
  refine o_callP (first := []) (cap := []) rfl rfl rfl Tryd.call55 (fun w1 h1 => comparedK a b pkLt 58 w1 fa fb Tryd.call58 (fun c w => kLtF c w)) ?_
  refine o_extract rfl rfl rfl ?_
  refine o_extract rfl rfl rfl ?_
  refine o_storeBV sz23 (by first | exact Nth.z | exact .s .z | exact .s (.s .z) | exact .s (.s (.s .z)) | exact .s (.s (.s (.s .z))) | exact .s (.s (.s (.s (.s .z)))) | exact .s (.s (.s (.s (.s (.s .z))))) | exact .s (.s (.s (.s (.s (.s (.s .z))))))) rfl rfl rfl ?_
  refine o_assign rfl rfl ?_
  refine triL_nil ?_
  refine thenQ_normal ?_
  refine tri_ret ?_
  refine endC2 rfl agg23 sz23 (by first | exact Nth.z | exact .s .z | exact .s (.s .z) | exact .s (.s (.s .z)) | exact .s (.s (.s (.s .z))) | exact .s (.s (.s (.s (.s .z)))) | exact .s (.s (.s (.s (.s (.s .z))))) | exact .s (.s (.s (.s (.s (.s (.s .z))))))) rfl rfl rfl ?_
  exact fin_pure

theorem kLe (a b : Val) (w : World) (fa : fit a) (fb : fit b) : Calls Tryd.prog 26 #[aggV a, aggV b] w (Pure w (resV (held pkLe a b))) := by
  refine calls_tri (args := [aggV a, aggV b]) (lent := []) (H := []) Tryd.func26 rfl Tryd.ntmps26 rfl (Sat.start _ _ _ _) ?_
  refine (show Tri _ [(0, _), (1, _)] _ _ _ from ?_)
  refine tri_seq ?_
  refine tri_region ?_
  refine o_box (Val.cs _) rfl rfl rfl (fun b2 => ?_)
  refine o_box (Val.cs _) rfl rfl rfl (fun b3 => ?_)
  refine o_alloc (Val.cs Val.zero) rfl zero23 rfl (fun b4 => ?_)
  refine o_assign rfl rfl ?_
  refine triL_nil ?_
  refine thenQ_normal ?_
  refine tri_seq ?_
  refine tri_region ?_
  refine o_loadBV agg23 sz23 (by first | exact Nth.z | exact .s .z | exact .s (.s .z) | exact .s (.s (.s .z)) | exact .s (.s (.s (.s .z))) | exact .s (.s (.s (.s (.s .z)))) | exact .s (.s (.s (.s (.s (.s .z))))) | exact .s (.s (.s (.s (.s (.s (.s .z))))))) rfl rfl ?_
  refine o_loadBV agg23 sz23 (by first | exact Nth.z | exact .s .z | exact .s (.s .z) | exact .s (.s (.s .z)) | exact .s (.s (.s (.s .z))) | exact .s (.s (.s (.s (.s .z)))) | exact .s (.s (.s (.s (.s (.s .z))))) | exact .s (.s (.s (.s (.s (.s (.s .z))))))) rfl rfl ?_
  refine o_callP (first := []) (cap := []) rfl rfl rfl Tryd.call55 (fun w1 h1 => comparedK a b pkLe 59 w1 fa fb Tryd.call59 (fun c w => kLeF c w)) ?_
  refine o_extract rfl rfl rfl ?_
  refine o_extract rfl rfl rfl ?_
  refine o_storeBV sz23 (by first | exact Nth.z | exact .s .z | exact .s (.s .z) | exact .s (.s (.s .z)) | exact .s (.s (.s (.s .z))) | exact .s (.s (.s (.s (.s .z)))) | exact .s (.s (.s (.s (.s (.s .z))))) | exact .s (.s (.s (.s (.s (.s (.s .z))))))) rfl rfl rfl ?_
  refine o_assign rfl rfl ?_
  refine triL_nil ?_
  refine thenQ_normal ?_
  refine tri_ret ?_
  refine endC2 rfl agg23 sz23 (by first | exact Nth.z | exact .s .z | exact .s (.s .z) | exact .s (.s (.s .z)) | exact .s (.s (.s (.s .z))) | exact .s (.s (.s (.s (.s .z)))) | exact .s (.s (.s (.s (.s (.s .z))))) | exact .s (.s (.s (.s (.s (.s (.s .z))))))) rfl rfl rfl ?_
  exact fin_pure

theorem kGt (a b : Val) (w : World) (fa : fit a) (fb : fit b) : Calls Tryd.prog 27 #[aggV a, aggV b] w (Pure w (resV (held pkGt a b))) := by
  refine calls_tri (args := [aggV a, aggV b]) (lent := []) (H := []) Tryd.func27 rfl Tryd.ntmps27 rfl (Sat.start _ _ _ _) ?_
  refine (show Tri _ [(0, _), (1, _)] _ _ _ from ?_)
  refine tri_seq ?_
  refine tri_region ?_
  refine o_box (Val.cs _) rfl rfl rfl (fun b2 => ?_)
  refine o_box (Val.cs _) rfl rfl rfl (fun b3 => ?_)
  refine o_alloc (Val.cs Val.zero) rfl zero23 rfl (fun b4 => ?_)
  refine o_assign rfl rfl ?_
  refine triL_nil ?_
  refine thenQ_normal ?_
  refine tri_seq ?_
  refine tri_region ?_
  refine o_loadBV agg23 sz23 (by first | exact Nth.z | exact .s .z | exact .s (.s .z) | exact .s (.s (.s .z)) | exact .s (.s (.s (.s .z))) | exact .s (.s (.s (.s (.s .z)))) | exact .s (.s (.s (.s (.s (.s .z))))) | exact .s (.s (.s (.s (.s (.s (.s .z))))))) rfl rfl ?_
  refine o_loadBV agg23 sz23 (by first | exact Nth.z | exact .s .z | exact .s (.s .z) | exact .s (.s (.s .z)) | exact .s (.s (.s (.s .z))) | exact .s (.s (.s (.s (.s .z)))) | exact .s (.s (.s (.s (.s (.s .z))))) | exact .s (.s (.s (.s (.s (.s (.s .z))))))) rfl rfl ?_
  refine o_callP (first := []) (cap := []) rfl rfl rfl Tryd.call55 (fun w1 h1 => comparedK a b pkGt 60 w1 fa fb Tryd.call60 (fun c w => kGtF c w)) ?_
  refine o_extract rfl rfl rfl ?_
  refine o_extract rfl rfl rfl ?_
  refine o_storeBV sz23 (by first | exact Nth.z | exact .s .z | exact .s (.s .z) | exact .s (.s (.s .z)) | exact .s (.s (.s (.s .z))) | exact .s (.s (.s (.s (.s .z)))) | exact .s (.s (.s (.s (.s (.s .z))))) | exact .s (.s (.s (.s (.s (.s (.s .z))))))) rfl rfl rfl ?_
  refine o_assign rfl rfl ?_
  refine triL_nil ?_
  refine thenQ_normal ?_
  refine tri_ret ?_
  refine endC2 rfl agg23 sz23 (by first | exact Nth.z | exact .s .z | exact .s (.s .z) | exact .s (.s (.s .z)) | exact .s (.s (.s (.s .z))) | exact .s (.s (.s (.s (.s .z)))) | exact .s (.s (.s (.s (.s (.s .z))))) | exact .s (.s (.s (.s (.s (.s (.s .z))))))) rfl rfl rfl ?_
  exact fin_pure

theorem kGe (a b : Val) (w : World) (fa : fit a) (fb : fit b) : Calls Tryd.prog 28 #[aggV a, aggV b] w (Pure w (resV (held pkGe a b))) := by
  refine calls_tri (args := [aggV a, aggV b]) (lent := []) (H := []) Tryd.func28 rfl Tryd.ntmps28 rfl (Sat.start _ _ _ _) ?_
  refine (show Tri _ [(0, _), (1, _)] _ _ _ from ?_)
  refine tri_seq ?_
  refine tri_region ?_
  refine o_box (Val.cs _) rfl rfl rfl (fun b2 => ?_)
  refine o_box (Val.cs _) rfl rfl rfl (fun b3 => ?_)
  refine o_alloc (Val.cs Val.zero) rfl zero23 rfl (fun b4 => ?_)
  refine o_assign rfl rfl ?_
  refine triL_nil ?_
  refine thenQ_normal ?_
  refine tri_seq ?_
  refine tri_region ?_
  refine o_loadBV agg23 sz23 (by first | exact Nth.z | exact .s .z | exact .s (.s .z) | exact .s (.s (.s .z)) | exact .s (.s (.s (.s .z))) | exact .s (.s (.s (.s (.s .z)))) | exact .s (.s (.s (.s (.s (.s .z))))) | exact .s (.s (.s (.s (.s (.s (.s .z))))))) rfl rfl ?_
  refine o_loadBV agg23 sz23 (by first | exact Nth.z | exact .s .z | exact .s (.s .z) | exact .s (.s (.s .z)) | exact .s (.s (.s (.s .z))) | exact .s (.s (.s (.s (.s .z)))) | exact .s (.s (.s (.s (.s (.s .z))))) | exact .s (.s (.s (.s (.s (.s (.s .z))))))) rfl rfl ?_
  refine o_callP (first := []) (cap := []) rfl rfl rfl Tryd.call55 (fun w1 h1 => comparedK a b pkGe 61 w1 fa fb Tryd.call61 (fun c w => kGeF c w)) ?_
  refine o_extract rfl rfl rfl ?_
  refine o_extract rfl rfl rfl ?_
  refine o_storeBV sz23 (by first | exact Nth.z | exact .s .z | exact .s (.s .z) | exact .s (.s (.s .z)) | exact .s (.s (.s (.s .z))) | exact .s (.s (.s (.s (.s .z)))) | exact .s (.s (.s (.s (.s (.s .z))))) | exact .s (.s (.s (.s (.s (.s (.s .z))))))) rfl rfl rfl ?_
  refine o_assign rfl rfl ?_
  refine triL_nil ?_
  refine thenQ_normal ?_
  refine tri_ret ?_
  refine endC2 rfl agg23 sz23 (by first | exact Nth.z | exact .s .z | exact .s (.s .z) | exact .s (.s (.s .z)) | exact .s (.s (.s (.s .z))) | exact .s (.s (.s (.s (.s .z)))) | exact .s (.s (.s (.s (.s (.s .z))))) | exact .s (.s (.s (.s (.s (.s (.s .z))))))) rfl rfl rfl ?_
  exact fin_pure

def pR (i : Int) (c : Int) : Bool := if i = 0 then pkEq c else if i = 1 then pkNe c else if i = 2 then pkLt c else if i = 3 then pkLe c else if i = 4 then pkGt c else pkGe c
theorem lt_one (c : Int) : decide (c < 1) = decide (c ≤ 0) := decide_eq_decide.2 (by omega)
theorem gt_m1 (c : Int) : decide (-1 < c) = decide (0 ≤ c) := decide_eq_decide.2 (by omega)

theorem holdsR (i : Int) (a b : Val) (w : World) (fa : fit a) (fb : fit b) : Calls Tryd.prog 29 #[.int .i64 i, aggV a, aggV b] w (Pure w (resV (held (pR i) a b))) := by
  refine calls_tri (args := [.int .i64 i, aggV a, aggV b]) (lent := []) (H := []) Tryd.func29 rfl Tryd.ntmps29 rfl (Sat.start _ _ _ _) ?_
  refine (show Tri _ [(0, _), (1, _), (2, _)] _ _ _ from ?_)
  refine tri_seq ?_
  refine tri_region ?_
  refine o_box (Val.cs _) rfl rfl rfl (fun b4 => ?_)
  refine o_box (Val.cs _) rfl rfl rfl (fun b5 => ?_)
  refine o_alloc (Val.cs Val.zero) rfl zero23 rfl (fun b6 => ?_)
  refine o_assign rfl rfl ?_
  refine triL_nil ?_
  refine thenQ_normal ?_
  refine tri_seq ?_
  refine tri_seq ?_
  refine tri_region ?_
  refine o_loadBV agg23 sz23 (by first | exact Nth.z | exact .s .z | exact .s (.s .z) | exact .s (.s (.s .z)) | exact .s (.s (.s (.s .z))) | exact .s (.s (.s (.s (.s .z)))) | exact .s (.s (.s (.s (.s (.s .z))))) | exact .s (.s (.s (.s (.s (.s (.s .z))))))) rfl rfl ?_
  refine o_callP (first := []) (cap := []) rfl rfl rfl Tryd.call15 (fun w_ hw_ => mayR _ w_ (by assumption)) ?_
  refine o_not rfl rfl ?_
  refine o_move rfl rfl ?_
  refine' triL_or [_, _, _] [(6, _), (5, _), (4, _), (0, _)] (dj := 12) (dr := 15) rfl rfl (fun g1 => ?_) ⟨_, rfl, rfl, rfl, (.cons rfl (.cons rfl (.cons rfl (.cons rfl (.nil _)))))⟩ rfl ?_
  rotate_left
  · skip
    refine o_loadBV agg23 sz23 (by first | exact Nth.z | exact .s .z | exact .s (.s .z) | exact .s (.s (.s .z)) | exact .s (.s (.s (.s .z))) | exact .s (.s (.s (.s (.s .z)))) | exact .s (.s (.s (.s (.s (.s .z))))) | exact .s (.s (.s (.s (.s (.s (.s .z))))))) rfl rfl ?_
    refine o_callP (first := []) (cap := []) rfl rfl rfl Tryd.call15 (fun w_ hw_ => mayR _ w_ (by assumption)) ?_
    refine o_not rfl rfl ?_
    exact triL_nil (Piece.mk rfl rfl (.cons rfl (.cons rfl (.cons rfl (.cons rfl (.nil _))))) (fun _ h => h))
  refine triL_nil ?_
  refine thenQ_normal ?_
  refine tri_cond rfl (fun h1 => ?_) (fun h1 => ?_)
  · skip
    have h1 : ¬ (may a && may b) = true := fun e => by simp only [Bool.and_eq_true] at e; simp [e.1, e.2] at h1
    refine tri_seq ?_
    refine tri_slots [(6, _)] (.cons rfl (.nil _)) ?_
    refine tri_region ?_
    refine o_build bval23 rfl rfl ?_
    refine o_storeBV sz23 (by first | exact Nth.z | exact .s .z | exact .s (.s .z) | exact .s (.s (.s .z)) | exact .s (.s (.s (.s .z))) | exact .s (.s (.s (.s (.s .z)))) | exact .s (.s (.s (.s (.s (.s .z))))) | exact .s (.s (.s (.s (.s (.s (.s .z))))))) rfl rfl rfl ?_
    refine o_assign rfl rfl ?_
    refine triL_nil ?_
    refine thenQ_normal ?_
    refine tri_ret ?_
    refine thenQ_ret ?_
    refine endC2 rfl agg23 sz23 (by first | exact Nth.z | exact .s .z | exact .s (.s .z) | exact .s (.s (.s .z)) | exact .s (.s (.s (.s .z))) | exact .s (.s (.s (.s (.s .z)))) | exact .s (.s (.s (.s (.s (.s .z))))) | exact .s (.s (.s (.s (.s (.s (.s .z))))))) rfl rfl rfl ?_
    exact fun w1 hw1 => ⟨by have e : held (pR i) a b = (Val.zero, 5) := (by rw [held, if_neg h1]); rw [e] <;> rfl, hw1.chg⟩
  · skip
    have h1 : (may a && may b) = true := by cases x1 : may a <;> cases x2 : may b <;> simp [x1, x2] at h1 ⊢
    have ma : may a = true := (Bool.and_eq_true_iff.1 h1).1
    have mb : may b = true := (Bool.and_eq_true_iff.1 h1).2
    refine tri_skip ?_
    refine thenQ_normal ?_
    refine tri_seq ?_
    refine tri_seq ?_
    refine tri_region ?_
    refine o_field fo23_0 rfl rfl ?_
    refine o_load agg3 (by first | exact Nth.z | exact .s .z | exact .s (.s .z) | exact .s (.s (.s .z)) | exact .s (.s (.s (.s .z))) | exact .s (.s (.s (.s (.s .z)))) | exact .s (.s (.s (.s (.s (.s .z))))) | exact .s (.s (.s (.s (.s (.s (.s .z))))))) rfl rfl rfl ?_
    refine o_eqlI rfl rfl rfl ?_
    refine o_move rfl rfl ?_
    refine' triL_or [_, _, _] [(6, _), (5, _), (4, _), (0, _)] (dj := 21) (dr := 24) rfl rfl (fun g2 => ?_) ⟨_, rfl, rfl, rfl, (.cons rfl (.cons rfl (.cons rfl (.cons rfl (.nil _)))))⟩ rfl ?_
    rotate_left
    · skip
      have g2 := of_decide_eq_false g2
      refine o_field fo23_0 rfl rfl ?_
      refine o_load agg3 (by first | exact Nth.z | exact .s .z | exact .s (.s .z) | exact .s (.s (.s .z)) | exact .s (.s (.s (.s .z))) | exact .s (.s (.s (.s (.s .z)))) | exact .s (.s (.s (.s (.s (.s .z))))) | exact .s (.s (.s (.s (.s (.s (.s .z))))))) rfl rfl rfl ?_
      refine o_eqlI rfl rfl rfl ?_
      exact triL_nil (Piece.mk rfl rfl (.cons rfl (.cons rfl (.cons rfl (.cons rfl (.nil _))))) (fun _ h => h))
    refine triL_nil ?_
    refine thenQ_normal ?_
    refine tri_cond rfl (fun h2 => ?_) (fun h2 => ?_)
    · skip
      simp only [Bool.or_eq_true, decide_eq_true_eq] at h2
      refine tri_seq ?_
      refine tri_slots [(6, _)] (.cons rfl (.nil _)) ?_
      refine tri_region ?_
      refine o_build bval23 rfl rfl ?_
      refine o_storeBV sz23 (by first | exact Nth.z | exact .s .z | exact .s (.s .z) | exact .s (.s (.s .z)) | exact .s (.s (.s (.s .z))) | exact .s (.s (.s (.s (.s .z)))) | exact .s (.s (.s (.s (.s (.s .z))))) | exact .s (.s (.s (.s (.s (.s (.s .z))))))) rfl rfl rfl ?_
      refine o_assign rfl rfl ?_
      refine triL_nil ?_
      refine thenQ_normal ?_
      refine tri_ret ?_
      refine thenQ_ret ?_
      refine endC2 rfl agg23 sz23 (by first | exact Nth.z | exact .s .z | exact .s (.s .z) | exact .s (.s (.s .z)) | exact .s (.s (.s (.s .z))) | exact .s (.s (.s (.s (.s .z)))) | exact .s (.s (.s (.s (.s (.s .z))))) | exact .s (.s (.s (.s (.s (.s (.s .z))))))) rfl rfl rfl ?_
      exact fun w1 hw1 => ⟨by have e : held (pR i) a b = (Val.zero, 0) := (by rw [held, if_pos h1, if_pos h2]); rw [e] <;> rfl, hw1.chg⟩
    · skip
      simp only [Bool.or_eq_false_iff, decide_eq_false_iff_not] at h2
      refine tri_skip ?_
      refine thenQ_normal ?_
      refine tri_seq ?_
      refine tri_seq ?_
      refine tri_region ?_
      refine o_field fo23_0 rfl rfl ?_
      refine o_load agg3 (by first | exact Nth.z | exact .s .z | exact .s (.s .z) | exact .s (.s (.s .z)) | exact .s (.s (.s (.s .z))) | exact .s (.s (.s (.s (.s .z)))) | exact .s (.s (.s (.s (.s (.s .z))))) | exact .s (.s (.s (.s (.s (.s (.s .z))))))) rfl rfl rfl ?_
      refine o_field fo23_0 rfl rfl ?_
      refine o_load agg3 (by first | exact Nth.z | exact .s .z | exact .s (.s .z) | exact .s (.s (.s .z)) | exact .s (.s (.s (.s .z))) | exact .s (.s (.s (.s (.s .z)))) | exact .s (.s (.s (.s (.s (.s .z))))) | exact .s (.s (.s (.s (.s (.s (.s .z))))))) rfl rfl rfl ?_
      refine o_neqI rfl rfl rfl ?_
      refine triL_nil ?_
      refine thenQ_normal ?_
      refine tri_if rfl (fun h3 => ?_) (fun h3 => ?_)
      · skip
        refine tri_seq ?_
        refine tri_slots [(6, _)] (.cons rfl (.nil _)) ?_
        refine tri_region ?_
        refine o_build bval23 rfl rfl ?_
        refine o_storeBV sz23 (by first | exact Nth.z | exact .s .z | exact .s (.s .z) | exact .s (.s (.s .z)) | exact .s (.s (.s (.s .z))) | exact .s (.s (.s (.s (.s .z)))) | exact .s (.s (.s (.s (.s (.s .z))))) | exact .s (.s (.s (.s (.s (.s (.s .z))))))) rfl rfl rfl ?_
        refine o_assign rfl rfl ?_
        refine triL_nil ?_
        refine thenQ_normal ?_
        refine tri_ret ?_
        refine thenQ_ret ?_
        refine endC2 rfl agg23 sz23 (by first | exact Nth.z | exact .s .z | exact .s (.s .z) | exact .s (.s (.s .z)) | exact .s (.s (.s (.s .z))) | exact .s (.s (.s (.s (.s .z)))) | exact .s (.s (.s (.s (.s (.s .z))))) | exact .s (.s (.s (.s (.s (.s (.s .z))))))) rfl rfl rfl ?_
        exact fun w1 hw1 => ⟨by have e : held (pR i) a b = (Val.zero, 30) := (by rw [held, if_pos h1, if_neg (by omega), if_neg h3]); rw [e] <;> rfl, hw1.chg⟩
      · skip
        have h3 : a.k = b.k := Decidable.not_not.1 h3
        refine tri_skip ?_
        refine thenQ_normal ?_
        refine tri_seq ?_
        refine tri_slots [(6, _), (5, _), (4, _), (0, _)] (.cons rfl (.cons rfl (.cons rfl (.cons rfl (.nil _))))) ?_
        refine tri_region ?_
        refine o_loadBV agg23 sz23 (by first | exact Nth.z | exact .s .z | exact .s (.s .z) | exact .s (.s (.s .z)) | exact .s (.s (.s (.s .z))) | exact .s (.s (.s (.s (.s .z)))) | exact .s (.s (.s (.s (.s (.s .z))))) | exact .s (.s (.s (.s (.s (.s (.s .z))))))) rfl rfl ?_
        refine o_loadBV agg23 sz23 (by first | exact Nth.z | exact .s .z | exact .s (.s .z) | exact .s (.s (.s .z)) | exact .s (.s (.s (.s .z))) | exact .s (.s (.s (.s (.s .z)))) | exact .s (.s (.s (.s (.s (.s .z))))) | exact .s (.s (.s (.s (.s (.s (.s .z))))))) rfl rfl ?_
        refine o_callP (first := []) (cap := []) rfl rfl rfl Tryd.call46 (fun w_ hw_ => order3 _ _ w_ (by assumption) (by assumption)) ?_
        refine o_assign rfl rfl ?_
        refine triL_nil ?_
        refine thenQ_normal ?_
        refine tri_seq ?_
        refine tri_seq ?_
        refine tri_slots [(8, _), (6, _), (0, _)] (.cons rfl (.cons rfl (.cons rfl (.nil _)))) ?_
        refine tri_region ?_
        refine o_move rfl rfl ?_
        refine o_eqlI rfl rfl rfl ?_
        refine triL_nil ?_
        refine thenQ_normal ?_
        refine tri_if rfl (fun i0 => ?_) (fun i0 => ?_)
        · skip
          refine tri_seq ?_
          refine tri_region ?_
          refine o_move rfl rfl ?_
          refine o_eqlI rfl rfl rfl ?_
          refine o_callP (first := []) (cap := []) rfl rfl rfl Tryd.call62 (fun w_ hw_ => yesR _ w_) ?_
          refine o_storeBV sz23 (by first | exact Nth.z | exact .s .z | exact .s (.s .z) | exact .s (.s (.s .z)) | exact .s (.s (.s (.s .z))) | exact .s (.s (.s (.s (.s .z)))) | exact .s (.s (.s (.s (.s (.s .z))))) | exact .s (.s (.s (.s (.s (.s (.s .z))))))) rfl rfl rfl ?_
          refine o_assign rfl rfl ?_
          refine triL_nil ?_
          refine thenQ_normal ?_
          refine tri_ret ?_
          refine thenQ_ret ?_
          refine endC2 rfl agg23 sz23 (by first | exact Nth.z | exact .s .z | exact .s (.s .z) | exact .s (.s (.s .z)) | exact .s (.s (.s (.s .z))) | exact .s (.s (.s (.s (.s .z)))) | exact .s (.s (.s (.s (.s (.s .z))))) | exact .s (.s (.s (.s (.s (.s (.s .z))))))) rfl rfl rfl ?_
          exact fun w1 hw1 => ⟨by have e : held (pR i) a b = (truth (decide (cmpV a b = 0)), 0) := (by rw [held, if_pos h1, if_neg (by omega), if_pos h3]; rw [pR, if_pos i0]; rfl); rw [e] <;> rfl, hw1.chg⟩
        · skip
          refine tri_skip ?_
          refine thenQ_normal ?_
          refine tri_seq ?_
          refine tri_seq ?_
          refine tri_region ?_
          refine o_move rfl rfl ?_
          refine o_eqlI rfl rfl rfl ?_
          refine triL_nil ?_
          refine thenQ_normal ?_
          refine tri_if rfl (fun i1 => ?_) (fun i1 => ?_)
          · skip
            refine tri_seq ?_
            refine tri_slots [(8, _), (6, _)] (.cons rfl (.cons rfl (.nil _))) ?_
            refine tri_region ?_
            refine o_move rfl rfl ?_
            refine o_neqI rfl rfl rfl ?_
            refine o_callP (first := []) (cap := []) rfl rfl rfl Tryd.call62 (fun w_ hw_ => yesR _ w_) ?_
            refine o_storeBV sz23 (by first | exact Nth.z | exact .s .z | exact .s (.s .z) | exact .s (.s (.s .z)) | exact .s (.s (.s (.s .z))) | exact .s (.s (.s (.s (.s .z)))) | exact .s (.s (.s (.s (.s (.s .z))))) | exact .s (.s (.s (.s (.s (.s (.s .z))))))) rfl rfl rfl ?_
            refine o_assign rfl rfl ?_
            refine triL_nil ?_
            refine thenQ_normal ?_
            refine tri_ret ?_
            refine thenQ_ret ?_
            refine endC2 rfl agg23 sz23 (by first | exact Nth.z | exact .s .z | exact .s (.s .z) | exact .s (.s (.s .z)) | exact .s (.s (.s (.s .z))) | exact .s (.s (.s (.s (.s .z)))) | exact .s (.s (.s (.s (.s (.s .z))))) | exact .s (.s (.s (.s (.s (.s (.s .z))))))) rfl rfl rfl ?_
            exact fun w1 hw1 => ⟨by have e : held (pR i) a b = (truth (decide (cmpV a b ≠ 0)), 0) := (by rw [held, if_pos h1, if_neg (by omega), if_pos h3]; rw [pR, if_neg i0, if_pos i1]; rfl); rw [e] <;> rfl, hw1.chg⟩
          · skip
            refine tri_skip ?_
            refine thenQ_normal ?_
            refine tri_seq ?_
            refine tri_seq ?_
            refine tri_slots [(8, _), (6, _), (0, _)] (.cons rfl (.cons rfl (.cons rfl (.nil _)))) ?_
            refine tri_region ?_
            refine o_move rfl rfl ?_
            refine o_eqlI rfl rfl rfl ?_
            refine triL_nil ?_
            refine thenQ_normal ?_
            refine tri_if rfl (fun i2 => ?_) (fun i2 => ?_)
            · skip
              refine tri_seq ?_
              refine tri_region ?_
              refine o_move rfl rfl ?_
              refine o_lss rfl rfl rfl ?_
              refine o_callP (first := []) (cap := []) rfl rfl rfl Tryd.call62 (fun w_ hw_ => yesR _ w_) ?_
              refine o_storeBV sz23 (by first | exact Nth.z | exact .s .z | exact .s (.s .z) | exact .s (.s (.s .z)) | exact .s (.s (.s (.s .z))) | exact .s (.s (.s (.s (.s .z)))) | exact .s (.s (.s (.s (.s (.s .z))))) | exact .s (.s (.s (.s (.s (.s (.s .z))))))) rfl rfl rfl ?_
              refine o_assign rfl rfl ?_
              refine triL_nil ?_
              refine thenQ_normal ?_
              refine tri_ret ?_
              refine thenQ_ret ?_
              refine endC2 rfl agg23 sz23 (by first | exact Nth.z | exact .s .z | exact .s (.s .z) | exact .s (.s (.s .z)) | exact .s (.s (.s (.s .z))) | exact .s (.s (.s (.s (.s .z)))) | exact .s (.s (.s (.s (.s (.s .z))))) | exact .s (.s (.s (.s (.s (.s (.s .z))))))) rfl rfl rfl ?_
              exact fun w1 hw1 => ⟨by have e : held (pR i) a b = (truth (decide (cmpV a b < 0)), 0) := (by rw [held, if_pos h1, if_neg (by omega), if_pos h3]; rw [pR, if_neg i0, if_neg i1, if_pos i2]; rfl); rw [e] <;> rfl, hw1.chg⟩
            · skip
              refine tri_skip ?_
              refine thenQ_normal ?_
              refine tri_seq ?_
              refine tri_seq ?_
              refine tri_region ?_
              refine o_move rfl rfl ?_
              refine o_eqlI rfl rfl rfl ?_
              refine triL_nil ?_
              refine thenQ_normal ?_
              refine tri_if rfl (fun i3 => ?_) (fun i3 => ?_)
              · skip
                refine tri_seq ?_
                refine tri_slots [(8, _), (6, _)] (.cons rfl (.cons rfl (.nil _))) ?_
                refine tri_region ?_
                refine o_move rfl rfl ?_
                refine o_lss rfl rfl rfl ?_
                refine o_callP (first := []) (cap := []) rfl rfl rfl Tryd.call62 (fun w_ hw_ => yesR _ w_) ?_
                refine o_storeBV sz23 (by first | exact Nth.z | exact .s .z | exact .s (.s .z) | exact .s (.s (.s .z)) | exact .s (.s (.s (.s .z))) | exact .s (.s (.s (.s (.s .z)))) | exact .s (.s (.s (.s (.s (.s .z))))) | exact .s (.s (.s (.s (.s (.s (.s .z))))))) rfl rfl rfl ?_
                refine o_assign rfl rfl ?_
                refine triL_nil ?_
                refine thenQ_normal ?_
                refine tri_ret ?_
                refine thenQ_ret ?_
                refine endC2 rfl agg23 sz23 (by first | exact Nth.z | exact .s .z | exact .s (.s .z) | exact .s (.s (.s .z)) | exact .s (.s (.s (.s .z))) | exact .s (.s (.s (.s (.s .z)))) | exact .s (.s (.s (.s (.s (.s .z))))) | exact .s (.s (.s (.s (.s (.s (.s .z))))))) rfl rfl rfl ?_
                exact fun w1 hw1 => ⟨by have e : held (pR i) a b = (truth (decide (cmpV a b < 1)), 0) := (by rw [held, if_pos h1, if_neg (by omega), if_pos h3]; rw [pR, if_neg i0, if_neg i1, if_neg i2, if_pos i3, pkLe, lt_one]); rw [e] <;> rfl, hw1.chg⟩
              · skip
                refine tri_skip ?_
                refine thenQ_normal ?_
                refine tri_seq ?_
                refine tri_seq ?_
                refine tri_slots [(8, _), (6, _), (0, _)] (.cons rfl (.cons rfl (.cons rfl (.nil _)))) ?_
                refine tri_region ?_
                refine o_move rfl rfl ?_
                refine o_eqlI rfl rfl rfl ?_
                refine triL_nil ?_
                refine thenQ_normal ?_
                refine tri_if rfl (fun i4 => ?_) (fun i4 => ?_)
                · skip
                  refine tri_seq ?_
                  refine tri_region ?_
                  refine o_move rfl rfl ?_
                  refine o_gtr rfl rfl rfl ?_
                  refine o_callP (first := []) (cap := []) rfl rfl rfl Tryd.call62 (fun w_ hw_ => yesR _ w_) ?_
                  refine o_storeBV sz23 (by first | exact Nth.z | exact .s .z | exact .s (.s .z) | exact .s (.s (.s .z)) | exact .s (.s (.s (.s .z))) | exact .s (.s (.s (.s (.s .z)))) | exact .s (.s (.s (.s (.s (.s .z))))) | exact .s (.s (.s (.s (.s (.s (.s .z))))))) rfl rfl rfl ?_
                  refine o_assign rfl rfl ?_
                  refine triL_nil ?_
                  refine thenQ_normal ?_
                  refine tri_ret ?_
                  refine thenQ_ret ?_
                  refine endC2 rfl agg23 sz23 (by first | exact Nth.z | exact .s .z | exact .s (.s .z) | exact .s (.s (.s .z)) | exact .s (.s (.s (.s .z))) | exact .s (.s (.s (.s (.s .z)))) | exact .s (.s (.s (.s (.s (.s .z))))) | exact .s (.s (.s (.s (.s (.s (.s .z))))))) rfl rfl rfl ?_
                  exact fun w1 hw1 => ⟨by have e : held (pR i) a b = (truth (decide (0 < cmpV a b)), 0) := (by rw [held, if_pos h1, if_neg (by omega), if_pos h3]; rw [pR, if_neg i0, if_neg i1, if_neg i2, if_neg i3, if_pos i4]; rfl); rw [e] <;> rfl, hw1.chg⟩
                · skip
                  refine tri_skip ?_
                  refine thenQ_normal ?_
                  refine tri_seq ?_
                  refine tri_region ?_
                  refine o_move rfl rfl ?_
                  refine o_gtr rfl rfl rfl ?_
                  refine o_callP (first := []) (cap := []) rfl rfl rfl Tryd.call62 (fun w_ hw_ => yesR _ w_) ?_
                  refine o_storeBV sz23 (by first | exact Nth.z | exact .s .z | exact .s (.s .z) | exact .s (.s (.s .z)) | exact .s (.s (.s (.s .z))) | exact .s (.s (.s (.s (.s .z)))) | exact .s (.s (.s (.s (.s (.s .z))))) | exact .s (.s (.s (.s (.s (.s (.s .z))))))) rfl rfl rfl ?_
                  refine o_assign rfl rfl ?_
                  refine triL_nil ?_
                  refine thenQ_normal ?_
                  refine tri_ret ?_
                  refine endC2 rfl agg23 sz23 (by first | exact Nth.z | exact .s .z | exact .s (.s .z) | exact .s (.s (.s .z)) | exact .s (.s (.s (.s .z))) | exact .s (.s (.s (.s (.s .z)))) | exact .s (.s (.s (.s (.s (.s .z))))) | exact .s (.s (.s (.s (.s (.s (.s .z))))))) rfl rfl rfl ?_
                  exact fun w1 hw1 => ⟨by have e : held (pR i) a b = (truth (decide (-1 < cmpV a b)), 0) := (by rw [held, if_pos h1, if_neg (by omega), if_pos h3]; rw [pR, if_neg i0, if_neg i1, if_neg i2, if_neg i3, if_neg i4, pkGe, gt_m1]); rw [e] <;> rfl, hw1.chg⟩

theorem andK (a b : Val) (w : World) (fa : fit a) (fb : fit b) : Calls Tryd.prog 30 #[aggV a, aggV b] w (Pure w (resV (andV a b))) := by
  refine calls_tri (args := [aggV a, aggV b]) (lent := []) (H := []) Tryd.func30 rfl Tryd.ntmps30 rfl (Sat.start _ _ _ _) ?_
  refine (show Tri _ [(0, _), (1, _)] _ _ _ from ?_)
  have fab : ∀ v ∈ [a, b], fit v := fun v hv => by rcases List.mem_cons.1 hv with rfl | hv; exact fa; obtain rfl := List.mem_singleton.1 hv; exact fb
  refine tri_seq ?_
  refine tri_region ?_
  refine o_box (Val.cs _) rfl rfl rfl (fun b2 => ?_)
  refine o_box (Val.cs _) rfl rfl rfl (fun b3 => ?_)
  refine o_alloc (Val.cs Val.zero) rfl zero23 rfl (fun b4 => ?_)
  refine o_assign rfl rfl ?_
  refine triL_nil ?_
  refine thenQ_normal ?_
  refine tri_seq ?_
  refine tri_seq ?_
  refine tri_region ?_
  refine o_loadBV agg23 sz23 (by first | exact Nth.z | exact .s .z | exact .s (.s .z) | exact .s (.s (.s .z)) | exact .s (.s (.s (.s .z))) | exact .s (.s (.s (.s (.s .z)))) | exact .s (.s (.s (.s (.s (.s .z))))) | exact .s (.s (.s (.s (.s (.s (.s .z))))))) rfl rfl ?_
  refine o_loadBV agg23 sz23 (by first | exact Nth.z | exact .s .z | exact .s (.s .z) | exact .s (.s (.s .z)) | exact .s (.s (.s (.s .z))) | exact .s (.s (.s (.s (.s .z)))) | exact .s (.s (.s (.s (.s (.s .z))))) | exact .s (.s (.s (.s (.s (.s (.s .z))))))) rfl rfl ?_
  refine o_lit (parts := [_, _]) (valsV [a, b]) Tryd.underlying35 zs23 rfl rfl rfl rfl (by decide) (by decide) (fun b10 => ?_)
  refine o_callP (first := []) (cap := []) rfl rfl rfl Tryd.call52 (fun w1 h1 => allK 3 _ 2 2 [a, b] w1 (h1.rd (RdS.row .z)) rfl (by omega) fab) ?_
  refine o_assign rfl rfl ?_
  refine triL_nil ?_
  refine thenQ_normal ?_
  refine tri_seq ?_
  refine tri_slots [(6, _), (4, _), (3, _), (2, _)] (.cons rfl (.cons rfl (.cons rfl (.cons rfl (.nil _))))) ?_
  refine tri_region ?_
  refine o_move rfl rfl ?_
  refine o_neqI rfl rfl rfl ?_
  refine triL_nil ?_
  refine thenQ_normal ?_
  refine tri_if rfl (fun h1 => ?_) (fun h1 => ?_)
  · skip
    refine tri_seq ?_
    refine tri_slots [(6, _), (4, _)] (.cons rfl (.cons rfl (.nil _))) ?_
    refine tri_region ?_
    refine o_build bval23 rfl rfl ?_
    refine o_move rfl rfl ?_
    refine o_storeBV sz23 (by first | exact Nth.z | exact .s .z | exact .s (.s .z) | exact .s (.s (.s .z)) | exact .s (.s (.s (.s .z))) | exact .s (.s (.s (.s (.s .z)))) | exact .s (.s (.s (.s (.s (.s .z))))) | exact .s (.s (.s (.s (.s (.s (.s .z))))))) rfl rfl rfl ?_
    refine o_assign rfl rfl ?_
    refine triL_nil ?_
    refine thenQ_normal ?_
    refine tri_ret ?_
    refine thenQ_ret ?_
    refine endC2 rfl agg23 sz23 (by first | exact Nth.z | exact .s .z | exact .s (.s .z) | exact .s (.s (.s .z)) | exact .s (.s (.s (.s .z))) | exact .s (.s (.s (.s (.s .z)))) | exact .s (.s (.s (.s (.s (.s .z))))) | exact .s (.s (.s (.s (.s (.s (.s .z))))))) rfl rfl rfl ?_
    exact fun w1 hw1 => ⟨by have e : andV a b = (Val.zero, allE 3 [a, b]) := (by rw [andV, if_neg h1]); rw [e] <;> rfl, hw1.chg⟩
  · skip
    have h1 : allE 3 [a, b] = 0 := Decidable.not_not.1 h1
    refine tri_skip ?_
    refine thenQ_normal ?_
    refine tri_seq ?_
    refine tri_region ?_
    refine o_callP (first := []) (cap := []) rfl rfl rfl Tryd.call63 (fun w_ hw_ => yesK _ w_) ?_
    refine o_alloc (Val.cs Val.zero) rfl zero23 rfl (fun b7 => ?_)
    refine o_storeBV sz23 (by first | exact Nth.z | exact .s .z | exact .s (.s .z) | exact .s (.s (.s .z)) | exact .s (.s (.s (.s .z))) | exact .s (.s (.s (.s (.s .z)))) | exact .s (.s (.s (.s (.s (.s .z))))) | exact .s (.s (.s (.s (.s (.s (.s .z))))))) rfl rfl rfl ?_
    refine triL_nil ?_
    refine thenQ_normal ?_
    refine tri_seq ?_
    refine tri_block ?_
    refine tri_seq ?_
    refine tri_slots [(7, _), (4, _), (3, _), (2, _)] (.cons rfl (.cons rfl (.cons rfl (.cons rfl (.nil _))))) ?_
    refine tri_region ?_
    refine o_loadBV agg23 sz23 (by first | exact Nth.z | exact .s .z | exact .s (.s .z) | exact .s (.s (.s .z)) | exact .s (.s (.s (.s .z))) | exact .s (.s (.s (.s (.s .z)))) | exact .s (.s (.s (.s (.s (.s .z))))) | exact .s (.s (.s (.s (.s (.s (.s .z))))))) rfl rfl ?_
    refine o_loadBV agg23 sz23 (by first | exact Nth.z | exact .s .z | exact .s (.s .z) | exact .s (.s (.s .z)) | exact .s (.s (.s (.s .z))) | exact .s (.s (.s (.s (.s .z)))) | exact .s (.s (.s (.s (.s (.s .z))))) | exact .s (.s (.s (.s (.s (.s (.s .z))))))) rfl rfl ?_
    refine o_eqlV flat23 rfl rfl rfl ?_
    refine o_move rfl rfl ?_
    refine' triL_or [_, _, _] [(7, _), (4, _), (3, _), (2, _)] (dj := 21) (dr := 24) rfl rfl (fun g1 => ?_) ⟨_, rfl, rfl, rfl, (.cons rfl (.cons rfl (.cons rfl (.cons rfl (.nil _)))))⟩ rfl ?_
    rotate_left
    · skip
      have g1 := of_decide_eq_false g1
      refine o_loadBV agg23 sz23 (by first | exact Nth.z | exact .s .z | exact .s (.s .z) | exact .s (.s (.s .z)) | exact .s (.s (.s (.s .z))) | exact .s (.s (.s (.s (.s .z)))) | exact .s (.s (.s (.s (.s (.s .z))))) | exact .s (.s (.s (.s (.s (.s (.s .z))))))) rfl rfl ?_
      refine o_loadBV agg23 sz23 (by first | exact Nth.z | exact .s .z | exact .s (.s .z) | exact .s (.s (.s .z)) | exact .s (.s (.s (.s .z))) | exact .s (.s (.s (.s (.s .z)))) | exact .s (.s (.s (.s (.s (.s .z))))) | exact .s (.s (.s (.s (.s (.s (.s .z))))))) rfl rfl ?_
      refine o_eqlV flat23 rfl rfl rfl ?_
      exact triL_nil (Piece.mk rfl rfl (.cons rfl (.cons rfl (.cons rfl (.cons rfl (.nil _))))) (fun _ h => h))
    refine o_assign rfl rfl ?_
    refine triL_nil ?_
    refine thenQ_normal ?_
    refine tri_cond rfl (fun h2 => ?_) (fun h2 => ?_)
    · skip
      simp only [Bool.or_eq_true, decide_eq_true_eq] at h2
      refine tri_seq ?_
      refine tri_slots [(7, _), (4, _)] (.cons rfl (.cons rfl (.nil _))) ?_
      refine tri_region ?_
      refine o_loadBV agg23 sz23 (by first | exact Nth.z | exact .s .z | exact .s (.s .z) | exact .s (.s (.s .z)) | exact .s (.s (.s (.s .z))) | exact .s (.s (.s (.s (.s .z)))) | exact .s (.s (.s (.s (.s (.s .z))))) | exact .s (.s (.s (.s (.s (.s (.s .z))))))) rfl rfl ?_
      refine o_storeBV sz23 (by first | exact Nth.z | exact .s .z | exact .s (.s .z) | exact .s (.s (.s .z)) | exact .s (.s (.s (.s .z))) | exact .s (.s (.s (.s (.s .z)))) | exact .s (.s (.s (.s (.s (.s .z))))) | exact .s (.s (.s (.s (.s (.s (.s .z))))))) rfl rfl rfl ?_
      refine o_assign rfl rfl ?_
      refine triL_nil ?_
      refine thenQ_normal ?_
      refine tri_ret ?_
      refine blockQ_ret ?_
      refine thenQ_ret ?_
      refine endC2 rfl agg23 sz23 (by first | exact Nth.z | exact .s .z | exact .s (.s .z) | exact .s (.s (.s .z)) | exact .s (.s (.s (.s .z))) | exact .s (.s (.s (.s (.s .z)))) | exact .s (.s (.s (.s (.s (.s .z))))) | exact .s (.s (.s (.s (.s (.s (.s .z))))))) rfl rfl rfl ?_
      exact fun w1 hw1 => ⟨by have e : andV a b = (truth false, 0) := (by rw [andV, if_pos h1, if_pos h2]); rw [e] <;> rfl, hw1.chg⟩
    · skip
      simp only [Bool.or_eq_false_iff, decide_eq_false_iff_not] at h2
      refine tri_seq ?_
      refine tri_region ?_
      refine o_field fo23_0 rfl rfl ?_
      refine o_load agg3 (by first | exact Nth.z | exact .s .z | exact .s (.s .z) | exact .s (.s (.s .z)) | exact .s (.s (.s (.s .z))) | exact .s (.s (.s (.s (.s .z)))) | exact .s (.s (.s (.s (.s (.s .z))))) | exact .s (.s (.s (.s (.s (.s (.s .z))))))) rfl rfl rfl ?_
      refine o_eqlI rfl rfl rfl ?_
      refine o_move rfl rfl ?_
      refine' triL_or [_, _, _] [(4, _)] (dj := 31) (dr := 34) rfl rfl (fun g2 => ?_) ⟨_, rfl, rfl, rfl, (.cons rfl (.nil _))⟩ rfl ?_
      rotate_left
      · skip
        have g2 := of_decide_eq_false g2
        refine o_field fo23_0 rfl rfl ?_
        refine o_load agg3 (by first | exact Nth.z | exact .s .z | exact .s (.s .z) | exact .s (.s (.s .z)) | exact .s (.s (.s (.s .z))) | exact .s (.s (.s (.s (.s .z)))) | exact .s (.s (.s (.s (.s (.s .z))))) | exact .s (.s (.s (.s (.s (.s (.s .z))))))) rfl rfl rfl ?_
        refine o_eqlI rfl rfl rfl ?_
        exact triL_nil (Piece.mk rfl rfl (.cons rfl (.nil _)) (fun _ h => h))
      refine o_assign rfl rfl ?_
      refine triL_nil ?_
      refine thenQ_normal ?_
      refine tri_cond rfl (fun h3 => ?_) (fun h3 => ?_)
      · skip
        simp only [Bool.or_eq_true, decide_eq_true_eq] at h3
        refine tri_seq ?_
        refine tri_region ?_
        refine o_build bval23 rfl rfl ?_
        refine o_storeBV sz23 (by first | exact Nth.z | exact .s .z | exact .s (.s .z) | exact .s (.s (.s .z)) | exact .s (.s (.s (.s .z))) | exact .s (.s (.s (.s (.s .z)))) | exact .s (.s (.s (.s (.s (.s .z))))) | exact .s (.s (.s (.s (.s (.s (.s .z))))))) rfl rfl rfl ?_
        refine o_assign rfl rfl ?_
        refine triL_nil ?_
        refine thenQ_normal ?_
        refine tri_ret ?_
        refine blockQ_ret ?_
        refine thenQ_ret ?_
        refine endC2 rfl agg23 sz23 (by first | exact Nth.z | exact .s .z | exact .s (.s .z) | exact .s (.s (.s .z)) | exact .s (.s (.s (.s .z))) | exact .s (.s (.s (.s (.s .z)))) | exact .s (.s (.s (.s (.s (.s .z))))) | exact .s (.s (.s (.s (.s (.s (.s .z))))))) rfl rfl rfl ?_
        exact fun w1 hw1 => ⟨by have e : andV a b = (Val.zero, 0) := (by rw [andV, if_pos h1, if_neg (fun e => e.elim h2.1 h2.2), if_pos h3]); rw [e] <;> rfl, hw1.chg⟩
      · skip
        simp only [Bool.or_eq_false_iff, decide_eq_false_iff_not] at h3
        refine tri_skip ?_
        refine blockQ_normal ?_
        refine thenQ_normal ?_
        refine tri_seq ?_
        refine tri_region ?_
        refine o_callP (first := []) (cap := []) rfl rfl rfl Tryd.call63 (fun w_ hw_ => yesK _ w_) ?_
        refine o_storeBV sz23 (by first | exact Nth.z | exact .s .z | exact .s (.s .z) | exact .s (.s (.s .z)) | exact .s (.s (.s (.s .z))) | exact .s (.s (.s (.s (.s .z)))) | exact .s (.s (.s (.s (.s (.s .z))))) | exact .s (.s (.s (.s (.s (.s (.s .z))))))) rfl rfl rfl ?_
        refine o_assign rfl rfl ?_
        refine triL_nil ?_
        refine thenQ_normal ?_
        refine tri_ret ?_
        refine endC2 rfl agg23 sz23 (by first | exact Nth.z | exact .s .z | exact .s (.s .z) | exact .s (.s (.s .z)) | exact .s (.s (.s (.s .z))) | exact .s (.s (.s (.s (.s .z)))) | exact .s (.s (.s (.s (.s (.s .z))))) | exact .s (.s (.s (.s (.s (.s (.s .z))))))) rfl rfl rfl ?_
        exact fun w1 hw1 => ⟨by have e : andV a b = (truth true, 0) := (by rw [andV, if_pos h1, if_neg (fun e => e.elim h2.1 h2.2), if_neg (by omega)]); rw [e] <;> rfl, hw1.chg⟩

theorem orK (a b : Val) (w : World) (fa : fit a) (fb : fit b) : Calls Tryd.prog 32 #[aggV a, aggV b] w (Pure w (resV (orV a b))) := by
  refine calls_tri (args := [aggV a, aggV b]) (lent := []) (H := []) Tryd.func32 rfl Tryd.ntmps32 rfl (Sat.start _ _ _ _) ?_
  refine (show Tri _ [(0, _), (1, _)] _ _ _ from ?_)
  have fab : ∀ v ∈ [a, b], fit v := fun v hv => by rcases List.mem_cons.1 hv with rfl | hv; exact fa; obtain rfl := List.mem_singleton.1 hv; exact fb
  refine tri_seq ?_
  refine tri_region ?_
  refine o_box (Val.cs _) rfl rfl rfl (fun b2 => ?_)
  refine o_box (Val.cs _) rfl rfl rfl (fun b3 => ?_)
  refine o_alloc (Val.cs Val.zero) rfl zero23 rfl (fun b4 => ?_)
  refine o_assign rfl rfl ?_
  refine triL_nil ?_
  refine thenQ_normal ?_
  refine tri_seq ?_
  refine tri_seq ?_
  refine tri_region ?_
  refine o_loadBV agg23 sz23 (by first | exact Nth.z | exact .s .z | exact .s (.s .z) | exact .s (.s (.s .z)) | exact .s (.s (.s (.s .z))) | exact .s (.s (.s (.s (.s .z)))) | exact .s (.s (.s (.s (.s (.s .z))))) | exact .s (.s (.s (.s (.s (.s (.s .z))))))) rfl rfl ?_
  refine o_loadBV agg23 sz23 (by first | exact Nth.z | exact .s .z | exact .s (.s .z) | exact .s (.s (.s .z)) | exact .s (.s (.s (.s .z))) | exact .s (.s (.s (.s (.s .z)))) | exact .s (.s (.s (.s (.s (.s .z))))) | exact .s (.s (.s (.s (.s (.s (.s .z))))))) rfl rfl ?_
  refine o_lit (parts := [_, _]) (valsV [a, b]) Tryd.underlying35 zs23 rfl rfl rfl rfl (by decide) (by decide) (fun b10 => ?_)
  refine o_callP (first := []) (cap := []) rfl rfl rfl Tryd.call52 (fun w1 h1 => allK 3 _ 2 2 [a, b] w1 (h1.rd (RdS.row .z)) rfl (by omega) fab) ?_
  refine o_assign rfl rfl ?_
  refine triL_nil ?_
  refine thenQ_normal ?_
  refine tri_seq ?_
  refine tri_slots [(6, _), (4, _), (3, _), (2, _)] (.cons rfl (.cons rfl (.cons rfl (.cons rfl (.nil _))))) ?_
  refine tri_region ?_
  refine o_move rfl rfl ?_
  refine o_neqI rfl rfl rfl ?_
  refine triL_nil ?_
  refine thenQ_normal ?_
  refine tri_if rfl (fun h1 => ?_) (fun h1 => ?_)
  · skip
    refine tri_seq ?_
    refine tri_slots [(6, _), (4, _)] (.cons rfl (.cons rfl (.nil _))) ?_
    refine tri_region ?_
    refine o_build bval23 rfl rfl ?_
    refine o_move rfl rfl ?_
    refine o_storeBV sz23 (by first | exact Nth.z | exact .s .z | exact .s (.s .z) | exact .s (.s (.s .z)) | exact .s (.s (.s (.s .z))) | exact .s (.s (.s (.s (.s .z)))) | exact .s (.s (.s (.s (.s (.s .z))))) | exact .s (.s (.s (.s (.s (.s (.s .z))))))) rfl rfl rfl ?_
    refine o_assign rfl rfl ?_
    refine triL_nil ?_
    refine thenQ_normal ?_
    refine tri_ret ?_
    refine thenQ_ret ?_
    refine endC2 rfl agg23 sz23 (by first | exact Nth.z | exact .s .z | exact .s (.s .z) | exact .s (.s (.s .z)) | exact .s (.s (.s (.s .z))) | exact .s (.s (.s (.s (.s .z)))) | exact .s (.s (.s (.s (.s (.s .z))))) | exact .s (.s (.s (.s (.s (.s (.s .z))))))) rfl rfl rfl ?_
    exact fun w1 hw1 => ⟨by have e : orV a b = (Val.zero, allE 3 [a, b]) := (by rw [orV, if_neg h1]); rw [e] <;> rfl, hw1.chg⟩
  · skip
    have h1 : allE 3 [a, b] = 0 := Decidable.not_not.1 h1
    refine tri_skip ?_
    refine thenQ_normal ?_
    refine tri_seq ?_
    refine tri_region ?_
    refine o_callP (first := []) (cap := []) rfl rfl rfl Tryd.call63 (fun w_ hw_ => yesK _ w_) ?_
    refine o_alloc (Val.cs Val.zero) rfl zero23 rfl (fun b7 => ?_)
    refine o_storeBV sz23 (by first | exact Nth.z | exact .s .z | exact .s (.s .z) | exact .s (.s (.s .z)) | exact .s (.s (.s (.s .z))) | exact .s (.s (.s (.s (.s .z)))) | exact .s (.s (.s (.s (.s (.s .z))))) | exact .s (.s (.s (.s (.s (.s (.s .z))))))) rfl rfl rfl ?_
    refine triL_nil ?_
    refine thenQ_normal ?_
    refine tri_seq ?_
    refine tri_block ?_
    refine tri_seq ?_
    refine tri_slots [(7, _), (4, _), (3, _), (2, _)] (.cons rfl (.cons rfl (.cons rfl (.cons rfl (.nil _))))) ?_
    refine tri_region ?_
    refine o_loadBV agg23 sz23 (by first | exact Nth.z | exact .s .z | exact .s (.s .z) | exact .s (.s (.s .z)) | exact .s (.s (.s (.s .z))) | exact .s (.s (.s (.s (.s .z)))) | exact .s (.s (.s (.s (.s (.s .z))))) | exact .s (.s (.s (.s (.s (.s (.s .z))))))) rfl rfl ?_
    refine o_loadBV agg23 sz23 (by first | exact Nth.z | exact .s .z | exact .s (.s .z) | exact .s (.s (.s .z)) | exact .s (.s (.s (.s .z))) | exact .s (.s (.s (.s (.s .z)))) | exact .s (.s (.s (.s (.s (.s .z))))) | exact .s (.s (.s (.s (.s (.s (.s .z))))))) rfl rfl ?_
    refine o_eqlV flat23 rfl rfl rfl ?_
    refine o_move rfl rfl ?_
    refine' triL_or [_, _, _] [(7, _), (4, _), (3, _), (2, _)] (dj := 21) (dr := 24) rfl rfl (fun g1 => ?_) ⟨_, rfl, rfl, rfl, (.cons rfl (.cons rfl (.cons rfl (.cons rfl (.nil _)))))⟩ rfl ?_
    rotate_left
    · skip
      have g1 := of_decide_eq_false g1
      refine o_loadBV agg23 sz23 (by first | exact Nth.z | exact .s .z | exact .s (.s .z) | exact .s (.s (.s .z)) | exact .s (.s (.s (.s .z))) | exact .s (.s (.s (.s (.s .z)))) | exact .s (.s (.s (.s (.s (.s .z))))) | exact .s (.s (.s (.s (.s (.s (.s .z))))))) rfl rfl ?_
      refine o_loadBV agg23 sz23 (by first | exact Nth.z | exact .s .z | exact .s (.s .z) | exact .s (.s (.s .z)) | exact .s (.s (.s (.s .z))) | exact .s (.s (.s (.s (.s .z)))) | exact .s (.s (.s (.s (.s (.s .z))))) | exact .s (.s (.s (.s (.s (.s (.s .z))))))) rfl rfl ?_
      refine o_eqlV flat23 rfl rfl rfl ?_
      exact triL_nil (Piece.mk rfl rfl (.cons rfl (.cons rfl (.cons rfl (.cons rfl (.nil _))))) (fun _ h => h))
    refine o_assign rfl rfl ?_
    refine triL_nil ?_
    refine thenQ_normal ?_
    refine tri_cond rfl (fun h2 => ?_) (fun h2 => ?_)
    · skip
      simp only [Bool.or_eq_true, decide_eq_true_eq] at h2
      refine tri_seq ?_
      refine tri_slots [(7, _), (4, _)] (.cons rfl (.cons rfl (.nil _))) ?_
      refine tri_region ?_
      refine o_loadBV agg23 sz23 (by first | exact Nth.z | exact .s .z | exact .s (.s .z) | exact .s (.s (.s .z)) | exact .s (.s (.s (.s .z))) | exact .s (.s (.s (.s (.s .z)))) | exact .s (.s (.s (.s (.s (.s .z))))) | exact .s (.s (.s (.s (.s (.s (.s .z))))))) rfl rfl ?_
      refine o_storeBV sz23 (by first | exact Nth.z | exact .s .z | exact .s (.s .z) | exact .s (.s (.s .z)) | exact .s (.s (.s (.s .z))) | exact .s (.s (.s (.s (.s .z)))) | exact .s (.s (.s (.s (.s (.s .z))))) | exact .s (.s (.s (.s (.s (.s (.s .z))))))) rfl rfl rfl ?_
      refine o_assign rfl rfl ?_
      refine triL_nil ?_
      refine thenQ_normal ?_
      refine tri_ret ?_
      refine blockQ_ret ?_
      refine thenQ_ret ?_
      refine endC2 rfl agg23 sz23 (by first | exact Nth.z | exact .s .z | exact .s (.s .z) | exact .s (.s (.s .z)) | exact .s (.s (.s (.s .z))) | exact .s (.s (.s (.s (.s .z)))) | exact .s (.s (.s (.s (.s (.s .z))))) | exact .s (.s (.s (.s (.s (.s (.s .z))))))) rfl rfl rfl ?_
      exact fun w1 hw1 => ⟨by have e : orV a b = (truth true, 0) := (by rw [orV, if_pos h1, if_pos h2]); rw [e] <;> rfl, hw1.chg⟩
    · skip
      simp only [Bool.or_eq_false_iff, decide_eq_false_iff_not] at h2
      refine tri_seq ?_
      refine tri_region ?_
      refine o_field fo23_0 rfl rfl ?_
      refine o_load agg3 (by first | exact Nth.z | exact .s .z | exact .s (.s .z) | exact .s (.s (.s .z)) | exact .s (.s (.s (.s .z))) | exact .s (.s (.s (.s (.s .z)))) | exact .s (.s (.s (.s (.s (.s .z))))) | exact .s (.s (.s (.s (.s (.s (.s .z))))))) rfl rfl rfl ?_
      refine o_eqlI rfl rfl rfl ?_
      refine o_move rfl rfl ?_
      refine' triL_or [_, _, _] [(4, _)] (dj := 31) (dr := 34) rfl rfl (fun g2 => ?_) ⟨_, rfl, rfl, rfl, (.cons rfl (.nil _))⟩ rfl ?_
      rotate_left
      · skip
        have g2 := of_decide_eq_false g2
        refine o_field fo23_0 rfl rfl ?_
        refine o_load agg3 (by first | exact Nth.z | exact .s .z | exact .s (.s .z) | exact .s (.s (.s .z)) | exact .s (.s (.s (.s .z))) | exact .s (.s (.s (.s (.s .z)))) | exact .s (.s (.s (.s (.s (.s .z))))) | exact .s (.s (.s (.s (.s (.s (.s .z))))))) rfl rfl rfl ?_
        refine o_eqlI rfl rfl rfl ?_
        exact triL_nil (Piece.mk rfl rfl (.cons rfl (.nil _)) (fun _ h => h))
      refine o_assign rfl rfl ?_
      refine triL_nil ?_
      refine thenQ_normal ?_
      refine tri_cond rfl (fun h3 => ?_) (fun h3 => ?_)
      · skip
        simp only [Bool.or_eq_true, decide_eq_true_eq] at h3
        refine tri_seq ?_
        refine tri_region ?_
        refine o_build bval23 rfl rfl ?_
        refine o_storeBV sz23 (by first | exact Nth.z | exact .s .z | exact .s (.s .z) | exact .s (.s (.s .z)) | exact .s (.s (.s (.s .z))) | exact .s (.s (.s (.s (.s .z)))) | exact .s (.s (.s (.s (.s (.s .z))))) | exact .s (.s (.s (.s (.s (.s (.s .z))))))) rfl rfl rfl ?_
        refine o_assign rfl rfl ?_
        refine triL_nil ?_
        refine thenQ_normal ?_
        refine tri_ret ?_
        refine blockQ_ret ?_
        refine thenQ_ret ?_
        refine endC2 rfl agg23 sz23 (by first | exact Nth.z | exact .s .z | exact .s (.s .z) | exact .s (.s (.s .z)) | exact .s (.s (.s (.s .z))) | exact .s (.s (.s (.s (.s .z)))) | exact .s (.s (.s (.s (.s (.s .z))))) | exact .s (.s (.s (.s (.s (.s (.s .z))))))) rfl rfl rfl ?_
        exact fun w1 hw1 => ⟨by have e : orV a b = (Val.zero, 0) := (by rw [orV, if_pos h1, if_neg (fun e => e.elim h2.1 h2.2), if_pos h3]); rw [e] <;> rfl, hw1.chg⟩
      · skip
        simp only [Bool.or_eq_false_iff, decide_eq_false_iff_not] at h3
        refine tri_skip ?_
        refine blockQ_normal ?_
        refine thenQ_normal ?_
        refine tri_seq ?_
        refine tri_region ?_
        refine o_callP (first := []) (cap := []) rfl rfl rfl Tryd.call63 (fun w_ hw_ => yesK _ w_) ?_
        refine o_storeBV sz23 (by first | exact Nth.z | exact .s .z | exact .s (.s .z) | exact .s (.s (.s .z)) | exact .s (.s (.s (.s .z))) | exact .s (.s (.s (.s (.s .z)))) | exact .s (.s (.s (.s (.s (.s .z))))) | exact .s (.s (.s (.s (.s (.s (.s .z))))))) rfl rfl rfl ?_
        refine o_assign rfl rfl ?_
        refine triL_nil ?_
        refine thenQ_normal ?_
        refine tri_ret ?_
        refine endC2 rfl agg23 sz23 (by first | exact Nth.z | exact .s .z | exact .s (.s .z) | exact .s (.s (.s .z)) | exact .s (.s (.s (.s .z))) | exact .s (.s (.s (.s (.s .z)))) | exact .s (.s (.s (.s (.s (.s .z))))) | exact .s (.s (.s (.s (.s (.s (.s .z))))))) rfl rfl rfl ?_
        exact fun w1 hw1 => ⟨by have e : orV a b = (truth false, 0) := (by rw [orV, if_pos h1, if_neg (fun e => e.elim h2.1 h2.2), if_neg (by omega)]); rw [e] <;> rfl, hw1.chg⟩

theorem notK (a : Val) (w : World) (fa : fit a) : Calls Tryd.prog 34 #[aggV a] w (Pure w (resV (notV a))) := by
  refine calls_tri (args := [aggV a]) (lent := []) (H := []) Tryd.func34 rfl Tryd.ntmps34 rfl (Sat.start _ _ _ _) ?_
  refine (show Tri _ [(0, _)] _ _ _ from ?_)
  refine tri_seq ?_
  refine tri_region ?_
  refine o_box (Val.cs _) rfl rfl rfl (fun b1 => ?_)
  refine o_alloc (Val.cs Val.zero) rfl zero23 rfl (fun b2 => ?_)
  refine o_assign rfl rfl ?_
  refine triL_nil ?_
  refine thenQ_normal ?_
  refine tri_seq ?_
  refine tri_seq ?_
  refine tri_region ?_
  refine o_loadBV agg23 sz23 (by first | exact Nth.z | exact .s .z | exact .s (.s .z) | exact .s (.s (.s .z)) | exact .s (.s (.s (.s .z))) | exact .s (.s (.s (.s (.s .z)))) | exact .s (.s (.s (.s (.s (.s .z))))) | exact .s (.s (.s (.s (.s (.s (.s .z))))))) rfl rfl ?_
  refine o_lit1 Tryd.underlying35 zs23 rfl rfl rfl rfl rfl (by decide) (by decide) (fun b6 => ?_)
  refine o_callP (first := []) (cap := []) rfl rfl rfl Tryd.call52 (fun w1 h1 => allK 3 _ 1 1 [a] w1 (h1.rd (RdS.row .z)) rfl (by omega) (fun v hv => by obtain rfl := List.mem_singleton.1 hv; exact fa)) ?_
  refine o_assign rfl rfl ?_
  refine triL_nil ?_
  refine thenQ_normal ?_
  refine tri_seq ?_
  refine tri_slots [(4, _), (2, _), (1, _)] (.cons rfl (.cons rfl (.cons rfl (.nil _)))) ?_
  refine tri_region ?_
  refine o_move rfl rfl ?_
  refine o_neqI rfl rfl rfl ?_
  refine o_move rfl rfl ?_
  refine' triL_or [_, _, _] [(4, _), (2, _), (1, _)] (dj := 10) (dr := 13) rfl rfl (fun g1 => ?_) ⟨_, rfl, rfl, rfl, (.cons rfl (.cons rfl (.cons rfl (.nil _))))⟩ rfl ?_
  rotate_left
  · skip
    have g1 := of_decide_eq_false g1
    refine o_field fo23_0 rfl rfl ?_
    refine o_load agg3 (by first | exact Nth.z | exact .s .z | exact .s (.s .z) | exact .s (.s (.s .z)) | exact .s (.s (.s (.s .z))) | exact .s (.s (.s (.s (.s .z)))) | exact .s (.s (.s (.s (.s (.s .z))))) | exact .s (.s (.s (.s (.s (.s (.s .z))))))) rfl rfl rfl ?_
    refine o_eqlI rfl rfl rfl ?_
    exact triL_nil (Piece.mk rfl rfl (.cons rfl (.cons rfl (.cons rfl (.nil _)))) (fun _ h => h))
  refine triL_nil ?_
  refine thenQ_normal ?_
  refine tri_cond rfl (fun h1 => ?_) (fun h1 => ?_)
  · skip
    simp only [Bool.or_eq_true, decide_eq_true_eq] at h1
    refine tri_seq ?_
    refine tri_region ?_
    refine o_build bval23 rfl rfl ?_
    refine o_move rfl rfl ?_
    refine o_storeBV sz23 (by first | exact Nth.z | exact .s .z | exact .s (.s .z) | exact .s (.s (.s .z)) | exact .s (.s (.s (.s .z))) | exact .s (.s (.s (.s (.s .z)))) | exact .s (.s (.s (.s (.s (.s .z))))) | exact .s (.s (.s (.s (.s (.s (.s .z))))))) rfl rfl rfl ?_
    refine o_assign rfl rfl ?_
    refine triL_nil ?_
    refine thenQ_normal ?_
    refine tri_ret ?_
    refine thenQ_ret ?_
    refine endC2 rfl agg23 sz23 (by first | exact Nth.z | exact .s .z | exact .s (.s .z) | exact .s (.s (.s .z)) | exact .s (.s (.s (.s .z))) | exact .s (.s (.s (.s (.s .z)))) | exact .s (.s (.s (.s (.s (.s .z))))) | exact .s (.s (.s (.s (.s (.s (.s .z))))))) rfl rfl rfl ?_
    exact fun w1 hw1 => ⟨by have e : notV a = (Val.zero, allE 3 [a]) := (by rw [notV, if_pos h1]); rw [e] <;> rfl, hw1.chg⟩
  · skip
    simp only [Bool.or_eq_false_iff, decide_eq_false_iff_not] at h1
    refine tri_skip ?_
    refine thenQ_normal ?_
    refine tri_seq ?_
    refine tri_region ?_
    refine o_field fo23_1 rfl rfl ?_
    refine o_load agg2 (by first | exact Nth.z | exact .s .z | exact .s (.s .z) | exact .s (.s (.s .z)) | exact .s (.s (.s (.s .z))) | exact .s (.s (.s (.s (.s .z)))) | exact .s (.s (.s (.s (.s (.s .z))))) | exact .s (.s (.s (.s (.s (.s (.s .z))))))) rfl rfl rfl ?_
    refine o_eqlI rfl rfl rfl ?_
    refine o_callP (first := []) (cap := []) rfl rfl rfl Tryd.call63 (fun w_ hw_ => yesK _ w_) ?_
    refine o_storeBV sz23 (by first | exact Nth.z | exact .s .z | exact .s (.s .z) | exact .s (.s (.s .z)) | exact .s (.s (.s (.s .z))) | exact .s (.s (.s (.s (.s .z)))) | exact .s (.s (.s (.s (.s (.s .z))))) | exact .s (.s (.s (.s (.s (.s (.s .z))))))) rfl rfl rfl ?_
    refine o_assign rfl rfl ?_
    refine triL_nil ?_
    refine thenQ_normal ?_
    refine tri_ret ?_
    refine endC2 rfl agg23 sz23 (by first | exact Nth.z | exact .s .z | exact .s (.s .z) | exact .s (.s (.s .z)) | exact .s (.s (.s (.s .z))) | exact .s (.s (.s (.s (.s .z)))) | exact .s (.s (.s (.s (.s (.s .z))))) | exact .s (.s (.s (.s (.s (.s (.s .z))))))) rfl rfl rfl ?_
    exact fun w1 hw1 => ⟨by have e : notV a = (truth (decide (a.n = 0)), 0) := (by rw [notV, if_neg (fun e => e.elim h1.1 h1.2)]); rw [e] <;> rfl, hw1.chg⟩

theorem partR (v : Val) (w : World) (hm : may v = true) (hk : v.k = 0 ∨ v.k = 3) : Calls Tryd.prog 66 #[aggV v] w (Pure w (.int .i64 (partV v))) := by
  refine calls_tri (args := [aggV v]) (lent := []) (H := []) Tryd.func66 rfl Tryd.ntmps66 rfl (Sat.start _ _ _ _) ?_
  refine (show Tri _ [(0, _)] _ _ _ from ?_)
  refine tri_seq ?_
  refine tri_region ?_
  refine o_box (Val.cs _) rfl rfl rfl (fun b1 => ?_)
  refine o_assign rfl rfl ?_
  refine triL_nil ?_
  refine thenQ_normal ?_
  refine tri_seq ?_
  refine tri_seq ?_
  refine tri_region ?_
  refine o_field fo23_0 rfl rfl ?_
  refine o_load agg3 (by first | exact Nth.z | exact .s .z | exact .s (.s .z) | exact .s (.s (.s .z)) | exact .s (.s (.s (.s .z))) | exact .s (.s (.s (.s (.s .z)))) | exact .s (.s (.s (.s (.s (.s .z))))) | exact .s (.s (.s (.s (.s (.s (.s .z))))))) rfl rfl rfl ?_
  refine o_eqlI rfl rfl rfl ?_
  refine triL_nil ?_
  refine thenQ_normal ?_
  refine tri_if rfl (fun h1 => ?_) (fun h1 => ?_)
  · skip
    refine tri_seq ?_
    refine tri_slots [] (.nil _) ?_
    refine tri_region ?_
    refine o_assign rfl rfl ?_
    refine triL_nil ?_
    refine thenQ_normal ?_
    refine tri_ret ?_
    refine thenQ_ret ?_
    refine end1 rfl rfl ?_
    exact fun w1 hw1 => ⟨congrArg (fun b => Ending.returned (.int .i64 b)) (by simp [partV, h1]), hw1.chg⟩
  · skip
    have h3 : v.k = 3 := by omega
    have hb := may_bool hm h3
    refine tri_skip ?_
    refine thenQ_normal ?_
    refine tri_seq ?_
    refine tri_slots [(1, _)] (.cons rfl (.nil _)) ?_
    refine tri_region ?_
    refine o_field fo23_1 rfl rfl ?_
    refine o_load agg2 (by first | exact Nth.z | exact .s .z | exact .s (.s .z) | exact .s (.s (.s .z)) | exact .s (.s (.s (.s .z))) | exact .s (.s (.s (.s (.s .z)))) | exact .s (.s (.s (.s (.s (.s .z))))) | exact .s (.s (.s (.s (.s (.s (.s .z))))))) rfl rfl rfl ?_
    refine o_mulN rfl rfl rfl (by omega) ?_
    refine o_assign rfl rfl ?_
    refine triL_nil ?_
    refine thenQ_normal ?_
    refine tri_ret ?_
    refine end1 rfl rfl ?_
    exact fun w1 hw1 => ⟨congrArg (fun b => Ending.returned (.int .i64 b)) (by simp [partV, h1]), hw1.chg⟩

theorem wholeR (n : Int) (w : World)  : Calls Tryd.prog 65 #[.int .i64 n] w (Pure w (aggV (wholeV n))) := by
  refine calls_tri (args := [.int .i64 n]) (lent := []) (H := []) Tryd.func65 rfl Tryd.ntmps65 rfl (Sat.start _ _ _ _) ?_
  refine (show Tri _ [(0, _)] _ _ _ from ?_)
  refine tri_seq ?_
  refine tri_region ?_
  refine o_alloc (Val.cs Val.zero) rfl zero23 rfl (fun b2 => ?_)
  refine triL_nil ?_
  refine thenQ_normal ?_
  refine tri_seq ?_
  refine tri_seq ?_
  refine tri_region ?_
  refine o_move rfl rfl ?_
  refine o_eqlI rfl rfl rfl ?_
  refine triL_nil ?_
  refine thenQ_normal ?_
  refine tri_if rfl (fun h1 => ?_) (fun h1 => ?_)
  · skip
    refine tri_seq ?_
    refine tri_region ?_
    refine o_build bval23 rfl rfl ?_
    refine o_storeBV sz23 (by first | exact Nth.z | exact .s .z | exact .s (.s .z) | exact .s (.s (.s .z)) | exact .s (.s (.s (.s .z))) | exact .s (.s (.s (.s (.s .z)))) | exact .s (.s (.s (.s (.s (.s .z))))) | exact .s (.s (.s (.s (.s (.s (.s .z))))))) rfl rfl rfl ?_
    refine triL_nil ?_
    refine thenQ_normal ?_
    refine tri_ret ?_
    refine thenQ_ret ?_
    refine endC1 rfl agg23 sz23 (by first | exact Nth.z | exact .s .z | exact .s (.s .z) | exact .s (.s (.s .z)) | exact .s (.s (.s (.s .z))) | exact .s (.s (.s (.s (.s .z)))) | exact .s (.s (.s (.s (.s (.s .z))))) | exact .s (.s (.s (.s (.s (.s (.s .z))))))) rfl rfl ?_
    exact fun w1 hw1 => ⟨congrArg (fun v : Val => Ending.returned (aggV v)) (by simp [wholeV, h1, Val.zero]), hw1.chg⟩
  · skip
    refine tri_skip ?_
    refine thenQ_normal ?_
    refine tri_seq ?_
    refine tri_region ?_
    refine o_move rfl rfl ?_
    refine o_eqlI rfl rfl rfl ?_
    refine o_callP (first := []) (cap := []) rfl rfl rfl Tryd.call62 (fun w_ hw_ => yesR _ w_) ?_
    refine o_storeBV sz23 (by first | exact Nth.z | exact .s .z | exact .s (.s .z) | exact .s (.s (.s .z)) | exact .s (.s (.s (.s .z))) | exact .s (.s (.s (.s (.s .z)))) | exact .s (.s (.s (.s (.s (.s .z))))) | exact .s (.s (.s (.s (.s (.s (.s .z))))))) rfl rfl rfl ?_
    refine triL_nil ?_
    refine thenQ_normal ?_
    refine tri_ret ?_
    refine endC1 rfl agg23 sz23 (by first | exact Nth.z | exact .s .z | exact .s (.s .z) | exact .s (.s (.s .z)) | exact .s (.s (.s (.s .z))) | exact .s (.s (.s (.s (.s .z)))) | exact .s (.s (.s (.s (.s (.s .z))))) | exact .s (.s (.s (.s (.s (.s (.s .z))))))) rfl rfl ?_
    exact fun w1 hw1 => ⟨congrArg (fun v : Val => Ending.returned (aggV v)) (by simp [wholeV, h1]), hw1.chg⟩

theorem andR3 (a b : Val) (w : World) (fa : fit a) (fb : fit b) : Calls Tryd.prog 31 #[aggV a, aggV b] w (Pure w (resV (andV a b))) := by
  refine calls_tri (args := [aggV a, aggV b]) (lent := []) (H := []) Tryd.func31 rfl Tryd.ntmps31 rfl (Sat.start _ _ _ _) ?_
  refine (show Tri _ [(0, _), (1, _)] _ _ _ from ?_)
  refine tri_seq ?_
  refine tri_region ?_
  refine o_box (Val.cs _) rfl rfl rfl (fun b2 => ?_)
  refine o_box (Val.cs _) rfl rfl rfl (fun b3 => ?_)
  refine o_alloc (Val.cs Val.zero) rfl zero23 rfl (fun b4 => ?_)
  refine o_assign rfl rfl ?_
  refine triL_nil ?_
  refine thenQ_normal ?_
  refine tri_seq ?_
  refine tri_region ?_
  refine o_loadBV agg23 sz23 (by first | exact Nth.z | exact .s .z | exact .s (.s .z) | exact .s (.s (.s .z)) | exact .s (.s (.s (.s .z))) | exact .s (.s (.s (.s (.s .z)))) | exact .s (.s (.s (.s (.s (.s .z))))) | exact .s (.s (.s (.s (.s (.s (.s .z))))))) rfl rfl ?_
  refine o_loadBV agg23 sz23 (by first | exact Nth.z | exact .s .z | exact .s (.s .z) | exact .s (.s (.s .z)) | exact .s (.s (.s (.s .z))) | exact .s (.s (.s (.s (.s .z)))) | exact .s (.s (.s (.s (.s (.s .z))))) | exact .s (.s (.s (.s (.s (.s (.s .z))))))) rfl rfl ?_
  refine o_callP (first := []) (cap := []) rfl rfl rfl Tryd.call64 (fun w_ hw_ => fitR _ _ _ w_ (by assumption) (by assumption)) ?_
  refine o_assign rfl rfl ?_
  refine triL_nil ?_
  refine thenQ_normal ?_
  refine tri_seq ?_
  refine tri_seq ?_
  refine tri_slots [(6, _), (4, _), (3, _), (2, _)] (.cons rfl (.cons rfl (.cons rfl (.cons rfl (.nil _))))) ?_
  refine tri_region ?_
  refine o_move rfl rfl ?_
  refine o_neqI rfl rfl rfl ?_
  refine triL_nil ?_
  refine thenQ_normal ?_
  refine tri_if rfl (fun h1 => ?_) (fun h1 => ?_)
  · skip
    refine tri_seq ?_
    refine tri_slots [(6, _), (4, _)] (.cons rfl (.cons rfl (.nil _))) ?_
    refine tri_region ?_
    refine o_build bval23 rfl rfl ?_
    refine o_move rfl rfl ?_
    refine o_storeBV sz23 (by first | exact Nth.z | exact .s .z | exact .s (.s .z) | exact .s (.s (.s .z)) | exact .s (.s (.s (.s .z))) | exact .s (.s (.s (.s (.s .z)))) | exact .s (.s (.s (.s (.s (.s .z))))) | exact .s (.s (.s (.s (.s (.s (.s .z))))))) rfl rfl rfl ?_
    refine o_assign rfl rfl ?_
    refine triL_nil ?_
    refine thenQ_normal ?_
    refine tri_ret ?_
    refine thenQ_ret ?_
    refine endC2 rfl agg23 sz23 (by first | exact Nth.z | exact .s .z | exact .s (.s .z) | exact .s (.s (.s .z)) | exact .s (.s (.s (.s .z))) | exact .s (.s (.s (.s (.s .z)))) | exact .s (.s (.s (.s (.s (.s .z))))) | exact .s (.s (.s (.s (.s (.s (.s .z))))))) rfl rfl rfl ?_
    exact fun w1 hw1 => ⟨by have e : andV a b = (Val.zero, allE 3 [a, b]) := (by rw [andV, if_neg h1]); rw [e] <;> rfl, hw1.chg⟩
  · skip
    have h1 : allE 3 [a, b] = 0 := Decidable.not_not.1 h1
    obtain ⟨ma, mb, ka, kb⟩ := allE2 h1
    refine tri_skip ?_
    refine thenQ_normal ?_
    refine tri_seq ?_
    refine tri_mix (_) [(0, true), (1, true), (2, true), (3, false), (4, false), (5, false), (6, false), (7, false)] [3, 4, 5, 6, 7] (by kernel_rfl) (by kernel_rfl) (fun _ h => h) ?_
    refine mix_fix rfl ?_
    refine o_loadBV agg23 sz23 (by first | exact Nth.z | exact .s .z | exact .s (.s .z) | exact .s (.s (.s .z)) | exact .s (.s (.s (.s .z))) | exact .s (.s (.s (.s (.s .z)))) | exact .s (.s (.s (.s (.s (.s .z))))) | exact .s (.s (.s (.s (.s (.s (.s .z))))))) rfl rfl ?_
    refine triL_nil ⟨rfl, ?_⟩
    refine mix_fix rfl ?_
    refine o_callP (first := []) (cap := []) rfl rfl rfl Tryd.call66 (fun w1 h1 => partR a w1 ma ka) ?_
    refine triL_nil ⟨rfl, ?_⟩
    refine mix_fix rfl ?_
    refine o_loadBV agg23 sz23 (by first | exact Nth.z | exact .s .z | exact .s (.s .z) | exact .s (.s (.s .z)) | exact .s (.s (.s (.s .z))) | exact .s (.s (.s (.s (.s .z)))) | exact .s (.s (.s (.s (.s (.s .z))))) | exact .s (.s (.s (.s (.s (.s (.s .z))))))) rfl rfl ?_
    refine triL_nil ⟨rfl, ?_⟩
    refine mix_rest [3, 4, 5, 6, 7] [_, _, _, _, _] rfl rfl ?_
    refine o_callP (first := []) (cap := []) rfl rfl rfl Tryd.call66 (fun w1 h1 => partR b w1 mb kb) ?_
    refine o_min rfl rfl rfl ?_
    refine o_callP (first := []) (cap := []) rfl rfl rfl Tryd.call65 (fun w1 h1 => wholeR _ w1) ?_
    refine o_storeBV sz23 (by first | exact Nth.z | exact .s .z | exact .s (.s .z) | exact .s (.s (.s .z)) | exact .s (.s (.s (.s .z))) | exact .s (.s (.s (.s (.s .z)))) | exact .s (.s (.s (.s (.s (.s .z))))) | exact .s (.s (.s (.s (.s (.s (.s .z))))))) rfl rfl rfl ?_
    refine o_assign rfl rfl ?_
    refine triL_nil ⟨rfl, ?_⟩
    refine thenQ_normal ?_
    refine tri_ret ?_
    refine endC2 rfl agg23 sz23 (by first | exact Nth.z | exact .s .z | exact .s (.s .z) | exact .s (.s (.s .z)) | exact .s (.s (.s (.s .z))) | exact .s (.s (.s (.s (.s .z)))) | exact .s (.s (.s (.s (.s (.s .z))))) | exact .s (.s (.s (.s (.s (.s (.s .z))))))) rfl rfl rfl ?_
    exact fun w1 hw1 => ⟨by have e : andV a b = ((andV a b).1, 0) := (by have e2 := and_code a b; rw [h1] at e2; exact Prod.ext rfl e2); rw [and_part h1, e], hw1.chg⟩

theorem orR3 (a b : Val) (w : World) (fa : fit a) (fb : fit b) : Calls Tryd.prog 33 #[aggV a, aggV b] w (Pure w (resV (orV a b))) := by
  refine calls_tri (args := [aggV a, aggV b]) (lent := []) (H := []) Tryd.func33 rfl Tryd.ntmps33 rfl (Sat.start _ _ _ _) ?_
  refine (show Tri _ [(0, _), (1, _)] _ _ _ from ?_)
  refine tri_seq ?_
  refine tri_region ?_
  refine o_box (Val.cs _) rfl rfl rfl (fun b2 => ?_)
  refine o_box (Val.cs _) rfl rfl rfl (fun b3 => ?_)
  refine o_alloc (Val.cs Val.zero) rfl zero23 rfl (fun b4 => ?_)
  refine o_assign rfl rfl ?_
  refine triL_nil ?_
  refine thenQ_normal ?_
  refine tri_seq ?_
  refine tri_region ?_
  refine o_loadBV agg23 sz23 (by first | exact Nth.z | exact .s .z | exact .s (.s .z) | exact .s (.s (.s .z)) | exact .s (.s (.s (.s .z))) | exact .s (.s (.s (.s (.s .z)))) | exact .s (.s (.s (.s (.s (.s .z))))) | exact .s (.s (.s (.s (.s (.s (.s .z))))))) rfl rfl ?_
  refine o_loadBV agg23 sz23 (by first | exact Nth.z | exact .s .z | exact .s (.s .z) | exact .s (.s (.s .z)) | exact .s (.s (.s (.s .z))) | exact .s (.s (.s (.s (.s .z)))) | exact .s (.s (.s (.s (.s (.s .z))))) | exact .s (.s (.s (.s (.s (.s (.s .z))))))) rfl rfl ?_
  refine o_callP (first := []) (cap := []) rfl rfl rfl Tryd.call64 (fun w_ hw_ => fitR _ _ _ w_ (by assumption) (by assumption)) ?_
  refine o_assign rfl rfl ?_
  refine triL_nil ?_
  refine thenQ_normal ?_
  refine tri_seq ?_
  refine tri_seq ?_
  refine tri_slots [(6, _), (4, _), (3, _), (2, _)] (.cons rfl (.cons rfl (.cons rfl (.cons rfl (.nil _))))) ?_
  refine tri_region ?_
  refine o_move rfl rfl ?_
  refine o_neqI rfl rfl rfl ?_
  refine triL_nil ?_
  refine thenQ_normal ?_
  refine tri_if rfl (fun h1 => ?_) (fun h1 => ?_)
  · skip
    refine tri_seq ?_
    refine tri_slots [(6, _), (4, _)] (.cons rfl (.cons rfl (.nil _))) ?_
    refine tri_region ?_
    refine o_build bval23 rfl rfl ?_
    refine o_move rfl rfl ?_
    refine o_storeBV sz23 (by first | exact Nth.z | exact .s .z | exact .s (.s .z) | exact .s (.s (.s .z)) | exact .s (.s (.s (.s .z))) | exact .s (.s (.s (.s (.s .z)))) | exact .s (.s (.s (.s (.s (.s .z))))) | exact .s (.s (.s (.s (.s (.s (.s .z))))))) rfl rfl rfl ?_
    refine o_assign rfl rfl ?_
    refine triL_nil ?_
    refine thenQ_normal ?_
    refine tri_ret ?_
    refine thenQ_ret ?_
    refine endC2 rfl agg23 sz23 (by first | exact Nth.z | exact .s .z | exact .s (.s .z) | exact .s (.s (.s .z)) | exact .s (.s (.s (.s .z))) | exact .s (.s (.s (.s (.s .z)))) | exact .s (.s (.s (.s (.s (.s .z))))) | exact .s (.s (.s (.s (.s (.s (.s .z))))))) rfl rfl rfl ?_
    exact fun w1 hw1 => ⟨by have e : orV a b = (Val.zero, allE 3 [a, b]) := (by rw [orV, if_neg h1]); rw [e] <;> rfl, hw1.chg⟩
  · skip
    have h1 : allE 3 [a, b] = 0 := Decidable.not_not.1 h1
    obtain ⟨ma, mb, ka, kb⟩ := allE2 h1
    refine tri_skip ?_
    refine thenQ_normal ?_
    refine tri_seq ?_
    refine tri_mix (_) [(0, true), (1, true), (2, true), (3, false), (4, false), (5, false), (6, false), (7, false)] [3, 4, 5, 6, 7] (by kernel_rfl) (by kernel_rfl) (fun _ h => h) ?_
    refine mix_fix rfl ?_
    refine o_loadBV agg23 sz23 (by first | exact Nth.z | exact .s .z | exact .s (.s .z) | exact .s (.s (.s .z)) | exact .s (.s (.s (.s .z))) | exact .s (.s (.s (.s (.s .z)))) | exact .s (.s (.s (.s (.s (.s .z))))) | exact .s (.s (.s (.s (.s (.s (.s .z))))))) rfl rfl ?_
    refine triL_nil ⟨rfl, ?_⟩
    refine mix_fix rfl ?_
    refine o_callP (first := []) (cap := []) rfl rfl rfl Tryd.call66 (fun w1 h1 => partR a w1 ma ka) ?_
    refine triL_nil ⟨rfl, ?_⟩
    refine mix_fix rfl ?_
    refine o_loadBV agg23 sz23 (by first | exact Nth.z | exact .s .z | exact .s (.s .z) | exact .s (.s (.s .z)) | exact .s (.s (.s (.s .z))) | exact .s (.s (.s (.s (.s .z)))) | exact .s (.s (.s (.s (.s (.s .z))))) | exact .s (.s (.s (.s (.s (.s (.s .z))))))) rfl rfl ?_
    refine triL_nil ⟨rfl, ?_⟩
    refine mix_rest [3, 4, 5, 6, 7] [_, _, _, _, _] rfl rfl ?_
    refine o_callP (first := []) (cap := []) rfl rfl rfl Tryd.call66 (fun w1 h1 => partR b w1 mb kb) ?_
    refine o_max rfl rfl rfl ?_
    refine o_callP (first := []) (cap := []) rfl rfl rfl Tryd.call65 (fun w1 h1 => wholeR _ w1) ?_
    refine o_storeBV sz23 (by first | exact Nth.z | exact .s .z | exact .s (.s .z) | exact .s (.s (.s .z)) | exact .s (.s (.s (.s .z))) | exact .s (.s (.s (.s (.s .z)))) | exact .s (.s (.s (.s (.s (.s .z))))) | exact .s (.s (.s (.s (.s (.s (.s .z))))))) rfl rfl rfl ?_
    refine o_assign rfl rfl ?_
    refine triL_nil ⟨rfl, ?_⟩
    refine thenQ_normal ?_
    refine tri_ret ?_
    refine endC2 rfl agg23 sz23 (by first | exact Nth.z | exact .s .z | exact .s (.s .z) | exact .s (.s (.s .z)) | exact .s (.s (.s (.s .z))) | exact .s (.s (.s (.s (.s .z)))) | exact .s (.s (.s (.s (.s (.s .z))))) | exact .s (.s (.s (.s (.s (.s (.s .z))))))) rfl rfl rfl ?_
    exact fun w1 hw1 => ⟨by have e : orV a b = ((orV a b).1, 0) := (by have e2 := or_code a b; rw [h1] at e2; exact Prod.ext rfl e2); rw [or_part h1, e], hw1.chg⟩

theorem notR3 (a : Val) (w : World) (fa : fit a) : Calls Tryd.prog 35 #[aggV a] w (Pure w (resV (notV a))) := by
  refine calls_tri (args := [aggV a]) (lent := []) (H := []) Tryd.func35 rfl Tryd.ntmps35 rfl (Sat.start _ _ _ _) ?_
  refine (show Tri _ [(0, _)] _ _ _ from ?_)
  refine tri_seq ?_
  refine tri_region ?_
  refine o_box (Val.cs _) rfl rfl rfl (fun b1 => ?_)
  refine o_alloc (Val.cs Val.zero) rfl zero23 rfl (fun b2 => ?_)
  refine o_assign rfl rfl ?_
  refine triL_nil ?_
  refine thenQ_normal ?_
  refine tri_seq ?_
  refine tri_region ?_
  refine o_loadBV agg23 sz23 (by first | exact Nth.z | exact .s .z | exact .s (.s .z) | exact .s (.s (.s .z)) | exact .s (.s (.s (.s .z))) | exact .s (.s (.s (.s (.s .z)))) | exact .s (.s (.s (.s (.s (.s .z))))) | exact .s (.s (.s (.s (.s (.s (.s .z))))))) rfl rfl ?_
  refine o_loadBV agg23 sz23 (by first | exact Nth.z | exact .s .z | exact .s (.s .z) | exact .s (.s (.s .z)) | exact .s (.s (.s (.s .z))) | exact .s (.s (.s (.s (.s .z)))) | exact .s (.s (.s (.s (.s (.s .z))))) | exact .s (.s (.s (.s (.s (.s (.s .z))))))) rfl rfl ?_
  refine o_callP (first := []) (cap := []) rfl rfl rfl Tryd.call64 (fun w1 h1 => fitR 3 a a w1 fa fa) ?_
  refine o_assign rfl rfl ?_
  refine triL_nil ?_
  refine thenQ_normal ?_
  refine tri_seq ?_
  refine tri_seq ?_
  refine tri_slots [(4, _), (2, _), (1, _)] (.cons rfl (.cons rfl (.cons rfl (.nil _)))) ?_
  refine tri_region ?_
  refine o_move rfl rfl ?_
  refine o_neqI rfl rfl rfl ?_
  refine triL_nil ?_
  refine thenQ_normal ?_
  refine tri_if rfl (fun h1 => ?_) (fun h1 => ?_)
  · skip
    refine tri_seq ?_
    refine tri_region ?_
    refine o_build bval23 rfl rfl ?_
    refine o_move rfl rfl ?_
    refine o_storeBV sz23 (by first | exact Nth.z | exact .s .z | exact .s (.s .z) | exact .s (.s (.s .z)) | exact .s (.s (.s (.s .z))) | exact .s (.s (.s (.s (.s .z)))) | exact .s (.s (.s (.s (.s (.s .z))))) | exact .s (.s (.s (.s (.s (.s (.s .z))))))) rfl rfl rfl ?_
    refine o_assign rfl rfl ?_
    refine triL_nil ?_
    refine thenQ_normal ?_
    refine tri_ret ?_
    refine thenQ_ret ?_
    refine endC2 rfl agg23 sz23 (by first | exact Nth.z | exact .s .z | exact .s (.s .z) | exact .s (.s (.s .z)) | exact .s (.s (.s (.s .z))) | exact .s (.s (.s (.s (.s .z)))) | exact .s (.s (.s (.s (.s (.s .z))))) | exact .s (.s (.s (.s (.s (.s (.s .z))))))) rfl rfl rfl ?_
    exact fun w1 hw1 => ⟨by have e : notV a = (Val.zero, allE 3 [a, a]) := (by rw [notV, if_pos (.inl (by rw [← allE_self]; exact h1)), allE_self]); rw [e] <;> rfl, hw1.chg⟩
  · skip
    have h1 : allE 3 [a, a] = 0 := Decidable.not_not.1 h1
    rw [allE_self] at h1
    obtain ⟨ma, ka⟩ := allE1 h1
    have pb : -4 ≤ partV a ∧ partV a ≤ 4 := by rcases allE_T1 h1 with rfl | rfl | rfl <;> decide
    refine tri_skip ?_
    refine thenQ_normal ?_
    refine tri_seq ?_
    refine tri_region ?_
    refine o_loadBV agg23 sz23 (by first | exact Nth.z | exact .s .z | exact .s (.s .z) | exact .s (.s (.s .z)) | exact .s (.s (.s (.s .z))) | exact .s (.s (.s (.s (.s .z)))) | exact .s (.s (.s (.s (.s (.s .z))))) | exact .s (.s (.s (.s (.s (.s (.s .z))))))) rfl rfl ?_
    refine o_callP (first := []) (cap := []) rfl rfl rfl Tryd.call66 (fun w1 h1 => partR a w1 ma ka) ?_
    refine o_subN rfl rfl rfl (by omega) ?_
    refine o_callP (first := []) (cap := []) rfl rfl rfl Tryd.call65 (fun w1 h1 => wholeR _ w1) ?_
    refine o_storeBV sz23 (by first | exact Nth.z | exact .s .z | exact .s (.s .z) | exact .s (.s (.s .z)) | exact .s (.s (.s (.s .z))) | exact .s (.s (.s (.s (.s .z)))) | exact .s (.s (.s (.s (.s (.s .z))))) | exact .s (.s (.s (.s (.s (.s (.s .z))))))) rfl rfl rfl ?_
    refine o_assign rfl rfl ?_
    refine triL_nil ?_
    refine thenQ_normal ?_
    refine tri_ret ?_
    refine endC2 rfl agg23 sz23 (by first | exact Nth.z | exact .s .z | exact .s (.s .z) | exact .s (.s (.s .z)) | exact .s (.s (.s (.s .z))) | exact .s (.s (.s (.s (.s .z)))) | exact .s (.s (.s (.s (.s (.s .z))))) | exact .s (.s (.s (.s (.s (.s (.s .z))))))) rfl rfl rfl ?_
    exact fun w1 hw1 => ⟨by have e : notV a = ((notV a).1, 0) := (by have e2 := not_code a; rw [h1] at e2; exact Prod.ext rfl e2); rw [not_part h1, e], hw1.chg⟩

end Go.Proofs.YtgogkkkacpacgaaDoor
