/- the walks of the functions under the sum's laws: each returns just what its plain function says -/
import Derived.Test.YtijnbnlmmapgbaaProg
import Derived.Test.YtijnbnlmmapgbaaSum1
import Derived.KernelRfl
namespace Go.Proofs.Ytijnbnlmmapgbaa
open Go.WK Go.RowKit 

theorem sz5 : szB Try.prog 5 = some 1 := by kernel_rfl
theorem agg5 : aggB Try.prog 5 = some false := by kernel_rfl
theorem zs5 : (Try.prog.info? 5).map (fun i => (i.zero, i.size)) = some (some (.int .u8 0), 1) := by kernel_rfl
theorem zsb5 : (Try.prog.info? 5).map (fun i => (i.zero, i.size, i.bytes)) = some (some (.int .u8 0), 1, 1) := by kernel_rfl

theorem sumMore (s : BitVec 32) (A : Option Addr) (n c : Nat) (l : List UInt8) (w : World) (hr : Rd w A (bytesV l)) (hn : l.length = n) (hm : n ≤ 140737488355328) : Calls Try.prog 12 #[u32V s, .slice A n c] w (Pure w (u32V (more s l))) := by
  refine calls_tri (args := [u32V s, .slice A n c]) (lent := []) (H := []) Try.func12 rfl Try.ntmps12 rfl (Sat.start _ _ _ _) ?_
  refine (show Tri _ [(0, _), (1, _)] _ _ _ from ?_)
  have hR : ∀ cx H, cx.w0 = w → cx.lent = [] → RdS cx H A (bytesV l) := fun cx H h1 h2 => RdS.arg (by rw [h1]; exact hr) h2
  refine tri_seq ?_
  refine tri_region ?_
  refine o_assign rfl rfl ?_
  refine triL_nil ?_
  refine thenQ_normal ?_
  refine tri_seq ?_
  refine tri_region ?_
  refine o_move rfl rfl ?_
  refine o_not32 _ rfl rfl ?_
  refine o_assign rfl rfl ?_
  refine triL_nil ?_
  refine thenQ_normal ?_
  refine tri_seq ?_
  refine tri_seq ?_
  refine tri_region ?_
  refine o_move rfl rfl ?_
  refine o_lenS Try.underlying23 rfl rfl ?_
  refine o_move rfl rfl ?_
  refine triL_nil ?_
  refine thenQ_normal ?_
  refine tri_block ?_
  refine tri_loop (ι := Nat) (F := fun k => [(0, u32V (moreR (~~~ s) (l.take k))), (9, .slice A n c), (10, .int .i64 (n : Int)), (11, .int .i64 (k : Int))]) (HH := fun k => []) (Pu := fun k => k ≤ n) (μ := fun k => n - k) (0) (.cons rfl (.cons rfl (.cons rfl (.cons rfl (.nil _))))) (fun _ h => h) (Nat.zero_le _) (fun k hi => ?_)
  refine tri_seq ?_
  refine tri_region ?_
  refine o_lss rfl rfl rfl ?_
  refine triL_nil ?_
  refine thenQ_normal ?_
  refine tri_seq ?_
  refine tri_if rfl (fun h1 => ?_) (fun h1 => ?_)
  · skip
    refine tri_skip ?_
    refine thenQ_normal ?_
    refine tri_seq ?_
    refine tri_block ?_
    refine tri_seq ?_
    refine tri_region ?_
    refine o_idxS Try.underlying23 sz5 rfl rfl rfl (hR _ _ rfl rfl) (by omega) (by omega) (by rw [bytesV_length]; omega) (by decide) ?_
    refine o_loadR agg5 rfl rfl (hR _ _ rfl rfl) (rd_byte l k (by simp) (by omega)) ?_
    refine o_assign rfl rfl ?_
    refine triL_nil ?_
    refine thenQ_normal ?_
    refine tri_seq ?_
    refine tri_region ?_
    refine o_move rfl rfl ?_
    refine o_move rfl rfl ?_
    refine o_wide32 _ rfl rfl Try.underlying5 Try.underlying22 ?_
    refine o_xor32 _ _ rfl rfl rfl ?_
    refine o_assign rfl rfl ?_
    refine triL_nil ?_
    refine thenQ_normal ?_
    refine tri_seq ?_
    refine tri_slots [(0, _), (9, _), (10, _), (11, _)] (.cons rfl (.cons rfl (.cons rfl (.cons rfl (.nil _))))) ?_
    refine tri_region ?_
    refine o_move rfl rfl ?_
    refine triL_nil ?_
    refine thenQ_normal ?_
    refine tri_block ?_
    refine tri_loop (ι := Nat) (F := fun j => [(0, u32V (WK.bits j (moreR (~~~ s) (l.take k) ^^^ BitVec.ofNat 32 (l.getD k 0).toNat))), (9, .slice A n c), (10, .int .i64 (n : Int)), (11, .int .i64 (k : Int)), (19, .int .i64 (j : Int))]) (HH := fun j => []) (Pu := fun j => j ≤ 8) (μ := fun j => 8 - j) (0) (.cons rfl (.cons rfl (.cons rfl (.cons rfl (.cons rfl (.nil _)))))) (fun _ h => h) (by omega) (fun j hi => ?_)
    refine tri_seq ?_
    refine tri_region ?_
    refine o_lss rfl rfl rfl ?_
    refine triL_nil ?_
    refine thenQ_normal ?_
    refine tri_seq ?_
    refine tri_if rfl (fun h2 => ?_) (fun h2 => ?_)
    · skip
      refine tri_skip ?_
      refine thenQ_normal ?_
      refine tri_seq ?_
      refine tri_block ?_
      refine tri_region ?_
      refine o_move rfl rfl ?_
      refine o_shr32 _ rfl rfl rfl (by omega) ?_
      refine o_move rfl rfl ?_
      refine o_and32 _ 1#32 rfl rfl rfl ?_
      refine o_neg32 _ rfl rfl ?_
      refine o_and32 2197175160#32 _ rfl rfl rfl ?_
      refine o_xor32 _ _ rfl rfl rfl ?_
      refine o_assign rfl rfl ?_
      refine triL_nil ?_
      refine blockQ_normal ?_
      refine thenQ_normal ?_
      refine tri_slots [(0, _), (9, _), (10, _), (11, _), (19, _)] (.cons rfl (.cons rfl (.cons rfl (.cons rfl (.cons rfl (.nil _)))))) ?_
      refine tri_region ?_
      refine o_addN rfl rfl rfl (by omega) ?_
      refine o_move rfl rfl ?_
      refine triL_nil ?_
      refine thenQ_normal ?_
      exact ⟨j + 1, (.cons rfl (.cons rfl (.cons rfl (.cons rfl (.cons rfl (.nil _)))))), fun _ h => h, by omega, by omega⟩
    · skip
      obtain rfl : j = 8 := by omega
      refine tri_exit ?_
      refine thenQ_exit ?_
      refine thenQ_exit ?_
      refine blockQ_here ?_
      refine blockQ_normal ?_
      refine thenQ_normal ?_
      refine tri_region ?_
      refine o_addN rfl rfl rfl (by omega) ?_
      refine o_move rfl rfl ?_
      refine triL_nil ?_
      refine thenQ_normal ?_
      exact ⟨k + 1, (.cons (congrArg (fun x => some (u32V x)) (moreR_snoc _ l k (by omega)).symm) (.cons rfl (.cons rfl (.cons rfl (.nil _))))), fun _ h => h, by omega, by omega⟩
  · skip
    obtain rfl : k = n := by omega
    refine tri_exit ?_
    refine thenQ_exit ?_
    refine thenQ_exit ?_
    refine blockQ_here ?_
    refine thenQ_normal ?_
    refine tri_seq ?_
    refine tri_slots [(0, _)] (.cons rfl (.nil _)) ?_
    refine tri_region ?_
    refine o_move rfl rfl ?_
    refine o_not32 _ rfl rfl ?_
    refine o_assign rfl rfl ?_
    refine triL_nil ?_
    refine thenQ_normal ?_
    refine tri_ret ?_
    refine end1 rfl rfl ?_
    rw [show l.take k = l from List.take_of_length_le (by omega)]
    exact fin_pure

theorem refMore (s : BitVec 32) (A : Option Addr) (n c : Nat) (l : List UInt8) (w : World) (hr : Rd w A (bytesV l)) (hn : l.length = n) (hm : n ≤ 140737488355328) : Calls Try.prog 13 #[u32V s, .slice A n c] w (Pure w (u32V (more s l))) := by
  refine calls_tri (args := [u32V s, .slice A n c]) (lent := []) (H := []) Try.func13 rfl Try.ntmps13 rfl (Sat.start _ _ _ _) ?_
  refine (show Tri _ [(0, _), (1, _)] _ _ _ from ?_)
  have hR : ∀ cx H, cx.w0 = w → cx.lent = [] → RdS cx H A (bytesV l) := fun cx H h1 h2 => RdS.arg (by rw [h1]; exact hr) h2
  refine tri_seq ?_
  refine tri_region ?_
  refine o_assign rfl rfl ?_
  refine triL_nil ?_
  refine thenQ_normal ?_
  refine tri_seq ?_
  refine tri_region ?_
  refine o_move rfl rfl ?_
  refine o_xor32 _ (BitVec.allOnes 32) rfl rfl rfl ?_
  refine o_assign rfl rfl ?_
  refine triL_nil ?_
  refine thenQ_normal ?_
  refine tri_seq ?_
  refine tri_seq ?_
  refine tri_slots [(5, _), (1, _)] (.cons rfl (.cons rfl (.nil _))) ?_
  refine tri_region ?_
  refine o_assign rfl rfl ?_
  refine triL_nil ?_
  refine thenQ_normal ?_
  refine tri_block ?_
  refine tri_loop (ι := Nat) (F := fun k => [(1, .slice A n c), (5, u32V (moreR (~~~ s) (l.take k))), (6, .int .i64 (k : Int))]) (HH := fun k => []) (Pu := fun k => k ≤ n) (μ := fun k => n - k) (0) (.cons rfl (.cons (congrArg (fun x => some (u32V x)) (xor_ones s)) (.cons rfl (.nil _)))) (fun _ h => h) (Nat.zero_le _) (fun k hi => ?_)
  refine tri_seq ?_
  refine tri_seq ?_
  refine tri_region ?_
  refine o_move rfl rfl ?_
  refine o_move rfl rfl ?_
  refine o_lenS Try.underlying23 rfl rfl ?_
  refine o_lss rfl rfl rfl ?_
  refine triL_nil ?_
  refine thenQ_normal ?_
  refine tri_if rfl (fun h1 => ?_) (fun h1 => ?_)
  · skip
    refine tri_skip ?_
    refine thenQ_normal ?_
    refine tri_seq ?_
    refine tri_block ?_
    refine tri_seq ?_
    refine tri_slots [(1, _), (5, _), (6, _)] (.cons rfl (.cons rfl (.cons rfl (.nil _)))) ?_
    refine tri_region ?_
    refine o_move rfl rfl ?_
    refine o_move rfl rfl ?_
    refine o_move rfl rfl ?_
    refine o_idxS Try.underlying23 sz5 rfl rfl rfl (hR _ _ rfl rfl) (by omega) (by omega) (by rw [bytesV_length]; omega) (by decide) ?_
    refine o_loadR agg5 rfl rfl (hR _ _ rfl rfl) (rd_byte l k (by simp) (by omega)) ?_
    refine o_wide32 _ rfl rfl Try.underlying5 Try.underlying22 ?_
    refine o_xor32 _ _ rfl rfl rfl ?_
    refine o_assign rfl rfl ?_
    refine triL_nil ?_
    refine thenQ_normal ?_
    refine tri_seq ?_
    refine tri_slots [(5, _), (1, _), (6, _)] (.cons rfl (.cons rfl (.cons rfl (.nil _)))) ?_
    refine tri_region ?_
    refine o_assign rfl rfl ?_
    refine triL_nil ?_
    refine thenQ_normal ?_
    refine tri_block ?_
    refine tri_loop (ι := Nat) (F := fun j => [(1, .slice A n c), (5, u32V (WK.bits j (moreR (~~~ s) (l.take k) ^^^ BitVec.ofNat 32 (l.getD k 0).toNat))), (6, .int .i64 (k : Int)), (7, .int .i64 (j : Int))]) (HH := fun j => []) (Pu := fun j => j ≤ 8) (μ := fun j => 8 - j) (0) (.cons rfl (.cons rfl (.cons rfl (.cons rfl (.nil _))))) (fun _ h => h) (by omega) (fun j hi => ?_)
    refine tri_seq ?_
    refine tri_seq ?_
    refine tri_region ?_
    refine o_move rfl rfl ?_
    refine o_lss rfl rfl rfl ?_
    refine triL_nil ?_
    refine thenQ_normal ?_
    refine tri_if rfl (fun h2 => ?_) (fun h2 => ?_)
    · skip
      refine tri_skip ?_
      refine thenQ_normal ?_
      refine tri_seq ?_
      refine tri_block ?_
      refine tri_seq ?_
      refine tri_region ?_
      refine o_move rfl rfl ?_
      refine o_rem rfl rfl rfl (by omega) ?_
      refine o_eqlI rfl rfl rfl ?_
      refine triL_nil ?_
      refine thenQ_normal ?_
      refine tri_if rfl (fun h3 => ?_) (fun h3 => ?_)
      · skip
        refine tri_slots [(1, _), (5, _), (6, _), (7, _)] (.cons rfl (.cons rfl (.cons rfl (.cons rfl (.nil _))))) ?_
        refine tri_region ?_
        refine o_move rfl rfl ?_
        refine o_half32 _ rfl rfl rfl ?_
        refine o_xor32 _ 2197175160#32 rfl rfl rfl ?_
        refine o_assign rfl rfl ?_
        refine triL_nil ?_
        refine blockQ_normal ?_
        refine thenQ_normal ?_
        refine tri_region ?_
        refine o_move rfl rfl ?_
        refine o_addN rfl rfl rfl (by omega) ?_
        refine o_assign rfl rfl ?_
        refine triL_nil ?_
        refine thenQ_normal ?_
        exact ⟨j + 1, (.cons rfl (.cons (congrArg (fun x => some (u32V x)) (by first | exact half_odd _ (by assumption) | exact half_even _ (by assumption))) (.cons rfl (.cons rfl (.nil _))))), fun _ h => h, by omega, by omega⟩
      · skip
        refine tri_slots [(1, _), (5, _), (6, _), (7, _)] (.cons rfl (.cons rfl (.cons rfl (.cons rfl (.nil _))))) ?_
        refine tri_region ?_
        refine o_move rfl rfl ?_
        refine o_half32 _ rfl rfl rfl ?_
        refine o_assign rfl rfl ?_
        refine triL_nil ?_
        refine blockQ_normal ?_
        refine thenQ_normal ?_
        refine tri_region ?_
        refine o_move rfl rfl ?_
        refine o_addN rfl rfl rfl (by omega) ?_
        refine o_assign rfl rfl ?_
        refine triL_nil ?_
        refine thenQ_normal ?_
        exact ⟨j + 1, (.cons rfl (.cons (congrArg (fun x => some (u32V x)) (by first | exact half_odd _ (by assumption) | exact half_even _ (by assumption))) (.cons rfl (.cons rfl (.nil _))))), fun _ h => h, by omega, by omega⟩
    · skip
      obtain rfl : j = 8 := by omega
      refine tri_exit ?_
      refine thenQ_exit ?_
      refine thenQ_exit ?_
      refine blockQ_here ?_
      refine blockQ_normal ?_
      refine thenQ_normal ?_
      refine tri_region ?_
      refine o_move rfl rfl ?_
      refine o_addN rfl rfl rfl (by omega) ?_
      refine o_assign rfl rfl ?_
      refine triL_nil ?_
      refine thenQ_normal ?_
      exact ⟨k + 1, (.cons rfl (.cons (congrArg (fun x => some (u32V x)) (moreR_snoc _ l k (by omega)).symm) (.cons rfl (.nil _)))), fun _ h => h, by omega, by omega⟩
  · skip
    obtain rfl : k = n := by omega
    refine tri_exit ?_
    refine thenQ_exit ?_
    refine thenQ_exit ?_
    refine blockQ_here ?_
    refine thenQ_normal ?_
    refine tri_seq ?_
    refine tri_slots [(5, _)] (.cons rfl (.nil _)) ?_
    refine tri_region ?_
    refine o_move rfl rfl ?_
    refine o_xor32 _ (BitVec.allOnes 32) rfl rfl rfl ?_
    refine o_assign rfl rfl ?_
    refine triL_nil ?_
    refine thenQ_normal ?_
    refine tri_ret ?_
    refine end1 rfl rfl ?_
    rw [show l.take k = l from List.take_of_length_le (by omega), xor_ones]
    exact fin_pure

theorem sumOf (A : Option Addr) (n c : Nat) (l : List UInt8) (w : World) (hr : Rd w A (bytesV l)) (hn : l.length = n) (hm : n ≤ 140737488355328) : Calls Try.prog 10 #[.slice A n c] w (Pure w (u32V (more 0#32 l))) := by
  refine calls_tri (args := [.slice A n c]) (lent := []) (H := []) Try.func10 rfl Try.ntmps10 rfl (Sat.start _ _ _ _) ?_
  refine (show Tri _ [(0, _)] _ _ _ from ?_)
  have hR : ∀ cx H, cx.w0 = w → cx.lent = [] → RdS cx H A (bytesV l) := fun cx H h1 h2 => RdS.arg (by rw [h1]; exact hr) h2
  refine tri_seq ?_
  refine tri_region ?_
  refine o_assign rfl rfl ?_
  refine triL_nil ?_
  refine thenQ_normal ?_
  refine tri_seq ?_
  refine tri_region ?_
  refine o_move rfl rfl ?_
  refine o_callP (first := []) (cap := []) (vs := [u32V 0#32, .slice A n c]) rfl rfl rfl Try.call12 (fun w1 h1 => sumMore 0#32 A n c l w1 (h1.rd (hR _ _ rfl rfl)) hn hm) ?_
  refine o_assign rfl rfl ?_
  refine triL_nil ?_
  refine thenQ_normal ?_
  refine tri_ret ?_
  refine end1 rfl rfl ?_
  exact fin_pure

theorem refOf (A : Option Addr) (n c : Nat) (l : List UInt8) (w : World) (hr : Rd w A (bytesV l)) (hn : l.length = n) (hm : n ≤ 140737488355328) : Calls Try.prog 11 #[.slice A n c] w (Pure w (u32V (more 0#32 l))) := by
  refine calls_tri (args := [.slice A n c]) (lent := []) (H := []) Try.func11 rfl Try.ntmps11 rfl (Sat.start _ _ _ _) ?_
  refine (show Tri _ [(0, _)] _ _ _ from ?_)
  have hR : ∀ cx H, cx.w0 = w → cx.lent = [] → RdS cx H A (bytesV l) := fun cx H h1 h2 => RdS.arg (by rw [h1]; exact hr) h2
  refine tri_seq ?_
  refine tri_region ?_
  refine o_assign rfl rfl ?_
  refine triL_nil ?_
  refine thenQ_normal ?_
  refine tri_seq ?_
  refine tri_region ?_
  refine o_move rfl rfl ?_
  refine o_callP (first := []) (cap := []) (vs := [u32V 0#32, .slice A n c]) rfl rfl rfl Try.call13 (fun w1 h1 => refMore 0#32 A n c l w1 (h1.rd (hR _ _ rfl rfl)) hn hm) ?_
  refine o_assign rfl rfl ?_
  refine triL_nil ?_
  refine thenQ_normal ?_
  refine tri_ret ?_
  refine end1 rfl rfl ?_
  exact fin_pure

theorem same (A A2 : Option Addr) (n c n2 c2 : Nat) (l l2 : List UInt8) (w : World) (hr : Rd w A (bytesV l)) (hn : n = l.length) (hr2 : Rd w A2 (bytesV l2)) (hn2 : n2 = l2.length) : Calls Try.prog 14 #[.slice A n c, .slice A2 n2 c2] w (Pure w (.bool (decide (l = l2)))) := by
  refine calls_tri (args := [.slice A n c, .slice A2 n2 c2]) (lent := []) (H := []) Try.func14 rfl Try.ntmps14 rfl (Sat.start _ _ _ _) ?_
  refine (show Tri _ [(0, _), (1, _)] _ _ _ from ?_)
  refine tri_seq ?_
  refine tri_region ?_
  refine o_assign rfl rfl ?_
  refine triL_nil ?_
  refine thenQ_normal ?_
  refine tri_seq ?_
  refine tri_region ?_
  refine o_move rfl rfl ?_
  refine o_toText Try.underlying23 Try.underlying5 Try.underlying9 rfl rfl (RdS.arg hr rfl) hn ?_
  refine o_move rfl rfl ?_
  refine o_toText Try.underlying23 Try.underlying5 Try.underlying9 rfl rfl (RdS.arg hr2 rfl) hn2 ?_
  refine o_eqlT rfl rfl rfl ?_
  refine o_assign rfl rfl ?_
  refine triL_nil ?_
  refine thenQ_normal ?_
  refine tri_ret ?_
  refine end1 rfl rfl ?_
  exact fin_pure

theorem copy (A : Option Addr) (n c : Nat) (l : List UInt8) (w : World) (hr : Rd w A (bytesV l)) (hn : l.length = n) (hm : n ≤ 140737488355328) (hm2 : n ≤ 140737488355328) : Calls Try.prog 9 #[.slice A n c] w (NewRowF id w 5 1 n (bytesV l)) := by
  refine calls_tri (args := [.slice A n c]) (lent := []) (H := []) Try.func9 rfl Try.ntmps9 rfl (Sat.start _ _ _ _) ?_
  refine (show Tri _ [(0, _)] _ _ _ from ?_)
  have hR : ∀ cx H, cx.w0 = w → cx.lent = [] → RdS cx H A (bytesV l) := fun cx H h1 h2 => RdS.arg (by rw [h1]; exact hr) h2
  refine tri_seq ?_
  refine tri_region ?_
  refine o_assign rfl rfl ?_
  refine triL_nil ?_
  refine thenQ_normal ?_
  refine tri_seq ?_
  refine tri_region ?_
  refine o_lit (parts := []) [] Try.underlying23 zs5 rfl rfl rfl rfl (by decide) (by decide) (fun b3 => ?_)
  refine o_move rfl rfl ?_
  refine o_append Try.underlying23 zsb5 rfl (by decide) (by first | exact Nth.z | exact .s .z | exact .s (.s .z) | exact .s (.s (.s .z)) | exact .s (.s (.s (.s .z))) | exact .s (.s (.s (.s (.s .z)))) | exact .s (.s (.s (.s (.s (.s .z))))) | exact .s (.s (.s (.s (.s (.s (.s .z))))))) rfl rfl rfl (RdS.arg hr rfl) (by rw [bytesV_length]; omega) (bytesV_one _) (by unfold maxLen; omega) (by omega) (fun A5 c5 => ?_)
  refine o_assign rfl rfl ?_
  refine triL_nil ?_
  refine thenQ_normal ?_
  refine tri_ret ?_
  refine end1 rfl rfl ?_
  have := fin_row (P := Try.prog) (n0 := 6) (w := w) (H := [row (.slice A5 (0 + n) c5) 5 1 (0 + n) ([] ++ bytesV l)]) id .z
  simp only [Nat.zero_add, List.nil_append] at this ⊢
  exact this

theorem seal1 (A : Option Addr) (n c : Nat) (l : List UInt8) (w : World) (hr : Rd w A (bytesV l)) (hn : l.length = n) (hm : n ≤ 140737488355328) : Calls Try.prog 16 #[.slice A n c] w (NewRowF id w 5 1 (n + 4) (bytesV (sealed l))) := by
  refine calls_tri (args := [.slice A n c]) (lent := []) (H := []) Try.func16 rfl Try.ntmps16 rfl (Sat.start _ _ _ _) ?_
  refine (show Tri _ [(0, _)] _ _ _ from ?_)
  have hR : ∀ cx H, cx.w0 = w → cx.lent = [] → RdS cx H A (bytesV l) := fun cx H h1 h2 => RdS.arg (by rw [h1]; exact hr) h2
  refine tri_seq ?_
  refine tri_region ?_
  refine o_assign rfl rfl ?_
  refine triL_nil ?_
  refine thenQ_normal ?_
  refine tri_seq ?_
  refine tri_region ?_
  refine o_move rfl rfl ?_
  refine o_lenS Try.underlying23 rfl rfl ?_
  refine o_addN rfl rfl rfl (by omega) ?_
  refine o_make (n := n + 4) Try.underlying23 zsb5 rfl rfl rfl (by omega) (by omega) (by omega) (by unfold maxLen; omega) (fun b10 => ?_)
  refine o_assign rfl rfl ?_
  refine triL_nil ?_
  refine thenQ_normal ?_
  refine tri_seq ?_
  refine tri_slots [(3, _), (0, _)] (.cons rfl (.cons rfl (.nil _))) ?_
  refine tri_region ?_
  refine o_move rfl rfl ?_
  refine o_move rfl rfl ?_
  refine o_copy Try.underlying23 sz5 (by first | exact Nth.z | exact .s .z | exact .s (.s .z) | exact .s (.s (.s .z)) | exact .s (.s (.s (.s .z))) | exact .s (.s (.s (.s (.s .z)))) | exact .s (.s (.s (.s (.s (.s .z))))) | exact .s (.s (.s (.s (.s (.s (.s .z))))))) rfl rfl rfl (RdS.arg hr rfl) (by rw [bytesV_length]; omega) (bytesV_one _) ?_
  refine o_assign rfl rfl ?_
  refine triL_nil ?_
  refine thenQ_normal ?_
  refine tri_seq ?_
  refine tri_region ?_
  refine o_move rfl rfl ?_
  refine o_callP (first := []) (cap := []) rfl rfl rfl Try.call10 (fun w1 h1 => sumOf A n c l w1 (h1.rd (hR _ _ rfl rfl)) hn hm) ?_
  refine o_assign rfl rfl ?_
  refine triL_nil ?_
  refine thenQ_normal ?_
  refine tri_seq ?_
  refine tri_seq ?_
  refine tri_slots [(5, _), (4, _), (3, _)] (.cons rfl (.cons rfl (.cons rfl (.nil _)))) ?_
  refine tri_region ?_
  refine o_move rfl rfl ?_
  refine triL_nil ?_
  refine thenQ_normal ?_
  refine tri_block ?_
  refine tri_loop (ι := Nat) (F := fun j => [(3, .slice (some ⟨b10, 0, none⟩) (n + 4) (n + 4)), (4, .int .i64 (n : Int)), (5, u32V (more 0#32 l)), (16, .int .i64 (j : Int))]) (HH := fun j => [row (.slice (some ⟨b10, 0, none⟩) (n + 4) (n + 4)) 5 1 (n + 4) (bytesV (l ++ (le4 (more 0#32 l)).take j ++ List.replicate (4 - j) 0))]) (Pu := fun j => j ≤ 4) (μ := fun j => 4 - j) (0) (.cons rfl (.cons (congrArg (fun k : Nat => some (Value.int .i64 (k : Int))) (Nat.min_eq_left (by omega))) (.cons rfl (.cons rfl (.nil _))))) (fun w1 h1 => by rw [← sealInit l (more 0#32 l) n hn]; exact h1) (by omega) (fun j hi => ?_)
  refine tri_seq ?_
  refine tri_region ?_
  refine o_lss rfl rfl rfl ?_
  refine triL_nil ?_
  refine thenQ_normal ?_
  refine tri_seq ?_
  refine tri_if rfl (fun h1 => ?_) (fun h1 => ?_)
  · skip
    refine tri_skip ?_
    refine thenQ_normal ?_
    refine tri_seq ?_
    refine tri_block ?_
    refine tri_seq ?_
    refine tri_region ?_
    refine o_move rfl rfl ?_
    refine o_assign rfl rfl ?_
    refine triL_nil ?_
    refine thenQ_normal ?_
    refine tri_region ?_
    refine o_move rfl rfl ?_
    refine o_move rfl rfl ?_
    refine o_move rfl rfl ?_
    refine o_addN rfl rfl rfl (by omega) ?_
    refine o_move rfl rfl ?_
    refine o_move rfl rfl ?_
    refine o_mulN rfl rfl rfl (by omega) ?_
    refine o_shr32 _ rfl rfl rfl (by omega) ?_
    refine o_low32 _ rfl rfl Try.underlying22 Try.underlying5 ?_
    refine o_idxS Try.underlying23 sz5 rfl rfl rfl (RdS.row .z) (by omega) (by omega) (by rw [bytesV_length]; simp [hn, le4_len]; omega) (by decide) ?_
    refine o_storeR sz5 (by first | exact Nth.z | exact .s .z | exact .s (.s .z) | exact .s (.s (.s .z)) | exact .s (.s (.s (.s .z))) | exact .s (.s (.s (.s (.s .z)))) | exact .s (.s (.s (.s (.s (.s .z))))) | exact .s (.s (.s (.s (.s (.s (.s .z))))))) rfl rfl rfl rfl (by rw [bytesV_length]; simp [hn, le4_len]; omega) rfl ?_
    refine triL_nil ?_
    refine blockQ_normal ?_
    refine thenQ_normal ?_
    refine tri_slots [(3, _), (4, _), (5, _), (16, _)] (.cons rfl (.cons rfl (.cons rfl (.cons rfl (.nil _))))) ?_
    refine tri_region ?_
    refine o_addN rfl rfl rfl (by omega) ?_
    refine o_move rfl rfl ?_
    refine triL_nil ?_
    refine thenQ_normal ?_
    exact ⟨j + 1, (.cons rfl (.cons rfl (.cons rfl (.cons rfl (.nil _))))), (fun w1 h1 => by rw [← sealSet l _ n j hn (by omega), ← show ((n : Int) + (j : Int)).toNat * 1 = n + j by omega, ← show (8 * (j : Int)).toNat = 8 * j by omega]; exact h1), by omega, by omega⟩
  · skip
    obtain rfl : j = 4 := by omega
    refine tri_exit ?_
    refine thenQ_exit ?_
    refine thenQ_exit ?_
    refine blockQ_here ?_
    refine thenQ_normal ?_
    refine tri_seq ?_
    refine tri_slots [(3, _)] (.cons rfl (.nil _)) ?_
    refine tri_region ?_
    refine o_move rfl rfl ?_
    refine o_assign rfl rfl ?_
    refine triL_nil ?_
    refine thenQ_normal ?_
    refine tri_ret ?_
    refine end1 rfl rfl ?_
    have e : bytesV (l ++ (le4 (more 0#32 l)).take 4 ++ List.replicate (4 - 4) 0) = bytesV (sealed l) := by simp [sealed, le4]
    rw [e]
    exact fin_row id .z

theorem open1 (A : Option Addr) (n c : Nat) (l : List UInt8) (w : World) (hr : Rd w A (bytesV l)) (hn : l.length = n) (hm : n ≤ 140737488355328) (hcap : n ≤ c) : Calls Try.prog 17 #[.slice A n c] w (OpenR w l) := by
  refine calls_tri (args := [.slice A n c]) (lent := []) (H := []) Try.func17 rfl Try.ntmps17 rfl (Sat.start _ _ _ _) ?_
  refine (show Tri _ [(0, _)] _ _ _ from ?_)
  have hR : ∀ cx H, cx.w0 = w → cx.lent = [] → RdS cx H A (bytesV l) := fun cx H h1 h2 => RdS.arg (by rw [h1]; exact hr) h2
  refine tri_seq ?_
  refine tri_region ?_
  refine o_assign rfl rfl ?_
  refine o_assign rfl rfl ?_
  refine triL_nil ?_
  refine thenQ_normal ?_
  refine tri_seq ?_
  refine tri_region ?_
  refine o_move rfl rfl ?_
  refine o_lenS Try.underlying23 rfl rfl ?_
  refine o_subN rfl rfl rfl (by omega) ?_
  refine o_assign rfl rfl ?_
  refine triL_nil ?_
  refine thenQ_normal ?_
  refine tri_seq ?_
  refine tri_seq ?_
  refine tri_slots [(4, _), (0, _)] (.cons rfl (.cons rfl (.nil _))) ?_
  refine tri_region ?_
  refine o_move rfl rfl ?_
  refine o_lss rfl rfl rfl ?_
  refine triL_nil ?_
  refine thenQ_normal ?_
  refine tri_if rfl (fun h1 => ?_) (fun h1 => ?_)
  · skip
    refine tri_seq ?_
    refine tri_slots [] (.nil _) ?_
    refine tri_region ?_
    refine o_assign rfl rfl ?_
    refine o_assign rfl rfl ?_
    refine triL_nil ?_
    refine thenQ_normal ?_
    refine tri_ret ?_
    refine thenQ_ret ?_
    refine end2 rfl rfl rfl ?_
    exact fun w1 h1 => .inr ⟨openB_short l (by omega), fin_pure w1 h1⟩
  · skip
    refine tri_skip ?_
    refine thenQ_normal ?_
    refine tri_seq ?_
    refine tri_region ?_
    refine o_move rfl rfl ?_
    refine o_move rfl rfl ?_
    obtain ⟨q, rfl⟩ : ∃ q, n = q + 4 := ⟨n - 4, by omega⟩
    have hc : q + 4 ≤ c := hcap
    refine o_sliceSh Try.underlying23 sz5 rfl rfl rfl (by omega) (by omega) ?_
    refine o_callP (first := []) (cap := []) rfl rfl rfl Try.call10 (fun w1 h1 => sumOf A _ c (l.take q) w1 (by rw [bytesV_take]; exact ((h1.rd (hR _ _ rfl rfl)).take q)) (by simp; omega) (by omega)) ?_
    refine o_assign rfl rfl ?_
    refine triL_nil ?_
    refine thenQ_normal ?_
    refine tri_seq ?_
    refine tri_seq ?_
    refine tri_slots [(5, _), (4, _), (0, _)] (.cons rfl (.cons rfl (.cons rfl (.nil _)))) ?_
    refine tri_region ?_
    refine o_move rfl rfl ?_
    refine triL_nil ?_
    refine thenQ_normal ?_
    refine tri_block ?_
    refine tri_loop (ι := Nat) (F := fun j => [(0, .slice A (q + 4) c), (4, .int .i64 (q : Int)), (5, u32V (more 0#32 (l.take q))), (17, .int .i64 (j : Int))]) (HH := fun j => []) (Pu := fun j => j ≤ 4 ∧ ∀ k, k < j → l.getD (q + k) 0 = (le4 (more 0#32 (l.take q))).getD k 0) (μ := fun j => 4 - j) (0) (.cons rfl (.cons (congrArg (fun k : Int => some (Value.int .i64 k)) (by omega)) (.cons rfl (.cons rfl (.nil _))))) (fun _ h => h) (⟨by omega, fun k hk => absurd hk (by omega)⟩) (fun j hi => ?_)
    refine tri_seq ?_
    refine tri_region ?_
    refine o_lss rfl rfl rfl ?_
    refine triL_nil ?_
    refine thenQ_normal ?_
    refine tri_seq ?_
    refine tri_if rfl (fun h2 => ?_) (fun h2 => ?_)
    · skip
      have hj := hi.1
      refine tri_skip ?_
      refine thenQ_normal ?_
      refine tri_seq ?_
      refine tri_block ?_
      refine tri_seq ?_
      refine tri_region ?_
      refine o_move rfl rfl ?_
      refine o_assign rfl rfl ?_
      refine triL_nil ?_
      refine thenQ_normal ?_
      refine tri_seq ?_
      refine tri_quiet (by kernel_rfl) (by kernel_rfl) ?_
      refine o_move rfl rfl ?_
      refine o_move rfl rfl ?_
      refine o_move rfl rfl ?_
      refine o_addN rfl rfl rfl (by omega) ?_
      refine o_idxS Try.underlying23 sz5 rfl rfl rfl (hR _ _ rfl rfl) (by omega) (by omega) (by rw [bytesV_length]; omega) (by decide) ?_
      refine o_loadR agg5 rfl rfl (hR _ _ rfl rfl) (rd_byte l (q + j) (by omega) (by omega)) ?_
      refine o_move rfl rfl ?_
      refine o_move rfl rfl ?_
      refine o_mulN rfl rfl rfl (by omega) ?_
      refine o_shr32 _ rfl rfl rfl (by omega) ?_
      refine o_low32 _ rfl rfl Try.underlying22 Try.underlying5 ?_
      refine o_neqU8 _ _ rfl rfl rfl ?_
      refine triL_nil ?_
      refine thenQ_normal ?_
      refine tri_if rfl (fun h3 => ?_) (fun h3 => ?_)
      · skip
        refine tri_seq ?_
        refine tri_slots [] (.nil _) ?_
        refine tri_region ?_
        refine o_assign rfl rfl ?_
        refine o_assign rfl rfl ?_
        refine triL_nil ?_
        refine thenQ_normal ?_
        refine tri_ret ?_
        refine blockQ_ret ?_
        refine thenQ_ret ?_
        refine thenQ_ret ?_
        refine blockQ_ret ?_
        refine thenQ_ret ?_
        refine end2 rfl rfl rfl ?_
        exact fun w1 h1 => .inr ⟨openB_not l q j hn (by omega) (by rw [show (8 * (j : Int)).toNat = 8 * j by omega] at h3; exact h3), fin_pure w1 h1⟩
      · skip
        refine tri_skip ?_
        refine blockQ_normal ?_
        refine thenQ_normal ?_
        refine tri_slots [(0, _), (4, _), (5, _), (17, _)] (.cons rfl (.cons rfl (.cons rfl (.cons rfl (.nil _))))) ?_
        refine tri_region ?_
        refine o_addN rfl rfl rfl (by omega) ?_
        refine o_move rfl rfl ?_
        refine triL_nil ?_
        refine thenQ_normal ?_
        exact ⟨j + 1, (.cons rfl (.cons rfl (.cons rfl (.cons rfl (.nil _))))), fun _ h => h, ⟨by omega, fun k hk => by
      by_cases hkj : k = j
      · subst hkj; rw [le4_get _ k (by omega)]; rw [show (8 * (k : Int)).toNat = 8 * k by omega] at h3; exact Decidable.not_not.1 h3
      · exact hi.2 k (by omega)⟩, by omega⟩
    · skip
      have hj := hi.1
      obtain rfl : j = 4 := by omega
      refine tri_exit ?_
      refine thenQ_exit ?_
      refine thenQ_exit ?_
      refine blockQ_here ?_
      refine thenQ_normal ?_
      refine tri_seq ?_
      refine tri_region ?_
      refine o_move rfl rfl ?_
      refine o_make (n := q) Try.underlying23 zsb5 rfl rfl rfl (by omega) (by omega) (by omega) (by unfold maxLen; omega) (fun b34 => ?_)
      refine o_assign rfl rfl ?_
      refine triL_nil ?_
      refine thenQ_normal ?_
      refine tri_seq ?_
      refine tri_slots [(7, _), (0, _)] (.cons rfl (.cons rfl (.nil _))) ?_
      refine tri_region ?_
      refine o_move rfl rfl ?_
      refine o_move rfl rfl ?_
      refine o_copy Try.underlying23 sz5 (by first | exact Nth.z | exact .s .z | exact .s (.s .z) | exact .s (.s (.s .z)) | exact .s (.s (.s (.s .z))) | exact .s (.s (.s (.s (.s .z)))) | exact .s (.s (.s (.s (.s (.s .z))))) | exact .s (.s (.s (.s (.s (.s (.s .z))))))) rfl rfl rfl (RdS.arg hr rfl) (by rw [bytesV_length]; omega) (bytesV_one _) ?_
      refine triL_nil ?_
      refine thenQ_normal ?_
      refine tri_seq ?_
      refine tri_slots [(7, _)] (.cons rfl (.nil _)) ?_
      refine tri_region ?_
      refine o_move rfl rfl ?_
      refine o_assign rfl rfl ?_
      refine o_assign rfl rfl ?_
      refine triL_nil ?_
      refine thenQ_normal ?_
      refine tri_ret ?_
      refine end2 rfl rfl rfl ?_
      have hob := openB_all l q hn hi.2
      rw [cut_all l q (q + 4) hn (by omega)]
      exact fun w1 h1 => .inl ⟨hob, by rw [show l.length - 4 = q by omega]; exact fin_row (fun v => .tuple #[v, .bool true]) .z w1 h1⟩



end Go.Proofs.Ytijnbnlmmapgbaa
