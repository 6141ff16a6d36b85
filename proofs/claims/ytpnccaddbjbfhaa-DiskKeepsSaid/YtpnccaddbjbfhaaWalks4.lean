/- the document's disk, walked -/
import Derived.Test.YtpnccaddbjbfhaaWalks3
import Derived.Test.YtpnccaddbjbfhaaDisk3
namespace Go.Proofs.Ytpnccaddbjbfhaa
open Go.WK Go.RowKit 

theorem zs5 : (Try.prog.info? 5).map (fun i => (i.zero, i.size)) = some (some (.int .u8 0), 1) := by kernel_rfl
theorem fo55_3 : fieldB Try.prog 55 3 = some 3 := by kernel_rfl
theorem fo55_2 : fieldB Try.prog 55 2 = some 2 := by kernel_rfl
theorem fo55_0 : fieldB Try.prog 55 0 = some 0 := by kernel_rfl
theorem agg30 : aggB Try.prog 30 = some false := by kernel_rfl
theorem sz32 : szB Try.prog 32 = some 1 := by kernel_rfl
theorem agg32 : aggB Try.prog 32 = some false := by kernel_rfl
theorem fo55_1 : fieldB Try.prog 55 1 = some 1 := by kernel_rfl
theorem agg53 : aggB Try.prog 53 = some false := by kernel_rfl
theorem sz72 : szB Try.prog 72 = some 2 := by kernel_rfl
theorem fo72_0 : fieldB Try.prog 72 0 = some 0 := by kernel_rfl
theorem fo72_1 : fieldB Try.prog 72 1 = some 1 := by kernel_rfl
theorem fo55_4 : fieldB Try.prog 55 4 = some 4 := by kernel_rfl
theorem zs72 : (Try.prog.info? 72).map (fun i => (i.zero, i.size)) = some (some (.agg #[.int .i64 0, .slice none 0 0]), 2) := by kernel_rfl
theorem zsb72 : (Try.prog.info? 72).map (fun i => (i.zero, i.size, i.bytes)) = some (some (.agg #[.int .i64 0, .slice none 0 0]), 2, 32) := by kernel_rfl
theorem built72_0_1 (x0 : Int) (A1 : Option Addr) (n1 c1 : Nat) : Try.prog.built 72 [(0, .int .i64 x0), (1, .slice A1 n1 c1)] = some ([.int .i64 x0, .slice A1 n1 c1] : List Value).toArray := by rfl
theorem sz53 : szB Try.prog 53 = some 1 := by kernel_rfl

theorem copyR (A : Option Addr) (n c : Nat) (l : List UInt8) (w : World) (hr : Rd w A (bytesV l)) (hn : l.length = n) (hm : n ≤ 140737488355328) : Calls Try.prog 14 #[.slice A n c] w (NewRowF id w 5 1 n (bytesV l)) := by
  refine calls_tri (args := [.slice A n c]) (lent := []) (H := []) Try.func14 rfl Try.ntmps14 rfl (Sat.start _ _ _ _) ?_
  refine (show Tri _ [(0, _)] _ _ _ from ?_)
  have hR : ∀ cx H, cx.w0 = w → cx.lent = [] → RdS cx H A (bytesV l) := fun cx H h1 h2 => RdS.arg (by rw [h1]; exact hr) h2
  refine tri_seq ?_
  refine tri_region ?_
  refine o_assign rfl rfl ?_
  refine triL_nil ?_
  refine thenQ_normal ?_
  refine tri_seq ?_
  refine tri_region ?_
  refine o_lit (parts := []) [] Try.underlying32 zs5 rfl rfl rfl rfl (by decide) (by decide) (fun b3 => ?_)
  refine o_move rfl rfl ?_
  refine o_append Try.underlying32 zsb5 rfl (by decide) (by first | exact Nth.z | exact .s .z | exact .s (.s .z) | exact .s (.s (.s .z)) | exact .s (.s (.s (.s .z))) | exact .s (.s (.s (.s (.s .z)))) | exact .s (.s (.s (.s (.s (.s .z))))) | exact .s (.s (.s (.s (.s (.s (.s .z))))))) rfl rfl rfl (hR _ _ rfl rfl) (by rw [bytesV_length]; omega) (bytesV_one _) (by unfold maxLen; omega) (by omega) (fun A5 c5 => ?_)
  refine o_assign rfl rfl ?_
  refine triL_nil ?_
  refine thenQ_normal ?_
  refine tri_ret ?_
  refine end1 rfl rfl ?_
  have := fin_row (P := Try.prog) (n0 := 6) (w := w) (H := [row (.slice A5 (0 + n) c5) 5 1 (0 + n) ([] ++ bytesV l)]) id .z
  simp only [Nat.zero_add, List.nil_append] at this ⊢
  exact this

theorem comesR (g : Nat) (m : Rk) (d : Dk) (w : World) (hs : Sat ⟨Try.prog, 31, [], w, rkF g m⟩ (rkC g m d) w) : Calls Try.prog 36 #[.pointer (some ⟨g, 0, none⟩)] w (Turn w (rkF g m) (fun _ : Unit => .bool d.goes.1) (fun _ => rkC g m d.goes.2) (fun _ => True)) := by
  refine calls_tri (args := [.pointer (some ⟨g, 0, none⟩)]) (lent := rkF g m) (H := rkC g m d) Try.func36 rfl Try.ntmps36 rfl hs ?_
  refine (show Tri _ [(0, _)] _ _ _ from ?_)
  refine tri_seq ?_
  refine tri_region ?_
  refine o_assign rfl rfl ?_
  refine triL_nil ?_
  refine thenQ_normal ?_
  refine tri_seq ?_
  refine tri_seq ?_
  refine tri_region ?_
  refine o_move rfl rfl ?_
  refine o_nilCheck rfl rfl ?_
  refine o_field fo55_3 rfl rfl ?_
  refine o_load agg4 (by first | exact Nth.z | exact .s .z | exact .s (.s .z) | exact .s (.s (.s .z)) | exact .s (.s (.s (.s .z))) | exact .s (.s (.s (.s (.s .z)))) | exact .s (.s (.s (.s (.s (.s .z))))) | exact .s (.s (.s (.s (.s (.s (.s .z))))))) rfl rfl rfl ?_
  refine triL_nil ?_
  refine thenQ_normal ?_
  refine tri_cond rfl (fun h0 => ?_) (fun h0 => ?_)
  · skip
    refine tri_seq ?_
    refine tri_slots [] (.nil _) ?_
    refine tri_region ?_
    refine o_assign rfl rfl ?_
    refine triL_nil ?_
    refine thenQ_normal ?_
    refine tri_ret ?_
    refine thenQ_ret ?_
    refine end1 rfl rfl ?_
    have e : d.goes = (false, d) := by simp [Dk.goes, h0]
    exact fin_turn () (by rw [e]) trivial (fun w1 hw => by rw [e]; exact hw)
  · skip
    refine tri_skip ?_
    refine thenQ_normal ?_
    refine tri_seq ?_
    refine tri_seq ?_
    refine tri_slots [(0, _)] (.cons rfl (.nil _)) ?_
    refine tri_region ?_
    refine o_move rfl rfl ?_
    refine o_nilCheck rfl rfl ?_
    refine o_field fo55_2 rfl rfl ?_
    refine o_load agg3 (by first | exact Nth.z | exact .s .z | exact .s (.s .z) | exact .s (.s (.s .z)) | exact .s (.s (.s (.s .z))) | exact .s (.s (.s (.s (.s .z)))) | exact .s (.s (.s (.s (.s (.s .z))))) | exact .s (.s (.s (.s (.s (.s (.s .z))))))) rfl rfl rfl ?_
    refine o_eqlI rfl rfl rfl ?_
    refine triL_nil ?_
    refine thenQ_normal ?_
    refine tri_if rfl (fun h1 => ?_) (fun h1 => ?_)
    · skip
      refine tri_seq ?_
      refine tri_slots [(0, _)] (.cons rfl (.nil _)) ?_
      refine tri_region ?_
      refine o_move rfl rfl ?_
      refine o_move rfl rfl ?_
      refine o_nilCheck rfl rfl ?_
      refine o_field fo55_3 rfl rfl ?_
      refine o_store sz4 (by first | exact Nth.z | exact .s .z | exact .s (.s .z) | exact .s (.s (.s .z)) | exact .s (.s (.s (.s .z))) | exact .s (.s (.s (.s (.s .z)))) | exact .s (.s (.s (.s (.s (.s .z))))) | exact .s (.s (.s (.s (.s (.s (.s .z))))))) rfl rfl rfl rfl rfl (Nat.le_of_ble_eq_true rfl) rfl ?_
      refine o_nilCheck rfl rfl ?_
      refine o_field fo55_2 rfl rfl ?_
      refine o_store sz3 (by first | exact Nth.z | exact .s .z | exact .s (.s .z) | exact .s (.s (.s .z)) | exact .s (.s (.s (.s .z))) | exact .s (.s (.s (.s (.s .z)))) | exact .s (.s (.s (.s (.s (.s .z))))) | exact .s (.s (.s (.s (.s (.s (.s .z))))))) rfl rfl rfl rfl rfl (Nat.le_of_ble_eq_true rfl) rfl ?_
      refine triL_nil ?_
      refine thenQ_normal ?_
      refine tri_seq ?_
      refine tri_slots [] (.nil _) ?_
      refine tri_region ?_
      refine o_assign rfl rfl ?_
      refine triL_nil ?_
      refine thenQ_normal ?_
      refine tri_ret ?_
      refine thenQ_ret ?_
      refine end1 rfl rfl ?_
      have e : d.goes = (false, { d with dark := true, trip := -1 }) := by simp [Dk.goes, h0, h1]
      exact fin_turn () (by rw [e]) trivial (fun w1 hw => by rw [e]; exact hw)
    · skip
      refine tri_skip ?_
      refine thenQ_normal ?_
      refine tri_seq ?_
      refine tri_seq ?_
      refine tri_slots [(0, _)] (.cons rfl (.nil _)) ?_
      refine tri_region ?_
      refine o_move rfl rfl ?_
      refine o_nilCheck rfl rfl ?_
      refine o_field fo55_2 rfl rfl ?_
      refine o_load agg3 (by first | exact Nth.z | exact .s .z | exact .s (.s .z) | exact .s (.s (.s .z)) | exact .s (.s (.s (.s .z))) | exact .s (.s (.s (.s (.s .z)))) | exact .s (.s (.s (.s (.s (.s .z))))) | exact .s (.s (.s (.s (.s (.s (.s .z))))))) rfl rfl rfl ?_
      refine o_gtr rfl rfl rfl ?_
      refine triL_nil ?_
      refine thenQ_normal ?_
      refine tri_if rfl (fun h2 => ?_) (fun h2 => ?_)
      · skip
        refine tri_slots [(0, _)] (.cons rfl (.nil _)) ?_
        refine tri_region ?_
        refine o_move rfl rfl ?_
        refine o_move rfl rfl ?_
        refine o_nilCheck rfl rfl ?_
        refine o_field fo55_2 rfl rfl ?_
        refine o_load agg3 (by first | exact Nth.z | exact .s .z | exact .s (.s .z) | exact .s (.s (.s .z)) | exact .s (.s (.s (.s .z))) | exact .s (.s (.s (.s (.s .z)))) | exact .s (.s (.s (.s (.s (.s .z))))) | exact .s (.s (.s (.s (.s (.s (.s .z))))))) rfl rfl rfl ?_
        refine o_sub rfl rfl rfl ?_
        refine o_nilCheck rfl rfl ?_
        refine o_field fo55_2 rfl rfl ?_
        refine o_store sz3 (by first | exact Nth.z | exact .s .z | exact .s (.s .z) | exact .s (.s (.s .z)) | exact .s (.s (.s (.s .z))) | exact .s (.s (.s (.s (.s .z)))) | exact .s (.s (.s (.s (.s (.s .z))))) | exact .s (.s (.s (.s (.s (.s (.s .z))))))) rfl rfl rfl rfl rfl (Nat.le_of_ble_eq_true rfl) rfl ?_
        refine triL_nil ?_
        refine thenQ_normal ?_
        refine tri_seq ?_
        refine tri_slots [] (.nil _) ?_
        refine tri_region ?_
        refine o_assign rfl rfl ?_
        refine triL_nil ?_
        refine thenQ_normal ?_
        refine tri_ret ?_
        refine end1 rfl rfl ?_
        have e : d.goes = (true, { d with trip := dec d.trip }) := by simp [Dk.goes, h0, h1, h2]
        exact fin_turn () (by rw [e]) trivial (fun w1 hw => by rw [e]; exact hw)
      · skip
        refine tri_skip ?_
        refine thenQ_normal ?_
        refine tri_seq ?_
        refine tri_slots [] (.nil _) ?_
        refine tri_region ?_
        refine o_assign rfl rfl ?_
        refine triL_nil ?_
        refine thenQ_normal ?_
        refine tri_ret ?_
        refine end1 rfl rfl ?_
        have e : d.goes = (true, d) := by 
          simp only [Dk.goes, h0, h1, h2, if_false, Bool.false_eq_true]
          cases d
          cases h0
          rfl
        exact fin_turn () (by rw [e]) trivial (fun w1 hw => by rw [e]; exact hw)

theorem armR (g : Nat) (m : Rk) (d : Dk) (n : Int) (w : World) (hs : Sat ⟨Try.prog, 14, [], w, rkF g m⟩ (rkC g m d) w) : Calls Try.prog 34 #[.pointer (some ⟨g, 0, none⟩), .int .i64 n] w (Turn w (rkF g m) (fun _ : Unit => .tuple #[]) (fun _ => rkC g m (d.arm n)) (fun _ => True)) := by
  refine calls_tri (args := [.pointer (some ⟨g, 0, none⟩), .int .i64 n]) (lent := rkF g m) (H := rkC g m d) Try.func34 rfl Try.ntmps34 rfl hs ?_
  refine (show Tri _ [(0, _), (1, _)] _ _ _ from ?_)
  refine tri_seq ?_
  refine tri_region ?_
  refine o_move rfl rfl ?_
  refine o_nilCheck rfl rfl ?_
  refine o_field fo55_3 rfl rfl ?_
  refine o_load agg4 (by first | exact Nth.z | exact .s .z | exact .s (.s .z) | exact .s (.s (.s .z)) | exact .s (.s (.s (.s .z))) | exact .s (.s (.s (.s (.s .z)))) | exact .s (.s (.s (.s (.s (.s .z))))) | exact .s (.s (.s (.s (.s (.s (.s .z))))))) rfl rfl rfl ?_
  refine o_not rfl rfl ?_
  refine triL_nil ?_
  refine thenQ_normal ?_
  refine tri_cond rfl (fun h0 => ?_) (fun h0 => ?_)
  · skip
    have h0 : d.dark = false := by simpa using h0
    refine tri_slots [(0, _), (1, _)] (.cons rfl (.cons rfl (.nil _))) ?_
    refine tri_region ?_
    refine o_move rfl rfl ?_
    refine o_move rfl rfl ?_
    refine o_max rfl rfl rfl ?_
    refine o_nilCheck rfl rfl ?_
    refine o_field fo55_2 rfl rfl ?_
    refine o_store sz3 (by first | exact Nth.z | exact .s .z | exact .s (.s .z) | exact .s (.s (.s .z)) | exact .s (.s (.s (.s .z))) | exact .s (.s (.s (.s (.s .z)))) | exact .s (.s (.s (.s (.s (.s .z))))) | exact .s (.s (.s (.s (.s (.s (.s .z))))))) rfl rfl rfl rfl rfl (Nat.le_of_ble_eq_true rfl) rfl ?_
    refine triL_nil ?_
    refine end0n rfl ?_
    have e : d.arm n = { d with trip := max n (-1) } := by simp [Dk.arm, h0]
    exact fin_turn () rfl trivial (fun w1 hw => by rw [e]; exact hw)
  · skip
    have h0 : d.dark = true := by simpa using h0
    refine tri_skip ?_
    refine end0n rfl ?_
    have e : d.arm n = d := by simp [Dk.arm, h0]
    exact fin_turn () rfl trivial (fun w1 hw => by rw [e]; exact hw)

theorem seenR (g : Nat) (m : Rk) (d : Dk) (k : Nat) (w : World) (hs : Sat ⟨Try.prog, 43, [], w, rkF g m⟩ (rkC g m d) w) (hok : m.ok d) (hg : d.good) (hm : d.cache.length ≤ 100000) (hk : k < d.kept.length) : Calls Try.prog 37 #[.pointer (some ⟨g, 0, none⟩), .int .i64 (k : Int)] w (Turn w (rkF g m) (fun j : Option Addr × Nat => .slice j.1 512 j.2) (fun j => row (.slice j.1 512 j.2) 5 1 512 (bytesV (d.seen k)) :: rkC g m d) (fun _ => True)) := by
  refine calls_tri (args := [.pointer (some ⟨g, 0, none⟩), .int .i64 (k : Int)]) (lent := rkF g m) (H := rkC g m d) Try.func37 rfl Try.ntmps37 rfl hs ?_
  refine (show Tri _ [(0, _), (1, _)] _ _ _ from ?_)
  have hl1 := hok.1.1
  have hl2 := hok.2.1
  have hg3 := hg.2.2
  refine tri_seq ?_
  refine tri_region ?_
  refine o_assign rfl rfl ?_
  refine triL_nil ?_
  refine thenQ_normal ?_
  refine tri_seq ?_
  refine tri_region ?_
  refine o_move rfl rfl ?_
  refine o_nilCheck rfl rfl ?_
  refine o_field fo55_0 rfl rfl ?_
  refine o_load agg30 (by first | exact Nth.z | exact .s .z | exact .s (.s .z) | exact .s (.s (.s .z)) | exact .s (.s (.s (.s .z))) | exact .s (.s (.s (.s (.s .z)))) | exact .s (.s (.s (.s (.s (.s .z))))) | exact .s (.s (.s (.s (.s (.s (.s .z))))))) rfl rfl rfl ?_
  refine o_move rfl rfl ?_
  refine o_idxS Try.underlying30 sz32 rfl rfl rfl (RdS.row (i := 1) (.s .z)) (by omega) (by omega) (refs_length _) (by decide) ?_
  refine o_loadR agg32 rfl rfl (RdS.row (i := 1) (.s .z)) (refs_get m.kr k (by omega)) ?_
  refine o_assign rfl rfl ?_
  refine triL_nil ?_
  refine thenQ_normal ?_
  refine tri_seq ?_
  refine tri_seq ?_
  refine tri_slots [(5, _), (0, _), (1, _)] (.cons rfl (.cons rfl (.cons rfl (.nil _)))) ?_
  refine tri_region ?_
  refine o_assign rfl rfl ?_
  refine triL_nil ?_
  refine thenQ_normal ?_
  refine tri_block ?_
  refine tri_loop (ι := Nat × PE) (F := fun q => [(0, .pointer (some ⟨g, 0, none⟩)), (1, .int .i64 (k : Int)), (5, .slice q.2.1 512 q.2.2.1), (6, .int .i64 (q.1 : Int))]) (HH := fun q => (rkC g m d)) (Pu := fun q => q.1 ≤ m.cr.length ∧ q.2 ∈ m.pool ∧ d.seen k = seenF (d.cache.drop q.1) k q.2.2.2 ∧ q.2.2.2.length = 512) (μ := fun q => m.cr.length - q.1) ((0, (m.kr.getD k pd).1, (m.kr.getD k pd).2, d.kept.getD k [])) (.cons rfl (.cons rfl (.cons rfl (.cons rfl (.nil _))))) (fun _ h => h) (⟨Nat.zero_le _, hok.1.2 k hk, rfl, getD_kept hg.1 hk⟩) (fun q hi => ?_)
  refine tri_seq ?_
  refine tri_seq ?_
  refine tri_region ?_
  refine o_move rfl rfl ?_
  refine o_move rfl rfl ?_
  refine o_nilCheck rfl rfl ?_
  refine o_field fo55_1 rfl rfl ?_
  refine o_load agg53 (by first | exact Nth.z | exact .s .z | exact .s (.s .z) | exact .s (.s (.s .z)) | exact .s (.s (.s (.s .z))) | exact .s (.s (.s (.s (.s .z)))) | exact .s (.s (.s (.s (.s (.s .z))))) | exact .s (.s (.s (.s (.s (.s (.s .z))))))) rfl rfl rfl ?_
  refine o_lenS Try.underlying53 rfl rfl ?_
  refine o_lss rfl rfl rfl ?_
  refine triL_nil ?_
  refine thenQ_normal ?_
  refine tri_if rfl (fun h0 => ?_) (fun h0 => ?_)
  · skip
    have hoc := hok.2.2 q.1 (by omega)
    refine tri_skip ?_
    refine thenQ_normal ?_
    refine tri_seq ?_
    refine tri_block ?_
    refine tri_seq ?_
    refine tri_slots [(0, _), (1, _), (5, _), (6, _)] (.cons rfl (.cons rfl (.cons rfl (.cons rfl (.nil _))))) ?_
    refine tri_region ?_
    refine o_move rfl rfl ?_
    refine o_nilCheck rfl rfl ?_
    refine o_field fo55_1 rfl rfl ?_
    refine o_load agg53 (by first | exact Nth.z | exact .s .z | exact .s (.s .z) | exact .s (.s (.s .z)) | exact .s (.s (.s (.s .z))) | exact .s (.s (.s (.s (.s .z)))) | exact .s (.s (.s (.s (.s (.s .z))))) | exact .s (.s (.s (.s (.s (.s (.s .z))))))) rfl rfl rfl ?_
    refine o_move rfl rfl ?_
    refine o_idxS Try.underlying53 sz72 rfl rfl rfl (RdS.row (i := 2) (.s (.s .z))) (by omega) (by omega) (crefs_length _) (by decide) ?_
    refine o_fieldAt fo72_0 rfl rfl (RdS.row (i := 2) (.s (.s .z))) (crefs_at m.cr q.1 (by omega)) ?_
    refine o_loadR agg3 rfl rfl (RdS.row (i := 2) (.s (.s .z))) (crefs_at m.cr q.1 (by omega)) ?_
    refine o_move rfl rfl ?_
    refine o_eqlI rfl rfl rfl ?_
    refine triL_nil ?_
    refine thenQ_normal ?_
    refine tri_if rfl (fun h1 => ?_) (fun h1 => ?_)
    · skip
      refine tri_slots [(0, _), (1, _), (6, _)] (.cons rfl (.cons rfl (.cons rfl (.nil _)))) ?_
      refine tri_region ?_
      refine o_move rfl rfl ?_
      refine o_nilCheck rfl rfl ?_
      refine o_field fo55_1 rfl rfl ?_
      refine o_load agg53 (by first | exact Nth.z | exact .s .z | exact .s (.s .z) | exact .s (.s (.s .z)) | exact .s (.s (.s (.s .z))) | exact .s (.s (.s (.s (.s .z)))) | exact .s (.s (.s (.s (.s (.s .z))))) | exact .s (.s (.s (.s (.s (.s (.s .z))))))) rfl rfl rfl ?_
      refine o_move rfl rfl ?_
      refine o_idxS Try.underlying53 sz72 rfl rfl rfl (RdS.row (i := 2) (.s (.s .z))) (by omega) (by omega) (crefs_length _) (by decide) ?_
      refine o_fieldAt fo72_1 rfl rfl (RdS.row (i := 2) (.s (.s .z))) (crefs_at m.cr q.1 (by omega)) ?_
      refine o_loadR agg32 rfl rfl (RdS.row (i := 2) (.s (.s .z))) (crefs_to m.cr q.1 (by omega)) ?_
      refine o_assign rfl rfl ?_
      refine triL_nil ?_
      refine blockQ_normal ?_
      refine thenQ_normal ?_
      refine tri_slots [(5, _), (0, _), (1, _), (6, _)] (.cons rfl (.cons rfl (.cons rfl (.cons rfl (.nil _))))) ?_
      refine tri_region ?_
      refine o_move rfl rfl ?_
      refine o_addN rfl rfl rfl (by omega) ?_
      refine o_assign rfl rfl ?_
      refine triL_nil ?_
      refine thenQ_normal ?_
      exact ⟨(q.1 + 1, (m.cr.getD q.1 qd).2.1, (m.cr.getD q.1 qd).2.2, (d.cache.getD q.1 (0, [])).2), (.cons rfl (.cons rfl (.cons rfl (.cons rfl (.nil _))))), fun _ h => h, ⟨by simp only; omega, hoc.2, by rw [hi.2.2.1, seenF_drop k _ (by omega), if_pos (by omega)], (getD_cache hg (by omega)).2⟩, (by simp only; omega)⟩
    · skip
      refine tri_skip ?_
      refine blockQ_normal ?_
      refine thenQ_normal ?_
      refine tri_slots [(0, _), (1, _), (5, _), (6, _)] (.cons rfl (.cons rfl (.cons rfl (.cons rfl (.nil _))))) ?_
      refine tri_region ?_
      refine o_move rfl rfl ?_
      refine o_addN rfl rfl rfl (by omega) ?_
      refine o_assign rfl rfl ?_
      refine triL_nil ?_
      refine thenQ_normal ?_
      exact ⟨(q.1 + 1, q.2), (.cons rfl (.cons rfl (.cons rfl (.cons rfl (.nil _))))), fun _ h => h, ⟨by simp only; omega, hi.2.1, by rw [hi.2.2.1, seenF_drop k _ (by omega), if_neg (by omega)], hi.2.2.2⟩, (by simp only; omega)⟩
  · skip
    refine tri_exit ?_
    refine thenQ_exit ?_
    refine thenQ_exit ?_
    refine blockQ_here ?_
    refine thenQ_normal ?_
    refine tri_seq ?_
    refine tri_slots [(5, _)] (.cons rfl (.nil _)) ?_
    refine tri_region ?_
    refine o_move rfl rfl ?_
    refine o_callF (first := []) (cap := []) id rfl rfl rfl Try.call14 (fun w1 h1 => copyR q.2.1 512 q.2.2.1 q.2.2.2 w1 (h1.rd (RdS.pool (i := 3) (.s (.s (.s .z))) hi.2.1)) hi.2.2.2 (by omega)) (fun A42 c42 => ?_)
    refine o_assign rfl rfl ?_
    refine triL_nil ?_
    refine thenQ_normal ?_
    refine tri_ret ?_
    refine end1 rfl rfl ?_
    have hq : q.1 = d.cache.length := by omega
    have hx := hi.2.2.1
    rw [hq, seenF_end] at hx
    exact fin_turn (A42, c42) rfl trivial (fun w1 hw => by rw [hx]; exact hw)

theorem readR (g : Nat) (m : Rk) (d : Dk) (at_ : Int) (w : World) (hs : Sat ⟨Try.prog, 33, [], w, rkF g m⟩ (rkC g m d) w) (hok : m.ok d) (hg : d.good) (hm : d.cache.length ≤ 100000) : Calls Try.prog 31 #[.pointer (some ⟨g, 0, none⟩), .int .i64 at_] w (Turn w (rkF g m) (fun j : Option Addr × Nat => .tuple #[.slice j.1 (d.read at_).1.length j.2, .int .i64 (d.read at_).2.1]) (fun j => row (.slice j.1 (d.read at_).1.length j.2) 5 1 (d.read at_).1.length (bytesV (d.read at_).1) :: rkC g m (d.read at_).2.2) (fun _ => True)) := by
  refine calls_tri (args := [.pointer (some ⟨g, 0, none⟩), .int .i64 at_]) (lent := rkF g m) (H := rkC g m d) Try.func31 rfl Try.ntmps31 rfl hs ?_
  refine (show Tri _ [(0, _), (1, _)] _ _ _ from ?_)
  have hl1 := hok.1.1
  have hl2 := hok.2.1
  have hg3 := hg.2.2
  refine tri_seq ?_
  refine tri_region ?_
  refine o_assign rfl rfl ?_
  refine o_assign rfl rfl ?_
  refine triL_nil ?_
  refine thenQ_normal ?_
  refine tri_seq ?_
  refine tri_seq ?_
  refine tri_region ?_
  refine o_move rfl rfl ?_
  refine o_lss rfl rfl rfl ?_
  refine o_move rfl rfl ?_
  refine' triL_or [_, _, _, _, _, _, _] [(0, _), (1, _)] (dj := 8) (dr := 15) rfl rfl (fun g1 => ?_) ⟨_, rfl, rfl, rfl, (.cons rfl (.cons rfl (.nil _)))⟩ rfl ?_
  rotate_left
  · skip
    skip
    refine o_move rfl rfl ?_
    refine o_move rfl rfl ?_
    refine o_nilCheck rfl rfl ?_
    refine o_field fo55_0 rfl rfl ?_
    refine o_load agg30 (by first | exact Nth.z | exact .s .z | exact .s (.s .z) | exact .s (.s (.s .z)) | exact .s (.s (.s (.s .z))) | exact .s (.s (.s (.s (.s .z)))) | exact .s (.s (.s (.s (.s (.s .z))))) | exact .s (.s (.s (.s (.s (.s (.s .z))))))) rfl rfl rfl ?_
    refine o_lenS Try.underlying30 rfl rfl ?_
    refine o_geq rfl rfl rfl ?_
    exact triL_nil (Piece.mk rfl rfl (.cons rfl (.cons rfl (.nil _))) (fun _ h => h))
  refine triL_nil ?_
  refine thenQ_normal ?_
  refine tri_cond rfl (fun h0 => ?_) (fun h0 => ?_)
  · skip
    have h0 : d.out at_ := by simpa [Dk.out, hl1] using h0
    refine tri_seq ?_
    refine tri_region ?_
    refine o_assign rfl rfl ?_
    refine o_assign rfl rfl ?_
    refine triL_nil ?_
    refine thenQ_normal ?_
    refine tri_ret ?_
    refine thenQ_ret ?_
    refine end2 rfl rfl rfl ?_
    have e : d.read at_ = ([], 2, d) := by rw [Dk.read, if_pos h0]
    exact fin_turn (none, 0) (by rw [e]; rfl) trivial (fun w1 hw => by rw [e]; exact hw.nilRow _ _)
  · skip
    have h0 : ¬ d.out at_ := by simpa [Dk.out, hl1] using h0
    have h0' := h0
    unfold Dk.out at h0'
    obtain ⟨k, rfl⟩ := Int.eq_ofNat_of_zero_le (show 0 ≤ at_ by omega)
    refine tri_skip ?_
    refine thenQ_normal ?_
    refine tri_seq ?_
    refine tri_seq ?_
    refine tri_region ?_
    refine o_move rfl rfl ?_
    refine o_callM [] (rkC g m d) [] (rkF g m) rfl rfl rfl rfl Try.call36 rk_lend rk_lend' (fun w1 _ h2 => comesR g m d w1 h2.cx) (fun _ _ => ?_)
    obtain ⟨ok, d1, hd1, k1, k2, k3, k4, k5⟩ := goes_parts d
    rw [hd1]
    dsimp only
    have hg1 : d1.good := by have := Dk.goes_good hg; rw [hd1] at this; exact this
    have hm1 : d1.cache.length ≤ 100000 := by rw [k2]; exact hm
    have hok1 : m.ok d1 := by unfold Rk.ok; rw [k1, k2]; exact hok
    refine o_not rfl rfl ?_
    refine triL_nil ?_
    refine thenQ_normal ?_
    refine tri_cond rfl (fun h1 => ?_) (fun h1 => ?_)
    · skip
      have h1 : ok = false := by simpa using h1
      refine tri_seq ?_
      refine tri_slots [] (.nil _) ?_
      refine tri_region ?_
      refine o_assign rfl rfl ?_
      refine o_assign rfl rfl ?_
      refine triL_nil ?_
      refine thenQ_normal ?_
      refine tri_ret ?_
      refine thenQ_ret ?_
      refine end2 rfl rfl rfl ?_
      have e : d.read (k : Int) = ([], 8, d1) := by rw [Dk.read, if_neg h0, hd1]; simp [h1]
      exact fin_turn (none, 0) (by rw [e]; rfl) trivial (fun w1 hw => by rw [e]; exact hw.nilRow _ _)
    · skip
      have h1 : ok = true := by simpa using h1
      have hk : k < d1.kept.length := by rw [k1]; omega
      refine tri_skip ?_
      refine thenQ_normal ?_
      refine tri_seq ?_
      refine tri_slots [(0, _), (1, _)] (.cons rfl (.cons rfl (.nil _))) ?_
      refine tri_region ?_
      refine o_move rfl rfl ?_
      refine o_move rfl rfl ?_
      refine o_nilCheck rfl rfl ?_
      refine o_field fo55_4 rfl rfl ?_
      refine o_field fo47_0 rfl rfl ?_
      refine o_load agg3 (by first | exact Nth.z | exact .s .z | exact .s (.s .z) | exact .s (.s (.s .z)) | exact .s (.s (.s (.s .z))) | exact .s (.s (.s (.s (.s .z)))) | exact .s (.s (.s (.s (.s (.s .z))))) | exact .s (.s (.s (.s (.s (.s (.s .z))))))) rfl rfl rfl ?_
      refine o_add rfl rfl rfl ?_
      refine o_nilCheck rfl rfl ?_
      refine o_field fo55_4 rfl rfl ?_
      refine o_field fo47_0 rfl rfl ?_
      refine o_store sz3 (by first | exact Nth.z | exact .s .z | exact .s (.s .z) | exact .s (.s (.s .z)) | exact .s (.s (.s (.s .z))) | exact .s (.s (.s (.s (.s .z)))) | exact .s (.s (.s (.s (.s (.s .z))))) | exact .s (.s (.s (.s (.s (.s (.s .z))))))) rfl rfl rfl rfl rfl (Nat.le_of_ble_eq_true rfl) rfl ?_
      refine triL_nil ?_
      refine thenQ_normal ?_
      refine tri_seq ?_
      refine tri_slots [(0, _), (1, _)] (.cons rfl (.cons rfl (.nil _))) ?_
      refine tri_region ?_
      refine o_move rfl rfl ?_
      refine o_move rfl rfl ?_
      refine o_callM [] (rkC g m { d1 with r := inc d1.r }) [] (rkF g m) rfl rfl rfl rfl Try.call37 rk_lend rk_lend' (fun w1 _ h2 => seenR g m { d1 with r := inc d1.r } k w1 h2.cx hok1 hg1 hm1 hk) (fun j _ => ?_)
      refine o_assign rfl rfl ?_
      refine o_assign rfl rfl ?_
      refine triL_nil ?_
      refine thenQ_normal ?_
      refine tri_ret ?_
      refine end2 rfl rfl rfl ?_
      have hs1 : d.seen k = d1.seen k := by simp only [Dk.seen, k1, k2]
      have hsl := Dk.seen_len hg1 hk
      have e : d.read (k : Int) = (d1.seen k, 0, { d1 with r := inc d1.r }) := by rw [Dk.read, if_neg h0, hd1]; simp [h1, hs1, k3]
      exact fin_turn j (by rw [e]; simp only [hsl]) trivial (fun w1 hw => by
        rw [e]
        simp only [hsl]
        exact hw)

theorem writeR (g : Nat) (m : Rk) (d : Dk) (at_ : Int) (A : Option Addr) (n c : Nat) (b : List UInt8) (w : World) (hs : Sat ⟨Try.prog, 47, [], w, rkF g m⟩ (rkC g m d) w) (hok : m.ok d) (hg : d.good) (hm : d.cache.length ≤ 100000) (hkp : Keeps w (rkF g m) A (bytesV b)) (hn : b.length = n) : Calls Try.prog 32 #[.pointer (some ⟨g, 0, none⟩), .int .i64 at_, .slice A n c] w (Turn w (rkF g m) (fun _ : Rk => .int .i64 (d.write at_ b).1) (fun j => rkC g j (d.write at_ b).2) (fun j => j.ok (d.write at_ b).2)) := by
  refine calls_tri (args := [.pointer (some ⟨g, 0, none⟩), .int .i64 at_, .slice A n c]) (lent := rkF g m) (H := rkC g m d) Try.func32 rfl Try.ntmps32 rfl hs ?_
  refine (show Tri _ [(0, _), (1, _), (2, _)] _ _ _ from ?_)
  have hl1 := hok.1.1
  have hl2 := hok.2.1
  have hg3 := hg.2.2
  have hR : ∀ cx H, cx.w0 = w → cx.lent = rkF g m → RdS cx H A (bytesV b) := fun cx H h1 h2 => Keeps.rdS (by rw [h1, h2]; exact hkp)
  refine tri_seq ?_
  refine tri_region ?_
  refine o_assign rfl rfl ?_
  refine triL_nil ?_
  refine thenQ_normal ?_
  refine tri_seq ?_
  refine tri_seq ?_
  refine tri_region ?_
  refine o_move rfl rfl ?_
  refine o_lss rfl rfl rfl ?_
  refine o_move rfl rfl ?_
  refine' triL_or [_, _, _, _, _, _, _] [(0, _), (1, _), (2, _)] (dj := 9) (dr := 16) rfl rfl (fun g1 => ?_) ⟨_, rfl, rfl, rfl, (.cons rfl (.cons rfl (.cons rfl (.nil _))))⟩ rfl ?_
  rotate_left
  · skip
    skip
    refine o_move rfl rfl ?_
    refine o_move rfl rfl ?_
    refine o_nilCheck rfl rfl ?_
    refine o_field fo55_0 rfl rfl ?_
    refine o_load agg30 (by first | exact Nth.z | exact .s .z | exact .s (.s .z) | exact .s (.s (.s .z)) | exact .s (.s (.s (.s .z))) | exact .s (.s (.s (.s (.s .z)))) | exact .s (.s (.s (.s (.s (.s .z))))) | exact .s (.s (.s (.s (.s (.s (.s .z))))))) rfl rfl rfl ?_
    refine o_lenS Try.underlying30 rfl rfl ?_
    refine o_geq rfl rfl rfl ?_
    exact triL_nil (Piece.mk rfl rfl (.cons rfl (.cons rfl (.cons rfl (.nil _)))) (fun _ h => h))
  refine triL_nil ?_
  refine thenQ_normal ?_
  refine tri_cond rfl (fun h0 => ?_) (fun h0 => ?_)
  · skip
    have h0 : d.out at_ := by simpa [Dk.out, hl1] using h0
    refine tri_seq ?_
    refine tri_slots [] (.nil _) ?_
    refine tri_region ?_
    refine o_assign rfl rfl ?_
    refine triL_nil ?_
    refine thenQ_normal ?_
    refine tri_ret ?_
    refine thenQ_ret ?_
    refine end1 rfl rfl ?_
    have e : d.write at_ b = (2, d) := by rw [Dk.write, if_pos h0]
    exact fin_turn m (by rw [e]) (by rw [e]; exact hok) (fun w1 hw => by rw [e]; exact hw)
  · skip
    have h0 : ¬ d.out at_ := by simpa [Dk.out, hl1] using h0
    have h0' := h0
    unfold Dk.out at h0'
    obtain ⟨k, rfl⟩ := Int.eq_ofNat_of_zero_le (show 0 ≤ at_ by omega)
    refine tri_skip ?_
    refine thenQ_normal ?_
    refine tri_seq ?_
    refine tri_seq ?_
    refine tri_region ?_
    refine o_move rfl rfl ?_
    refine o_lenS Try.underlying32 rfl rfl ?_
    refine o_neqI rfl rfl rfl ?_
    refine triL_nil ?_
    refine thenQ_normal ?_
    refine tri_if rfl (fun hb => ?_) (fun hb => ?_)
    · skip
      have hb : b.length ≠ 512 := by omega
      refine tri_seq ?_
      refine tri_slots [] (.nil _) ?_
      refine tri_region ?_
      refine o_assign rfl rfl ?_
      refine triL_nil ?_
      refine thenQ_normal ?_
      refine tri_ret ?_
      refine thenQ_ret ?_
      refine end1 rfl rfl ?_
      have e : d.write (k : Int) b = (1, d) := by rw [Dk.write, if_neg h0, if_pos hb]
      exact fin_turn m (by rw [e]) (by rw [e]; exact hok) (fun w1 hw => by rw [e]; exact hw)
    · skip
      have hb : b.length = 512 := by omega
      obtain rfl : n = 512 := by omega
      refine tri_skip ?_
      refine thenQ_normal ?_
      refine tri_seq ?_
      refine tri_seq ?_
      refine tri_slots [(0, _), (1, _), (2, _)] (.cons rfl (.cons rfl (.cons rfl (.nil _)))) ?_
      refine tri_region ?_
      refine o_move rfl rfl ?_
      refine o_callM [] (rkC g m d) [] (rkF g m) rfl rfl rfl rfl Try.call36 rk_lend rk_lend' (fun w1 _ h2 => comesR g m d w1 h2.cx) (fun _ _ => ?_)
      obtain ⟨ok, d1, hd1, k1, k2, k3, k4, k5⟩ := goes_parts d
      rw [hd1]
      dsimp only
      have hg1 : d1.good := by have := Dk.goes_good hg; rw [hd1] at this; exact this
      have hm1 : d1.cache.length ≤ 100000 := by rw [k2]; exact hm
      have hok1 : m.ok d1 := by unfold Rk.ok; rw [k1, k2]; exact hok
      refine o_not rfl rfl ?_
      refine triL_nil ?_
      refine thenQ_normal ?_
      refine tri_cond rfl (fun h1 => ?_) (fun h1 => ?_)
      · skip
        have h1 : ok = false := by simpa using h1
        refine tri_seq ?_
        refine tri_slots [] (.nil _) ?_
        refine tri_region ?_
        refine o_assign rfl rfl ?_
        refine triL_nil ?_
        refine thenQ_normal ?_
        refine tri_ret ?_
        refine thenQ_ret ?_
        refine end1 rfl rfl ?_
        have e : d.write (k : Int) b = (8, d1) := by rw [Dk.write, if_neg h0, if_neg (by omega), hd1]; simp [h1]
        exact fin_turn m (by rw [e]) (by rw [e]; exact hok1) (fun w1 hw => by rw [e]; exact hw)
      · skip
        have h1 : ok = true := by simpa using h1
        have hk : k < d1.kept.length := by rw [k1]; omega
        refine tri_skip ?_
        refine thenQ_normal ?_
        refine tri_seq ?_
        refine tri_region ?_
        refine o_move rfl rfl ?_
        refine o_move rfl rfl ?_
        refine o_nilCheck rfl rfl ?_
        refine o_field fo55_4 rfl rfl ?_
        refine o_field fo47_1 rfl rfl ?_
        refine o_load agg3 (by first | exact Nth.z | exact .s .z | exact .s (.s .z) | exact .s (.s (.s .z)) | exact .s (.s (.s (.s .z))) | exact .s (.s (.s (.s (.s .z)))) | exact .s (.s (.s (.s (.s (.s .z))))) | exact .s (.s (.s (.s (.s (.s (.s .z))))))) rfl rfl rfl ?_
        refine o_add rfl rfl rfl ?_
        refine o_nilCheck rfl rfl ?_
        refine o_field fo55_4 rfl rfl ?_
        refine o_field fo47_1 rfl rfl ?_
        refine o_store sz3 (by first | exact Nth.z | exact .s .z | exact .s (.s .z) | exact .s (.s (.s .z)) | exact .s (.s (.s (.s .z))) | exact .s (.s (.s (.s (.s .z)))) | exact .s (.s (.s (.s (.s (.s .z))))) | exact .s (.s (.s (.s (.s (.s (.s .z))))))) rfl rfl rfl rfl rfl (Nat.le_of_ble_eq_true rfl) rfl ?_
        refine triL_nil ?_
        refine thenQ_normal ?_
        refine tri_seq ?_
        refine tri_slots [(0, _), (1, _), (2, _)] (.cons rfl (.cons rfl (.cons rfl (.nil _)))) ?_
        refine tri_mix ([box g 55 [.slice m.Ak m.kr.length m.ck, .slice m.Ac m.cr.length m.cc, .int .i64 d1.trip, .bool d1.dark, .int .i64 d1.r, .int .i64 (inc d1.w), .int .i64 d1.s], row (.slice m.Ak m.kr.length m.ck) 32 1 m.kr.length (refsV m.kr)]) [(0, true), (1, true), (2, true), (3, true), (4, true), (5, true), (6, true), (7, false), (8, true), (9, false), (10, false), (11, false), (12, false), (13, false)] [11, 12, 13] (by kernel_rfl) (by kernel_rfl) (fun _ h => h.sublist (List.Sublist.cons_cons _ (List.Sublist.cons_cons _ (List.nil_sublist _)))) ?_
        refine mix_fix rfl ?_
        refine o_move rfl rfl ?_
        refine triL_nil ⟨rfl, ?_⟩
        refine mix_fix rfl ?_
        refine o_move rfl rfl ?_
        refine triL_nil ⟨rfl, ?_⟩
        refine mix_fix rfl ?_
        refine o_nilCheck rfl rfl ?_
        refine triL_nil ⟨rfl, ?_⟩
        refine mix_fix rfl ?_
        refine o_field fo55_1 rfl rfl ?_
        refine triL_nil ⟨rfl, ?_⟩
        refine mix_fix rfl ?_
        refine o_load agg53 (by first | exact Nth.z | exact .s .z | exact .s (.s .z) | exact .s (.s (.s .z)) | exact .s (.s (.s (.s .z))) | exact .s (.s (.s (.s (.s .z)))) | exact .s (.s (.s (.s (.s (.s .z))))) | exact .s (.s (.s (.s (.s (.s (.s .z))))))) rfl rfl rfl ?_
        refine triL_nil ⟨rfl, ?_⟩
        refine mix_fix rfl ?_
        refine o_move rfl rfl ?_
        refine triL_nil ⟨rfl, ?_⟩
        refine mix_fix rfl ?_
        refine o_move rfl rfl ?_
        refine triL_nil ⟨rfl, ?_⟩
        refine mix_op rfl ?_
        refine o_callF (first := []) (cap := []) id rfl rfl rfl Try.call14 (fun w1 h1 => copyR A 512 c b w1 (h1.rd (hR _ _ rfl rfl)) hn (by omega)) (fun A41 c41 => ?_)
        refine triL_nil ⟨rfl, fun _ _ h => h.tail.sublist (List.Sublist.cons_cons _ (List.Sublist.cons_cons _ (List.nil_sublist _))), ?_⟩
        refine mix_fix rfl ?_
        refine o_build (cs := crefV (k, A41, c41)) (built72_0_1 _ _ _ _) rfl rfl ?_
        refine triL_nil ⟨rfl, ?_⟩
        refine mix_op rfl ?_
        refine o_lit1 (vs := crefV (k, A41, c41)) Try.underlying53 zs72 rfl rfl rfl rfl rfl (by decide) (by decide) (fun b43 => ?_)
        refine triL_nil ⟨rfl, fun _ _ h => h.tail.tail.sublist (List.Sublist.cons_cons _ (List.Sublist.cons_cons _ (List.nil_sublist _))), ?_⟩
        refine mix_op rfl ?_
        refine o_append (news := crefV (k, A41, c41)) Try.underlying53 zsb72 rfl (by decide) (.s (.s (.s (.s .z)))) rfl rfl rfl (RdS.row .z) rfl (allOne_spec rfl) (by unfold maxLen; omega) (by omega) (fun A44 c44 => ?_)
        refine triL_nil ⟨rfl, fun _ _ h => h.tail.tail.sublist (List.Sublist.cons_cons _ (List.Sublist.cons_cons _ (List.nil_sublist _))), ?_⟩
        refine mix_rest [11, 12, 13] [_, _, _] rfl rfl ?_
        refine o_nilCheck rfl rfl ?_
        refine o_field fo55_1 rfl rfl ?_
        refine o_store sz53 (by first | exact Nth.z | exact .s .z | exact .s (.s .z) | exact .s (.s (.s .z)) | exact .s (.s (.s (.s .z))) | exact .s (.s (.s (.s (.s .z)))) | exact .s (.s (.s (.s (.s (.s .z))))) | exact .s (.s (.s (.s (.s (.s (.s .z))))))) rfl rfl rfl rfl rfl (Nat.le_of_ble_eq_true rfl) rfl ?_
        refine triL_nil ⟨rfl, ?_⟩
        refine thenQ_normal ?_
        refine tri_seq ?_
        refine tri_slots [] (.nil _) ?_
        refine tri_region ?_
        refine o_assign rfl rfl ?_
        refine triL_nil ?_
        refine thenQ_normal ?_
        refine tri_ret ?_
        refine end1 rfl rfl ?_
        have e : d.write (k : Int) b = (0, { d1 with w := inc d1.w, cache := d1.cache ++ [(k, b)] }) := by rw [Dk.write, if_neg h0, if_neg (by omega), hd1]; simp [h1, k2, k4]
        exact fin_turn { m with Ac := A44, cc := c44, cr := m.cr ++ [(k, A41, c41)], F := blk A41 ++ m.F, pool := (A41, c41, b) :: m.pool } (by rw [e]) (by rw [e]; exact ⟨okK_mono hok1.1 _, okC_snoc (okC_mono hok1.2 _) List.mem_cons_self⟩) (fun w1 hw => by
          rw [e]
          have e2 := rk_snocC (g := g) (A := A44) (c := c44) (m := { m with F := blk A41 ++ m.F, pool := (A41, c41, b) :: m.pool }) (d := { d1 with w := inc d1.w, cache := d1.cache ++ [(k, b)] }) (k, A41, c41)
          simp only at e2 ⊢
          rw [e2]
          exact hw.tail.pool (.s (.s (.s .z))))

theorem syncR (g : Nat) (m : Rk) (d : Dk) (w : World) (hs : Sat ⟨Try.prog, 50, [], w, rkF g m⟩ (rkC g m d) w) (hok : m.ok d) (hg : d.good) (hm : d.cache.length ≤ 100000) : Calls Try.prog 33 #[.pointer (some ⟨g, 0, none⟩)] w (Turn w (rkF g m) (fun _ : Rk => .int .i64 d.sync.1) (fun j => rkC g j d.sync.2) (fun j => j.ok d.sync.2)) := by
  refine calls_tri (args := [.pointer (some ⟨g, 0, none⟩)]) (lent := rkF g m) (H := rkC g m d) Try.func33 rfl Try.ntmps33 rfl hs ?_
  refine (show Tri _ [(0, _)] _ _ _ from ?_)
  have hl1 := hok.1.1
  have hl2 := hok.2.1
  have hg3 := hg.2.2
  refine tri_seq ?_
  refine tri_region ?_
  refine o_assign rfl rfl ?_
  refine triL_nil ?_
  refine thenQ_normal ?_
  refine tri_seq ?_
  refine tri_seq ?_
  refine tri_region ?_
  refine o_move rfl rfl ?_
  refine o_callM [] (rkC g m d) [] (rkF g m) rfl rfl rfl rfl Try.call36 rk_lend rk_lend' (fun w1 _ h2 => comesR g m d w1 h2.cx) (fun _ _ => ?_)
  obtain ⟨ok, d1, hd1, k1, k2, k3, k4, k5⟩ := goes_parts d
  rw [hd1]
  dsimp only
  have hg1 : d1.good := by have := Dk.goes_good hg; rw [hd1] at this; exact this
  have hm1 : d1.cache.length ≤ 100000 := by rw [k2]; exact hm
  have hok1 : m.ok d1 := by unfold Rk.ok; rw [k1, k2]; exact hok
  refine o_not rfl rfl ?_
  refine triL_nil ?_
  refine thenQ_normal ?_
  refine tri_cond rfl (fun h1 => ?_) (fun h1 => ?_)
  · skip
    have h1 : ok = false := by simpa using h1
    refine tri_seq ?_
    refine tri_slots [] (.nil _) ?_
    refine tri_region ?_
    refine o_assign rfl rfl ?_
    refine triL_nil ?_
    refine thenQ_normal ?_
    refine tri_ret ?_
    refine thenQ_ret ?_
    refine end1 rfl rfl ?_
    have e : d.sync = (8, d1) := by rw [Dk.sync, hd1]; simp [h1]
    exact fin_turn m (by rw [e]) (by rw [e]; exact hok1) (fun w1 hw => by rw [e]; exact hw)
  · skip
    have h1 : ok = true := by simpa using h1
    have hl21 : m.cr.length = d1.cache.length := hok1.2.1
    refine tri_skip ?_
    refine thenQ_normal ?_
    refine tri_seq ?_
    refine tri_slots [(0, _)] (.cons rfl (.nil _)) ?_
    refine tri_region ?_
    refine o_move rfl rfl ?_
    refine o_move rfl rfl ?_
    refine o_nilCheck rfl rfl ?_
    refine o_field fo55_4 rfl rfl ?_
    refine o_field fo47_2 rfl rfl ?_
    refine o_load agg3 (by first | exact Nth.z | exact .s .z | exact .s (.s .z) | exact .s (.s (.s .z)) | exact .s (.s (.s (.s .z))) | exact .s (.s (.s (.s (.s .z)))) | exact .s (.s (.s (.s (.s (.s .z))))) | exact .s (.s (.s (.s (.s (.s (.s .z))))))) rfl rfl rfl ?_
    refine o_add rfl rfl rfl ?_
    refine o_nilCheck rfl rfl ?_
    refine o_field fo55_4 rfl rfl ?_
    refine o_field fo47_2 rfl rfl ?_
    refine o_store sz3 (by first | exact Nth.z | exact .s .z | exact .s (.s .z) | exact .s (.s (.s .z)) | exact .s (.s (.s (.s .z))) | exact .s (.s (.s (.s (.s .z)))) | exact .s (.s (.s (.s (.s (.s .z))))) | exact .s (.s (.s (.s (.s (.s (.s .z))))))) rfl rfl rfl rfl rfl (Nat.le_of_ble_eq_true rfl) rfl ?_
    refine triL_nil ?_
    refine thenQ_normal ?_
    refine tri_seq ?_
    refine tri_seq ?_
    refine tri_slots [(0, _)] (.cons rfl (.nil _)) ?_
    refine tri_region ?_
    refine o_assign rfl rfl ?_
    refine triL_nil ?_
    refine thenQ_normal ?_
    refine tri_block ?_
    refine tri_loop (ι := Nat × List (List UInt8) × List (Option Addr × Nat)) (F := fun q => [(0, .pointer (some ⟨g, 0, none⟩)), (3, .int .i64 (q.1 : Int))]) (HH := fun q => (rkC g { m with kr := q.2.2 } { d1 with s := inc d1.s })) (Pu := fun q => q.1 ≤ m.cr.length ∧ okK q.2.2 q.2.1 m.pool ∧ q.2.1.length = d1.kept.length ∧ lay d1.kept d1.cache = lay q.2.1 (d1.cache.drop q.1)) (μ := fun q => m.cr.length - q.1) ((0, d1.kept, m.kr)) (.cons rfl (.cons rfl (.nil _))) (fun _ h => h) (⟨Nat.zero_le _, hok1.1, rfl, rfl⟩) (fun q hi => ?_)
    refine tri_seq ?_
    refine tri_seq ?_
    refine tri_region ?_
    refine o_move rfl rfl ?_
    refine o_move rfl rfl ?_
    refine o_nilCheck rfl rfl ?_
    refine o_field fo55_1 rfl rfl ?_
    refine o_load agg53 (by first | exact Nth.z | exact .s .z | exact .s (.s .z) | exact .s (.s (.s .z)) | exact .s (.s (.s (.s .z))) | exact .s (.s (.s (.s (.s .z)))) | exact .s (.s (.s (.s (.s (.s .z))))) | exact .s (.s (.s (.s (.s (.s (.s .z))))))) rfl rfl rfl ?_
    refine o_lenS Try.underlying53 rfl rfl ?_
    refine o_lss rfl rfl rfl ?_
    refine triL_nil ?_
    refine thenQ_normal ?_
    refine tri_if rfl (fun h2 => ?_) (fun h2 => ?_)
    · skip
      have h2' : q.1 < m.cr.length := by simp only at h2; omega
      have hoc := hok1.2.2 q.1 (by omega)
      have hgc := (getD_cache hg1 (i := q.1) (by omega)).1
      have hkl := hi.2.1.1
      refine tri_skip ?_
      refine thenQ_normal ?_
      refine tri_seq ?_
      refine tri_block ?_
      refine tri_slots [(0, _), (3, _)] (.cons rfl (.cons rfl (.nil _))) ?_
      refine tri_mix (_) [(0, true), (1, true), (2, true), (3, true), (4, true), (5, true), (6, true), (7, true), (8, true), (9, true), (10, true), (11, true), (12, true), (13, true), (14, true), (15, true), (16, true), (17, true), (18, true), (19, true), (20, false), (21, false)] [20, 21] (by kernel_rfl) (by kernel_rfl) (fun _ h => h) ?_
      refine mix_fix rfl ?_
      refine o_move rfl rfl ?_
      refine triL_nil ⟨rfl, ?_⟩
      refine mix_fix rfl ?_
      refine o_nilCheck rfl rfl ?_
      refine triL_nil ⟨rfl, ?_⟩
      refine mix_fix rfl ?_
      refine o_field fo55_0 rfl rfl ?_
      refine triL_nil ⟨rfl, ?_⟩
      refine mix_fix rfl ?_
      refine o_load agg30 (by first | exact Nth.z | exact .s .z | exact .s (.s .z) | exact .s (.s (.s .z)) | exact .s (.s (.s (.s .z))) | exact .s (.s (.s (.s (.s .z)))) | exact .s (.s (.s (.s (.s (.s .z))))) | exact .s (.s (.s (.s (.s (.s (.s .z))))))) rfl rfl rfl ?_
      refine triL_nil ⟨rfl, ?_⟩
      refine mix_fix rfl ?_
      refine o_move rfl rfl ?_
      refine triL_nil ⟨rfl, ?_⟩
      refine mix_fix rfl ?_
      refine o_nilCheck rfl rfl ?_
      refine triL_nil ⟨rfl, ?_⟩
      refine mix_fix rfl ?_
      refine o_field fo55_1 rfl rfl ?_
      refine triL_nil ⟨rfl, ?_⟩
      refine mix_fix rfl ?_
      refine o_load agg53 (by first | exact Nth.z | exact .s .z | exact .s (.s .z) | exact .s (.s (.s .z)) | exact .s (.s (.s (.s .z))) | exact .s (.s (.s (.s (.s .z)))) | exact .s (.s (.s (.s (.s (.s .z))))) | exact .s (.s (.s (.s (.s (.s (.s .z))))))) rfl rfl rfl ?_
      refine triL_nil ⟨rfl, ?_⟩
      refine mix_fix rfl ?_
      refine o_move rfl rfl ?_
      refine triL_nil ⟨rfl, ?_⟩
      refine mix_fix rfl ?_
      refine o_idxS Try.underlying53 sz72 rfl rfl rfl (RdS.row (i := 2) (.s (.s .z))) (by first | omega | (simp only; omega)) (by first | omega | (simp only; omega)) (crefs_length _) (by decide) ?_
      refine triL_nil ⟨rfl, ?_⟩
      refine mix_fix rfl ?_
      refine o_fieldAt fo72_0 rfl rfl (RdS.row (i := 2) (.s (.s .z))) (crefs_at m.cr q.1 (by omega)) ?_
      refine triL_nil ⟨rfl, ?_⟩
      refine mix_fix rfl ?_
      refine o_loadR agg3 rfl rfl (RdS.row (i := 2) (.s (.s .z))) (crefs_at m.cr q.1 (by omega)) ?_
      refine triL_nil ⟨rfl, ?_⟩
      refine mix_fix rfl ?_
      refine o_move rfl rfl ?_
      refine triL_nil ⟨rfl, ?_⟩
      refine mix_fix rfl ?_
      refine o_nilCheck rfl rfl ?_
      refine triL_nil ⟨rfl, ?_⟩
      refine mix_fix rfl ?_
      refine o_field fo55_1 rfl rfl ?_
      refine triL_nil ⟨rfl, ?_⟩
      refine mix_fix rfl ?_
      refine o_load agg53 (by first | exact Nth.z | exact .s .z | exact .s (.s .z) | exact .s (.s (.s .z)) | exact .s (.s (.s (.s .z))) | exact .s (.s (.s (.s (.s .z)))) | exact .s (.s (.s (.s (.s (.s .z))))) | exact .s (.s (.s (.s (.s (.s (.s .z))))))) rfl rfl rfl ?_
      refine triL_nil ⟨rfl, ?_⟩
      refine mix_fix rfl ?_
      refine o_move rfl rfl ?_
      refine triL_nil ⟨rfl, ?_⟩
      refine mix_fix rfl ?_
      refine o_idxS Try.underlying53 sz72 rfl rfl rfl (RdS.row (i := 2) (.s (.s .z))) (by first | omega | (simp only; omega)) (by first | omega | (simp only; omega)) (crefs_length _) (by decide) ?_
      refine triL_nil ⟨rfl, ?_⟩
      refine mix_fix rfl ?_
      refine o_fieldAt fo72_1 rfl rfl (RdS.row (i := 2) (.s (.s .z))) (crefs_at m.cr q.1 (by omega)) ?_
      refine triL_nil ⟨rfl, ?_⟩
      refine mix_fix rfl ?_
      refine o_loadR agg32 rfl rfl (RdS.row (i := 2) (.s (.s .z))) (crefs_to m.cr q.1 (by omega)) ?_
      refine triL_nil ⟨rfl, ?_⟩
      refine mix_rest [20, 21] [_, _] rfl rfl ?_
      refine o_idxS Try.underlying30 sz32 rfl rfl rfl (RdS.row (i := 1) (.s .z)) (by omega) (by show _ < (q.2.2.length : Int); omega) (refs_length _) (by decide) ?_
      refine o_storeR sz32 (.s .z) rfl rfl rfl rfl (by rw [refs_length]; show _ < q.2.2.length * 1; omega) rfl ?_
      refine triL_nil ⟨rfl, ?_⟩
      refine blockQ_normal ?_
      refine thenQ_normal ?_
      refine tri_slots [(0, _), (3, _)] (.cons rfl (.cons rfl (.nil _))) ?_
      refine tri_region ?_
      refine o_move rfl rfl ?_
      refine o_addN rfl rfl rfl (by first | omega | (simp only; omega)) ?_
      refine o_assign rfl rfl ?_
      refine triL_nil ?_
      refine thenQ_normal ?_
      exact ⟨(q.1 + 1, q.2.1.set (m.cr.getD q.1 qd).1 (d1.cache.getD q.1 (0, [])).2, q.2.2.set (m.cr.getD q.1 qd).1 ((m.cr.getD q.1 qd).2.1, (m.cr.getD q.1 qd).2.2)), (.cons rfl (.cons rfl (.nil _))), (fun w1 hw1 => by
  have e2 := rk_set (g := g) (m := { m with kr := q.2.2 }) (d := { d1 with s := inc d1.s }) (m.cr.getD q.1 qd).1 (m.cr.getD q.1 qd).2.1 (m.cr.getD q.1 qd).2.2 (by simp only; omega)
  simp only at e2 ⊢
  rw [e2]
  exact hw1), ⟨by simp only; omega, okK_set hi.2.1 (by omega) hoc.2, by simp only [List.length_set]; exact hi.2.2.1, by rw [hi.2.2.2, lay_drop q.2.1 (by omega), hoc.1]⟩, (by simp only; omega)⟩
    · skip
      have h2' : m.cr.length ≤ q.1 := by simp only at h2; omega
      refine tri_exit ?_
      refine thenQ_exit ?_
      refine thenQ_exit ?_
      refine blockQ_here ?_
      refine thenQ_normal ?_
      refine tri_seq ?_
      refine tri_slots [(0, _)] (.cons rfl (.nil _)) ?_
      refine tri_region ?_
      refine o_move rfl rfl ?_
      refine o_nilCheck rfl rfl ?_
      refine o_field fo55_1 rfl rfl ?_
      refine o_store sz53 (by first | exact Nth.z | exact .s .z | exact .s (.s .z) | exact .s (.s (.s .z)) | exact .s (.s (.s (.s .z))) | exact .s (.s (.s (.s (.s .z)))) | exact .s (.s (.s (.s (.s (.s .z))))) | exact .s (.s (.s (.s (.s (.s (.s .z))))))) rfl rfl rfl rfl rfl (Nat.le_of_ble_eq_true rfl) rfl ?_
      refine triL_nil ?_
      refine thenQ_normal ?_
      refine tri_seq ?_
      refine tri_slots [] (.nil _) ?_
      refine tri_region ?_
      refine o_assign rfl rfl ?_
      refine triL_nil ?_
      refine thenQ_normal ?_
      refine tri_ret ?_
      refine end1 rfl rfl ?_
      have hq : q.1 = d1.cache.length := by omega
      have hx := hi.2.2.2
      rw [hq, lay_end, k1, k2] at hx
      have e : d.sync = (0, { d1 with s := inc d1.s, kept := q.2.1, cache := [] }) := by rw [Dk.sync, hd1, hx]; simp [h1, k5]
      exact fin_turn { m with Ac := none, cc := 0, kr := q.2.2, cr := [] } (by rw [e]) (by rw [e]; exact ⟨hi.2.1, okC_nil _⟩) (fun w1 hw => by rw [e]; exact hw.toNil (.s (.s .z)))

theorem cutR (g : Nat) (m : Rk) (d : Dk) (A : Option Addr) (n c : Nat) (keep : List Bool) (w : World) (hs : Sat ⟨Try.prog, 54, [], w, rkF g m⟩ (rkC g m d) w) (hok : m.ok d) (hg : d.good) (hm : d.cache.length ≤ 100000) (hkp : Keeps w (rkF g m) A (boolsV keep)) (hn : keep.length = n) : Calls Try.prog 35 #[.pointer (some ⟨g, 0, none⟩), .slice A n c] w (Turn w (rkF g m) (fun _ : Rk => .tuple #[]) (fun j => rkC g j (d.cut keep)) (fun j => j.ok (d.cut keep))) := by
  refine calls_tri (args := [.pointer (some ⟨g, 0, none⟩), .slice A n c]) (lent := rkF g m) (H := rkC g m d) Try.func35 rfl Try.ntmps35 rfl hs ?_
  refine (show Tri _ [(0, _), (1, _)] _ _ _ from ?_)
  have hl1 := hok.1.1
  have hl2 := hok.2.1
  have hg3 := hg.2.2
  have hR : ∀ cx H, cx.w0 = w → cx.lent = rkF g m → RdS cx H A (boolsV keep) := fun cx H h1 h2 => Keeps.rdS (by rw [h1, h2]; exact hkp)
  refine tri_seq ?_
  refine tri_seq ?_
  refine tri_region ?_
  refine o_assign rfl rfl ?_
  refine triL_nil ?_
  refine thenQ_normal ?_
  refine tri_block ?_
  refine tri_loop (ι := Nat × List (List UInt8) × List (Option Addr × Nat)) (F := fun q => [(0, .pointer (some ⟨g, 0, none⟩)), (1, .slice A n c), (4, .int .i64 (q.1 : Int))]) (HH := fun q => (rkC g { m with kr := q.2.2 } d)) (Pu := fun q => q.1 ≤ m.cr.length ∧ okK q.2.2 q.2.1 m.pool ∧ q.2.1.length = d.kept.length ∧ layK d.kept d.cache keep = layK q.2.1 (d.cache.drop q.1) (keep.drop q.1)) (μ := fun q => m.cr.length - q.1) ((0, d.kept, m.kr)) (.cons rfl (.cons rfl (.cons rfl (.nil _)))) (fun _ h => h) (⟨Nat.zero_le _, hok.1, rfl, rfl⟩) (fun q hi => ?_)
  refine tri_seq ?_
  refine tri_seq ?_
  refine tri_region ?_
  refine o_move rfl rfl ?_
  refine o_move rfl rfl ?_
  refine o_nilCheck rfl rfl ?_
  refine o_field fo55_1 rfl rfl ?_
  refine o_load agg53 (by first | exact Nth.z | exact .s .z | exact .s (.s .z) | exact .s (.s (.s .z)) | exact .s (.s (.s (.s .z))) | exact .s (.s (.s (.s (.s .z)))) | exact .s (.s (.s (.s (.s (.s .z))))) | exact .s (.s (.s (.s (.s (.s (.s .z))))))) rfl rfl rfl ?_
  refine o_lenS Try.underlying53 rfl rfl ?_
  refine o_lss rfl rfl rfl ?_
  refine triL_nil ?_
  refine thenQ_normal ?_
  refine tri_if rfl (fun h2 => ?_) (fun h2 => ?_)
  · skip
    have h2' : q.1 < m.cr.length := by simp only at h2; omega
    have hoc := hok.2.2 q.1 (by omega)
    have hgc := (getD_cache hg (i := q.1) (by omega)).1
    have hkl := hi.2.1.1
    refine tri_skip ?_
    refine thenQ_normal ?_
    refine tri_seq ?_
    refine tri_block ?_
    refine tri_seq ?_
    refine tri_slots [(0, _), (1, _), (4, _)] (.cons rfl (.cons rfl (.cons rfl (.nil _)))) ?_
    refine tri_region ?_
    refine o_move rfl rfl ?_
    refine o_move rfl rfl ?_
    refine o_lenS Try.underlying23 rfl rfl ?_
    refine o_lss rfl rfl rfl ?_
    refine o_move rfl rfl ?_
    refine' triL_and [_, _, _, _] [(0, _), (1, _), (4, _)] (dj := 18) (dr := 22) rfl rfl (fun g1 => ?_) ⟨_, rfl, rfl, rfl, (.cons rfl (.cons rfl (.cons rfl (.nil _))))⟩ rfl ?_
    rotate_left
    · skip
      have g1 := of_decide_eq_true g1
      refine o_move rfl rfl ?_
      refine o_move rfl rfl ?_
      refine o_idxS Try.underlying23 sz4 rfl rfl rfl (hR _ _ rfl rfl) (by first | omega | (simp only; omega)) (by first | omega | (simp only; omega)) (by rw [boolsV_length]; omega) (by decide) ?_
      refine o_loadR agg4 rfl rfl (hR _ _ rfl rfl) (boolsV_get keep q.1 (by omega)) ?_
      exact triL_nil (Piece.mk rfl rfl (.cons rfl (.cons rfl (.cons rfl (.nil _)))) (fun _ h => h))
    refine triL_nil ?_
    refine thenQ_normal ?_
    refine tri_cond rfl (fun h3 => ?_) (fun h3 => ?_)
    · skip
      have h3 : keep.getD q.1 false = true := by simp only [Bool.and_eq_true] at h3; exact h3.2
      refine tri_mix (_) [(0, true), (1, true), (2, true), (3, true), (4, true), (5, true), (6, true), (7, true), (8, true), (9, true), (10, true), (11, true), (12, true), (13, true), (14, true), (15, true), (16, true), (17, true), (18, true), (19, true), (20, false), (21, false)] [20, 21] (by kernel_rfl) (by kernel_rfl) (fun _ h => h) ?_
      refine mix_fix rfl ?_
      refine o_move rfl rfl ?_
      refine triL_nil ⟨rfl, ?_⟩
      refine mix_fix rfl ?_
      refine o_nilCheck rfl rfl ?_
      refine triL_nil ⟨rfl, ?_⟩
      refine mix_fix rfl ?_
      refine o_field fo55_0 rfl rfl ?_
      refine triL_nil ⟨rfl, ?_⟩
      refine mix_fix rfl ?_
      refine o_load agg30 (by first | exact Nth.z | exact .s .z | exact .s (.s .z) | exact .s (.s (.s .z)) | exact .s (.s (.s (.s .z))) | exact .s (.s (.s (.s (.s .z)))) | exact .s (.s (.s (.s (.s (.s .z))))) | exact .s (.s (.s (.s (.s (.s (.s .z))))))) rfl rfl rfl ?_
      refine triL_nil ⟨rfl, ?_⟩
      refine mix_fix rfl ?_
      refine o_move rfl rfl ?_
      refine triL_nil ⟨rfl, ?_⟩
      refine mix_fix rfl ?_
      refine o_nilCheck rfl rfl ?_
      refine triL_nil ⟨rfl, ?_⟩
      refine mix_fix rfl ?_
      refine o_field fo55_1 rfl rfl ?_
      refine triL_nil ⟨rfl, ?_⟩
      refine mix_fix rfl ?_
      refine o_load agg53 (by first | exact Nth.z | exact .s .z | exact .s (.s .z) | exact .s (.s (.s .z)) | exact .s (.s (.s (.s .z))) | exact .s (.s (.s (.s (.s .z)))) | exact .s (.s (.s (.s (.s (.s .z))))) | exact .s (.s (.s (.s (.s (.s (.s .z))))))) rfl rfl rfl ?_
      refine triL_nil ⟨rfl, ?_⟩
      refine mix_fix rfl ?_
      refine o_move rfl rfl ?_
      refine triL_nil ⟨rfl, ?_⟩
      refine mix_fix rfl ?_
      refine o_idxS Try.underlying53 sz72 rfl rfl rfl (RdS.row (i := 2) (.s (.s .z))) (by first | omega | (simp only; omega)) (by first | omega | (simp only; omega)) (crefs_length _) (by decide) ?_
      refine triL_nil ⟨rfl, ?_⟩
      refine mix_fix rfl ?_
      refine o_fieldAt fo72_0 rfl rfl (RdS.row (i := 2) (.s (.s .z))) (crefs_at m.cr q.1 (by omega)) ?_
      refine triL_nil ⟨rfl, ?_⟩
      refine mix_fix rfl ?_
      refine o_loadR agg3 rfl rfl (RdS.row (i := 2) (.s (.s .z))) (crefs_at m.cr q.1 (by omega)) ?_
      refine triL_nil ⟨rfl, ?_⟩
      refine mix_fix rfl ?_
      refine o_move rfl rfl ?_
      refine triL_nil ⟨rfl, ?_⟩
      refine mix_fix rfl ?_
      refine o_nilCheck rfl rfl ?_
      refine triL_nil ⟨rfl, ?_⟩
      refine mix_fix rfl ?_
      refine o_field fo55_1 rfl rfl ?_
      refine triL_nil ⟨rfl, ?_⟩
      refine mix_fix rfl ?_
      refine o_load agg53 (by first | exact Nth.z | exact .s .z | exact .s (.s .z) | exact .s (.s (.s .z)) | exact .s (.s (.s (.s .z))) | exact .s (.s (.s (.s (.s .z)))) | exact .s (.s (.s (.s (.s (.s .z))))) | exact .s (.s (.s (.s (.s (.s (.s .z))))))) rfl rfl rfl ?_
      refine triL_nil ⟨rfl, ?_⟩
      refine mix_fix rfl ?_
      refine o_move rfl rfl ?_
      refine triL_nil ⟨rfl, ?_⟩
      refine mix_fix rfl ?_
      refine o_idxS Try.underlying53 sz72 rfl rfl rfl (RdS.row (i := 2) (.s (.s .z))) (by first | omega | (simp only; omega)) (by first | omega | (simp only; omega)) (crefs_length _) (by decide) ?_
      refine triL_nil ⟨rfl, ?_⟩
      refine mix_fix rfl ?_
      refine o_fieldAt fo72_1 rfl rfl (RdS.row (i := 2) (.s (.s .z))) (crefs_at m.cr q.1 (by omega)) ?_
      refine triL_nil ⟨rfl, ?_⟩
      refine mix_fix rfl ?_
      refine o_loadR agg32 rfl rfl (RdS.row (i := 2) (.s (.s .z))) (crefs_to m.cr q.1 (by omega)) ?_
      refine triL_nil ⟨rfl, ?_⟩
      refine mix_rest [20, 21] [_, _] rfl rfl ?_
      refine o_idxS Try.underlying30 sz32 rfl rfl rfl (RdS.row (i := 1) (.s .z)) (by omega) (by show _ < (q.2.2.length : Int); omega) (refs_length _) (by decide) ?_
      refine o_storeR sz32 (.s .z) rfl rfl rfl rfl (by rw [refs_length]; show _ < q.2.2.length * 1; omega) rfl ?_
      refine triL_nil ⟨rfl, ?_⟩
      refine blockQ_normal ?_
      refine thenQ_normal ?_
      refine tri_slots [(0, _), (1, _), (4, _)] (.cons rfl (.cons rfl (.cons rfl (.nil _)))) ?_
      refine tri_region ?_
      refine o_move rfl rfl ?_
      refine o_addN rfl rfl rfl (by first | omega | (simp only; omega)) ?_
      refine o_assign rfl rfl ?_
      refine triL_nil ?_
      refine thenQ_normal ?_
      exact ⟨(q.1 + 1, q.2.1.set (m.cr.getD q.1 qd).1 (d.cache.getD q.1 (0, [])).2, q.2.2.set (m.cr.getD q.1 qd).1 ((m.cr.getD q.1 qd).2.1, (m.cr.getD q.1 qd).2.2)), (.cons rfl (.cons rfl (.cons rfl (.nil _)))), (fun w1 hw1 => by
  have e2 := rk_set (g := g) (m := { m with kr := q.2.2 }) (d := d) (m.cr.getD q.1 qd).1 (m.cr.getD q.1 qd).2.1 (m.cr.getD q.1 qd).2.2 (by simp only; omega)
  simp only at e2 ⊢
  rw [e2]
  exact hw1), ⟨by simp only; omega, okK_set hi.2.1 (by omega) hoc.2, by simp only [List.length_set]; exact hi.2.2.1, by rw [hi.2.2.2, layK_drop q.2.1 keep (by omega), if_pos h3, hoc.1]⟩, (by simp only; omega)⟩
    · skip
      have h3 : keep.getD q.1 false = false := by
        simp only [Bool.and_eq_false_iff, decide_eq_false_iff_not] at h3
        rcases h3 with h3 | h3
        · simp [List.getD, List.getElem?_eq_none (show keep.length ≤ q.1 by omega)]
        · exact h3
      refine tri_skip ?_
      refine blockQ_normal ?_
      refine thenQ_normal ?_
      refine tri_region ?_
      refine o_move rfl rfl ?_
      refine o_addN rfl rfl rfl (by first | omega | (simp only; omega)) ?_
      refine o_assign rfl rfl ?_
      refine triL_nil ?_
      refine thenQ_normal ?_
      exact ⟨(q.1 + 1, q.2), (.cons rfl (.cons rfl (.cons rfl (.nil _)))), fun _ h => h, ⟨by simp only; omega, hi.2.1, hi.2.2.1, by rw [hi.2.2.2, layK_drop q.2.1 keep (by omega), if_neg (by rw [h3]; simp)]⟩, (by simp only; omega)⟩
  · skip
    have h2' : m.cr.length ≤ q.1 := by simp only at h2; omega
    refine tri_exit ?_
    refine thenQ_exit ?_
    refine thenQ_exit ?_
    refine blockQ_here ?_
    refine thenQ_normal ?_
    refine tri_seq ?_
    refine tri_slots [(0, _)] (.cons rfl (.nil _)) ?_
    refine tri_region ?_
    refine o_move rfl rfl ?_
    refine o_nilCheck rfl rfl ?_
    refine o_field fo55_1 rfl rfl ?_
    refine o_store sz53 (by first | exact Nth.z | exact .s .z | exact .s (.s .z) | exact .s (.s (.s .z)) | exact .s (.s (.s (.s .z))) | exact .s (.s (.s (.s (.s .z)))) | exact .s (.s (.s (.s (.s (.s .z))))) | exact .s (.s (.s (.s (.s (.s (.s .z))))))) rfl rfl rfl rfl rfl (Nat.le_of_ble_eq_true rfl) rfl ?_
    refine triL_nil ?_
    refine thenQ_normal ?_
    refine tri_region ?_
    refine o_move rfl rfl ?_
    refine o_move rfl rfl ?_
    refine o_nilCheck rfl rfl ?_
    refine o_field fo55_3 rfl rfl ?_
    refine o_store sz4 (by first | exact Nth.z | exact .s .z | exact .s (.s .z) | exact .s (.s (.s .z)) | exact .s (.s (.s (.s .z))) | exact .s (.s (.s (.s (.s .z)))) | exact .s (.s (.s (.s (.s (.s .z))))) | exact .s (.s (.s (.s (.s (.s (.s .z))))))) rfl rfl rfl rfl rfl (Nat.le_of_ble_eq_true rfl) rfl ?_
    refine o_nilCheck rfl rfl ?_
    refine o_field fo55_2 rfl rfl ?_
    refine o_store sz3 (by first | exact Nth.z | exact .s .z | exact .s (.s .z) | exact .s (.s (.s .z)) | exact .s (.s (.s (.s .z))) | exact .s (.s (.s (.s (.s .z)))) | exact .s (.s (.s (.s (.s (.s .z))))) | exact .s (.s (.s (.s (.s (.s (.s .z))))))) rfl rfl rfl rfl rfl (Nat.le_of_ble_eq_true rfl) rfl ?_
    refine triL_nil ?_
    refine end0n rfl ?_
    have hq : q.1 = d.cache.length := by omega
    have hx := hi.2.2.2
    rw [hq, layK_end] at hx
    have e : d.cut keep = { d with kept := q.2.1, cache := [], dark := false, trip := -1 } := by rw [Dk.cut, hx]
    exact fin_turn { m with Ac := none, cc := 0, kr := q.2.2, cr := [] } rfl (by rw [e]; exact ⟨hi.2.1, okC_nil _⟩) (fun w1 hw => by rw [e]; exact hw.toNil (.s (.s .z)))

theorem imageR (g : Nat) (m : Rk) (d : Dk) (w : World) (hs : Sat ⟨Try.prog, 24, [], w, rkF g m⟩ (rkC g m d) w) (hok : m.ok d) (hg : d.good) (hm : d.cache.length ≤ 100000) : Calls Try.prog 26 #[.pointer (some ⟨g, 0, none⟩)] w (Turn w (rkF g m) (fun j : Option Addr × Nat => .slice j.1 d.image.length j.2) (fun j => row (.slice j.1 d.image.length j.2) 5 1 d.image.length (bytesV d.image) :: rkC g m d) (fun _ => True)) := by
  refine calls_tri (args := [.pointer (some ⟨g, 0, none⟩)]) (lent := rkF g m) (H := rkC g m d) Try.func26 rfl Try.ntmps26 rfl hs ?_
  refine (show Tri _ [(0, _)] _ _ _ from ?_)
  have hl1 := hok.1.1
  have hl2 := hok.2.1
  have hg3 := hg.2.2
  refine tri_seq ?_
  refine tri_region ?_
  refine o_assign rfl rfl ?_
  refine triL_nil ?_
  refine thenQ_normal ?_
  refine tri_seq ?_
  refine tri_region ?_
  refine o_assign rfl rfl ?_
  refine triL_nil ?_
  refine thenQ_normal ?_
  refine tri_seq ?_
  refine tri_seq ?_
  refine tri_region ?_
  refine o_assign rfl rfl ?_
  refine triL_nil ?_
  refine thenQ_normal ?_
  refine tri_block ?_
  refine tri_loop (ι := Nat × Option Addr × Nat) (F := fun q => [(0, .pointer (some ⟨g, 0, none⟩)), (3, .slice q.2.1 (q.1 * 512) q.2.2), (4, .int .i64 (q.1 : Int))]) (HH := fun q => (row (.slice q.2.1 (q.1 * 512) q.2.2) 5 1 (q.1 * 512) (bytesV (d.kept.take q.1).flatten) :: rkC g m d)) (Pu := fun q => q.1 ≤ d.kept.length) (μ := fun q => d.kept.length - q.1) ((0, none, 0)) (.cons rfl (.cons rfl (.cons rfl (.nil _)))) (fun _ h => h.nilRow _ _) (Nat.zero_le _) (fun q hi => ?_)
  refine tri_seq ?_
  refine tri_seq ?_
  refine tri_region ?_
  refine o_move rfl rfl ?_
  refine o_move rfl rfl ?_
  refine o_nilCheck rfl rfl ?_
  refine o_field fo55_0 rfl rfl ?_
  refine o_load agg30 (by first | exact Nth.z | exact .s .z | exact .s (.s .z) | exact .s (.s (.s .z)) | exact .s (.s (.s (.s .z))) | exact .s (.s (.s (.s (.s .z)))) | exact .s (.s (.s (.s (.s (.s .z))))) | exact .s (.s (.s (.s (.s (.s (.s .z))))))) rfl rfl rfl ?_
  refine o_lenS Try.underlying30 rfl rfl ?_
  refine o_lss rfl rfl rfl ?_
  refine triL_nil ?_
  refine thenQ_normal ?_
  refine tri_if rfl (fun h0 => ?_) (fun h0 => ?_)
  · skip
    refine tri_skip ?_
    refine thenQ_normal ?_
    refine tri_seq ?_
    refine tri_block ?_
    refine tri_slots [(0, _), (3, _), (4, _)] (.cons rfl (.cons rfl (.cons rfl (.nil _)))) ?_
    refine tri_region ?_
    refine o_move rfl rfl ?_
    refine o_move rfl rfl ?_
    refine o_nilCheck rfl rfl ?_
    refine o_field fo55_0 rfl rfl ?_
    refine o_load agg30 (by first | exact Nth.z | exact .s .z | exact .s (.s .z) | exact .s (.s (.s .z)) | exact .s (.s (.s (.s .z))) | exact .s (.s (.s (.s (.s .z)))) | exact .s (.s (.s (.s (.s (.s .z))))) | exact .s (.s (.s (.s (.s (.s (.s .z))))))) rfl rfl rfl ?_
    refine o_move rfl rfl ?_
    refine o_idxS Try.underlying30 sz32 rfl rfl rfl (RdS.row (i := 2) (.s (.s .z))) (by first | omega | (simp only; omega)) (by first | omega | (simp only; omega)) (refs_length _) (by decide) ?_
    refine o_loadR agg32 rfl rfl (RdS.row (i := 2) (.s (.s .z))) (refs_get m.kr q.1 (by omega)) ?_
    refine o_append Try.underlying32 zsb5 rfl (by decide) (by first | exact Nth.z | exact .s .z | exact .s (.s .z) | exact .s (.s (.s .z)) | exact .s (.s (.s (.s .z))) | exact .s (.s (.s (.s (.s .z)))) | exact .s (.s (.s (.s (.s (.s .z))))) | exact .s (.s (.s (.s (.s (.s (.s .z))))))) rfl rfl rfl (news := bytesV (d.kept.getD q.1 [])) (RdS.pool (i := 4) (.s (.s (.s (.s .z)))) (hok.1.2 q.1 (by omega))) (by rw [bytesV_length, getD_kept hg.1 (by omega)]) (bytesV_one _) (by unfold maxLen; omega) (by first | omega | (simp only; omega)) (fun A22 c22 => ?_)
    refine o_assign rfl rfl ?_
    refine triL_nil ?_
    refine blockQ_normal ?_
    refine thenQ_normal ?_
    refine tri_slots [(3, _), (0, _), (4, _)] (.cons rfl (.cons rfl (.cons rfl (.nil _)))) ?_
    refine tri_region ?_
    refine o_move rfl rfl ?_
    refine o_addN rfl rfl rfl (by first | omega | (simp only; omega)) ?_
    refine o_assign rfl rfl ?_
    refine triL_nil ?_
    refine thenQ_normal ?_
    exact ⟨(q.1 + 1, A22, c22), (.cons rfl (.cons (congrArg (fun k : Nat => some (Value.slice A22 k c22)) (by simp only; omega)) (.cons rfl (.nil _)))), (fun w1 hw1 => by simp only [flat_snoc d.kept q.1 (by omega), bytesV_append]; rw [show (q.1 + 1) * 512 = q.1 * 512 + 512 by omega]; exact hw1), by simp only; omega, (by simp only; omega)⟩
  · skip
    refine tri_exit ?_
    refine thenQ_exit ?_
    refine thenQ_exit ?_
    refine blockQ_here ?_
    refine thenQ_normal ?_
    refine tri_seq ?_
    refine tri_slots [(3, _)] (.cons rfl (.nil _)) ?_
    refine tri_region ?_
    refine o_move rfl rfl ?_
    refine o_assign rfl rfl ?_
    refine triL_nil ?_
    refine thenQ_normal ?_
    refine tri_ret ?_
    refine end1 rfl rfl ?_
    have e1 : q.1 = d.kept.length := by omega
    have e2 : (d.kept.take q.1).flatten = d.image := by rw [e1, List.take_length]; rfl
    have e3 : q.1 * 512 = d.image.length := by rw [d.image_len hg, e1]
    rw [e2, e3]
    exact fin_turn (q.2.1, q.2.2) rfl trivial (fun w1 hw => hw)

end Go.Proofs.Ytpnccaddbjbfhaa
