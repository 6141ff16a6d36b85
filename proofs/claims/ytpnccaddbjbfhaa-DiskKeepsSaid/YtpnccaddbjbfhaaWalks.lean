/- the disk's functions, walked -/
import Derived.Test.YtpnccaddbjbfhaaProg
import Derived.Test.YtpnccaddbjbfhaaDisk2
import Derived.KernelRfl
namespace Go.Proofs.Ytpnccaddbjbfhaa
open Go.WK Go.RowKit 

theorem zs68 : (Try.prog.info? 68).map (fun i => (i.zero, i.size)) = some (some ((.agg (looseV (0, List.replicate 512 0)).toArray)), 513) := by kernel_rfl
theorem zone68 : ∀ u ∈ (Value.cells ((.agg (looseV (0, List.replicate 512 0)).toArray))).toList, u.oneCell' = true := allOne_spec (by kernel_rfl)
theorem fo63_0 : fieldB Try.prog 63 0 = some 0 := by kernel_rfl
theorem agg60 : aggB Try.prog 60 = some false := by kernel_rfl
theorem fo63_1 : fieldB Try.prog 63 1 = some 1 := by kernel_rfl
theorem agg61 : aggB Try.prog 61 = some false := by kernel_rfl
theorem fo63_3 : fieldB Try.prog 63 3 = some 3 := by kernel_rfl
theorem agg4 : aggB Try.prog 4 = some false := by kernel_rfl
theorem zero47 : (Try.prog.info? 47).map (·.zero) = some (some (.agg #[.int .i64 0, .int .i64 0, .int .i64 0])) := by kernel_rfl
theorem fo63_4 : fieldB Try.prog 63 4 = some 4 := by kernel_rfl
theorem agg47 : aggB Try.prog 47 = some true := by kernel_rfl
theorem sz47 : szB Try.prog 47 = some 3 := by kernel_rfl
theorem sz66 : szB Try.prog 66 = some 512 := by kernel_rfl
theorem sz5 : szB Try.prog 5 = some 1 := by kernel_rfl
theorem zsb5 : (Try.prog.info? 5).map (fun i => (i.zero, i.size, i.bytes)) = some (some (.int .u8 0), 1, 1) := by kernel_rfl
theorem fo63_2 : fieldB Try.prog 63 2 = some 2 := by kernel_rfl
theorem agg3 : aggB Try.prog 3 = some false := by kernel_rfl
theorem sz4 : szB Try.prog 4 = some 1 := by kernel_rfl
theorem sz3 : szB Try.prog 3 = some 1 := by kernel_rfl
theorem sz68 : szB Try.prog 68 = some 513 := by kernel_rfl
theorem sz61 : szB Try.prog 61 = some 1 := by kernel_rfl

theorem sectorsK (g : Nat) (Ak : Option Addr) (ck : Nat) (Ac : Option Addr) (cc : Nat) (d : Dk) (w : World) (hb : Rd w (some ⟨g, 0, none⟩) (dkV Ak ck Ac cc d)) : Calls Try.prog 20 #[.pointer (some ⟨g, 0, none⟩)] w (Pure w (.int .i64 (d.kept.length : Int))) := by
  refine calls_tri (args := [.pointer (some ⟨g, 0, none⟩)]) (lent := []) (H := []) Try.func20 rfl Try.ntmps20 rfl (Sat.start _ _ _ _) ?_
  refine (show Tri _ [(0, _)] _ _ _ from ?_)
  have hB : ∀ cx H, cx.w0 = w → cx.lent = [] → RdS cx H (some ⟨g, 0, none⟩) (dkV Ak ck Ac cc d) := fun cx H h1 h2 => RdS.arg (by rw [h1]; exact hb) h2
  refine tri_seq ?_
  refine tri_region ?_
  refine o_assign rfl rfl ?_
  refine triL_nil ?_
  refine thenQ_normal ?_
  refine tri_seq ?_
  refine tri_seq ?_
  refine tri_region ?_
  refine o_move rfl rfl ?_
  refine o_eqlNil Try.underlying24 rfl rfl rfl ?_
  refine triL_nil ?_
  refine thenQ_normal ?_
  refine tri_cond_false rfl ?_
  refine tri_skip ?_
  refine thenQ_normal ?_
  refine tri_seq ?_
  refine tri_region ?_
  refine o_move rfl rfl ?_
  refine o_nilCheck rfl rfl ?_
  refine o_field fo63_0 rfl rfl ?_
  refine o_loadP agg60 rfl rfl (hB _ _ rfl rfl) rfl ?_
  refine o_lenS Try.underlying60 rfl rfl ?_
  refine o_assign rfl rfl ?_
  refine triL_nil ?_
  refine thenQ_normal ?_
  refine tri_ret ?_
  refine end1 rfl rfl ?_
  exact fun w1 hw1 => ⟨rfl, hw1.chg⟩

theorem pendingK (g : Nat) (Ak : Option Addr) (ck : Nat) (Ac : Option Addr) (cc : Nat) (d : Dk) (w : World) (hb : Rd w (some ⟨g, 0, none⟩) (dkV Ak ck Ac cc d)) : Calls Try.prog 16 #[.pointer (some ⟨g, 0, none⟩)] w (Pure w (.int .i64 (d.cache.length : Int))) := by
  refine calls_tri (args := [.pointer (some ⟨g, 0, none⟩)]) (lent := []) (H := []) Try.func16 rfl Try.ntmps16 rfl (Sat.start _ _ _ _) ?_
  refine (show Tri _ [(0, _)] _ _ _ from ?_)
  have hB : ∀ cx H, cx.w0 = w → cx.lent = [] → RdS cx H (some ⟨g, 0, none⟩) (dkV Ak ck Ac cc d) := fun cx H h1 h2 => RdS.arg (by rw [h1]; exact hb) h2
  refine tri_seq ?_
  refine tri_region ?_
  refine o_assign rfl rfl ?_
  refine triL_nil ?_
  refine thenQ_normal ?_
  refine tri_seq ?_
  refine tri_seq ?_
  refine tri_region ?_
  refine o_move rfl rfl ?_
  refine o_eqlNil Try.underlying24 rfl rfl rfl ?_
  refine triL_nil ?_
  refine thenQ_normal ?_
  refine tri_cond_false rfl ?_
  refine tri_skip ?_
  refine thenQ_normal ?_
  refine tri_seq ?_
  refine tri_region ?_
  refine o_move rfl rfl ?_
  refine o_nilCheck rfl rfl ?_
  refine o_field fo63_1 rfl rfl ?_
  refine o_loadP agg61 rfl rfl (hB _ _ rfl rfl) rfl ?_
  refine o_lenS Try.underlying61 rfl rfl ?_
  refine o_assign rfl rfl ?_
  refine triL_nil ?_
  refine thenQ_normal ?_
  refine tri_ret ?_
  refine end1 rfl rfl ?_
  exact fun w1 hw1 => ⟨rfl, hw1.chg⟩

theorem darkK (g : Nat) (Ak : Option Addr) (ck : Nat) (Ac : Option Addr) (cc : Nat) (d : Dk) (w : World) (hb : Rd w (some ⟨g, 0, none⟩) (dkV Ak ck Ac cc d)) : Calls Try.prog 22 #[.pointer (some ⟨g, 0, none⟩)] w (Pure w (.bool d.dark)) := by
  refine calls_tri (args := [.pointer (some ⟨g, 0, none⟩)]) (lent := []) (H := []) Try.func22 rfl Try.ntmps22 rfl (Sat.start _ _ _ _) ?_
  refine (show Tri _ [(0, _)] _ _ _ from ?_)
  have hB : ∀ cx H, cx.w0 = w → cx.lent = [] → RdS cx H (some ⟨g, 0, none⟩) (dkV Ak ck Ac cc d) := fun cx H h1 h2 => RdS.arg (by rw [h1]; exact hb) h2
  refine tri_seq ?_
  refine tri_region ?_
  refine o_assign rfl rfl ?_
  refine triL_nil ?_
  refine thenQ_normal ?_
  refine tri_seq ?_
  refine tri_region ?_
  refine o_move rfl rfl ?_
  refine o_neqNil Try.underlying24 rfl rfl rfl ?_
  refine o_move rfl rfl ?_
  refine' triL_and [_, _, _, _] [(2, _)] (dj := 5) (dr := 9) rfl rfl (fun g1 => ?_) ⟨_, rfl, rfl, rfl, (.cons rfl (.nil _))⟩ rfl ?_
  rotate_left
  · skip
    skip
    refine o_move rfl rfl ?_
    refine o_nilCheck rfl rfl ?_
    refine o_field fo63_3 rfl rfl ?_
    refine o_loadP agg4 rfl rfl (hB _ _ rfl rfl) rfl ?_
    exact triL_nil (Piece.mk rfl rfl (.cons rfl (.nil _)) (fun _ h => h))
  refine o_assign rfl rfl ?_
  refine triL_nil ?_
  refine thenQ_normal ?_
  refine tri_ret ?_
  refine end1 rfl rfl ?_
  exact fun w1 hw1 => ⟨rfl, hw1.chg⟩

theorem countsK (g : Nat) (Ak : Option Addr) (ck : Nat) (Ac : Option Addr) (cc : Nat) (d : Dk) (w : World) (hb : Rd w (some ⟨g, 0, none⟩) (dkV Ak ck Ac cc d)) : Calls Try.prog 23 #[.pointer (some ⟨g, 0, none⟩)] w (Pure w (.agg #[.int .i64 d.r, .int .i64 d.w, .int .i64 d.s])) := by
  refine calls_tri (args := [.pointer (some ⟨g, 0, none⟩)]) (lent := []) (H := []) Try.func23 rfl Try.ntmps23 rfl (Sat.start _ _ _ _) ?_
  refine (show Tri _ [(0, _)] _ _ _ from ?_)
  have hB : ∀ cx H, cx.w0 = w → cx.lent = [] → RdS cx H (some ⟨g, 0, none⟩) (dkV Ak ck Ac cc d) := fun cx H h1 h2 => RdS.arg (by rw [h1]; exact hb) h2
  refine tri_seq ?_
  refine tri_region ?_
  refine o_alloc _ rfl zero47 rfl (fun b2 => ?_)
  refine triL_nil ?_
  refine thenQ_normal ?_
  refine tri_seq ?_
  refine tri_seq ?_
  refine tri_region ?_
  refine o_move rfl rfl ?_
  refine o_eqlNil Try.underlying24 rfl rfl rfl ?_
  refine triL_nil ?_
  refine thenQ_normal ?_
  refine tri_cond_false rfl ?_
  refine tri_skip ?_
  refine thenQ_normal ?_
  refine tri_seq ?_
  refine tri_region ?_
  refine o_move rfl rfl ?_
  refine o_nilCheck rfl rfl ?_
  refine o_field fo63_4 rfl rfl ?_
  refine o_loadPA agg47 sz47 rfl rfl (hB _ _ rfl rfl) rfl rfl (by decide) ?_
  refine o_store sz47 (by first | exact Nth.z | exact .s .z | exact .s (.s .z) | exact .s (.s (.s .z)) | exact .s (.s (.s (.s .z))) | exact .s (.s (.s (.s (.s .z)))) | exact .s (.s (.s (.s (.s (.s .z))))) | exact .s (.s (.s (.s (.s (.s (.s .z))))))) rfl rfl rfl rfl rfl (Nat.le_of_ble_eq_true rfl) rfl ?_
  refine triL_nil ?_
  refine thenQ_normal ?_
  refine tri_ret ?_
  refine endC1 rfl agg47 sz47 (by first | exact Nth.z | exact .s .z | exact .s (.s .z) | exact .s (.s (.s .z)) | exact .s (.s (.s (.s .z))) | exact .s (.s (.s (.s (.s .z)))) | exact .s (.s (.s (.s (.s (.s .z))))) | exact .s (.s (.s (.s (.s (.s (.s .z))))))) rfl rfl ?_
  exact fun w1 hw1 => ⟨rfl, hw1.chg⟩

theorem imageK (g : Nat) (Ak : Option Addr) (ck : Nat) (Ac : Option Addr) (cc : Nat) (d : Dk) (w : World) (hb : Rd w (some ⟨g, 0, none⟩) (dkV Ak ck Ac cc d)) (hk : Rd w Ak (secsV d.kept)) (hg : d.good) : Calls Try.prog 21 #[.pointer (some ⟨g, 0, none⟩)] w (NewRowF id w 5 1 d.image.length (bytesV d.image)) := by
  refine calls_tri (args := [.pointer (some ⟨g, 0, none⟩)]) (lent := []) (H := []) Try.func21 rfl Try.ntmps21 rfl (Sat.start _ _ _ _) ?_
  refine (show Tri _ [(0, _)] _ _ _ from ?_)
  have hB : ∀ cx H, cx.w0 = w → cx.lent = [] → RdS cx H (some ⟨g, 0, none⟩) (dkV Ak ck Ac cc d) := fun cx H h1 h2 => RdS.arg (by rw [h1]; exact hb) h2
  have hK : ∀ cx H, cx.w0 = w → cx.lent = [] → RdS cx H Ak (secsV d.kept) := fun cx H h1 h2 => RdS.arg (by rw [h1]; exact hk) h2
  have hg3 := hg.2.2
  refine tri_seq ?_
  refine tri_region ?_
  refine o_assign rfl rfl ?_
  refine triL_nil ?_
  refine thenQ_normal ?_
  refine tri_seq ?_
  refine tri_region ?_
  refine o_assign rfl rfl ?_
  refine triL_nil ?_
  refine thenQ_normal ?_
  refine tri_seq ?_
  refine tri_seq ?_
  refine tri_region ?_
  refine o_move rfl rfl ?_
  refine o_callP (first := []) (cap := []) rfl rfl rfl Try.call20 (fun w1 h1 => sectorsK g Ak ck Ac cc d w1 (h1.rd (hB _ _ rfl rfl))) ?_
  refine o_move rfl rfl ?_
  refine triL_nil ?_
  refine thenQ_normal ?_
  refine tri_block ?_
  refine tri_loop (ι := Nat × Option Addr × Nat) (F := fun q => [(0, .pointer (some ⟨g, 0, none⟩)), (3, .slice q.2.1 (q.1 * 512) q.2.2), (6, .int .i64 (d.kept.length : Int)), (7, .int .i64 (q.1 : Int))]) (HH := fun q => [row (.slice q.2.1 (q.1 * 512) q.2.2) 5 1 (q.1 * 512) (bytesV (d.kept.take q.1).flatten)]) (Pu := fun q => q.1 ≤ d.kept.length) (μ := fun q => d.kept.length - q.1) ((0, none, 0)) (.cons rfl (.cons rfl (.cons rfl (.cons rfl (.nil _))))) (fun _ h => h.nilRow _ _) (Nat.zero_le _) (fun q hi => ?_)
  refine tri_seq ?_
  refine tri_region ?_
  refine o_lss rfl rfl rfl ?_
  refine triL_nil ?_
  refine thenQ_normal ?_
  refine tri_seq ?_
  refine tri_if rfl (fun h0 => ?_) (fun h0 => ?_)
  · skip
    refine tri_skip ?_
    refine thenQ_normal ?_
    refine tri_seq ?_
    refine tri_block ?_
    refine tri_seq ?_
    refine tri_region ?_
    refine o_move rfl rfl ?_
    refine o_assign rfl rfl ?_
    refine triL_nil ?_
    refine thenQ_normal ?_
    refine tri_region ?_
    refine o_move rfl rfl ?_
    refine o_move rfl rfl ?_
    refine o_nilCheck rfl rfl ?_
    refine o_field fo63_0 rfl rfl ?_
    refine o_loadP agg60 rfl rfl (hB _ _ rfl rfl) rfl ?_
    refine o_move rfl rfl ?_
    refine o_idxS Try.underlying60 sz66 rfl rfl rfl (hK _ _ rfl rfl) (by omega) (by omega) (by rw [flatV_length hg.secs]) (by decide) ?_
    refine o_sliceArrR Try.underlying66 sz5 rfl rfl (hK _ _ rfl rfl) (by rw [flatV_length hg.secs]; omega) ?_
    refine o_append Try.underlying32 zsb5 rfl (by decide) (by first | exact Nth.z | exact .s .z | exact .s (.s .z) | exact .s (.s (.s .z)) | exact .s (.s (.s (.s .z))) | exact .s (.s (.s (.s (.s .z)))) | exact .s (.s (.s (.s (.s (.s .z))))) | exact .s (.s (.s (.s (.s (.s (.s .z))))))) rfl rfl rfl (news := bytesV (d.kept.getD q.1 [])) (rd_sec (i := q.1) (hK _ _ rfl rfl) hg.1 (by omega)) (by rw [bytesV_length, getD_kept hg.1 (by omega)]) (bytesV_one _) (by unfold maxLen; omega) (by omega) (fun A18 c18 => ?_)
    refine o_assign rfl rfl ?_
    refine triL_nil ?_
    refine blockQ_normal ?_
    refine thenQ_normal ?_
    refine tri_slots [(3, _), (0, _), (6, _), (7, _)] (.cons rfl (.cons rfl (.cons rfl (.cons rfl (.nil _))))) ?_
    refine tri_region ?_
    refine o_addN rfl rfl rfl (by omega) ?_
    refine o_move rfl rfl ?_
    refine triL_nil ?_
    refine thenQ_normal ?_
    exact ⟨(q.1 + 1, A18, c18), (.cons rfl (.cons (congrArg (fun k : Nat => some (Value.slice A18 k c18)) (by simp only; omega)) (.cons rfl (.cons rfl (.nil _))))), (fun w1 hw1 => by simp only [flat_snoc d.kept q.1 (by omega), bytesV_append]; rw [show (q.1 + 1) * 512 = q.1 * 512 + 512 by omega]; exact hw1), by simp only; omega, (by simp only; omega)⟩
  · skip
    refine tri_exit ?_
    refine thenQ_exit ?_
    refine thenQ_exit ?_
    refine blockQ_here ?_
    refine thenQ_normal ?_
    refine tri_seq ?_
    refine tri_slots [(3, _)] (.cons rfl (.nil _)) ?_
    refine tri_region ?_
    refine o_move rfl rfl ?_
    refine o_assign rfl rfl ?_
    refine triL_nil ?_
    refine thenQ_normal ?_
    refine tri_ret ?_
    refine end1 rfl rfl ?_
    have e1 : q.1 = d.kept.length := by omega
    have e2 : (d.kept.take q.1).flatten = d.image := by rw [e1, List.take_length]; rfl
    have e3 : q.1 * 512 = d.image.length := by rw [d.image_len hg, e1]
    rw [e2, e3]
    exact fin_row id .z

theorem goesK (g : Nat) (Ak : Option Addr) (ck : Nat) (Ac : Option Addr) (cc : Nat) (d : Dk) (w : World) (hs : Sat ⟨Try.prog, 44, [], w, dkF g Ak Ac⟩ (dkC g Ak ck Ac cc d) w) : Calls Try.prog 29 #[.pointer (some ⟨g, 0, none⟩)] w (Turn w (dkF g Ak Ac) (fun _ : Unit => .bool d.goesI.1) (fun _ => dkC g Ak ck Ac cc d.goesI.2) (fun _ => True)) := by
  refine calls_tri (args := [.pointer (some ⟨g, 0, none⟩)]) (lent := dkF g Ak Ac) (H := dkC g Ak ck Ac cc d) Try.func29 rfl Try.ntmps29 rfl hs ?_
  refine (show Tri _ [(0, _)] _ _ _ from ?_)
  refine tri_seq ?_
  refine tri_region ?_
  refine o_assign rfl rfl ?_
  refine triL_nil ?_
  refine thenQ_normal ?_
  refine tri_seq ?_
  refine tri_seq ?_
  refine tri_region ?_
  refine o_move rfl rfl ?_
  refine o_eqlNil Try.underlying24 rfl rfl rfl ?_
  refine o_move rfl rfl ?_
  refine' triL_or [_, _, _, _, _, _] [(0, _)] (dj := 5) (dr := 11) rfl rfl (fun g1 => ?_) ⟨_, rfl, rfl, rfl, (.cons rfl (.nil _))⟩ rfl ?_
  rotate_left
  · skip
    skip
    refine o_move rfl rfl ?_
    refine o_nilCheck rfl rfl ?_
    refine o_field fo63_0 rfl rfl ?_
    refine o_load agg60 (by first | exact Nth.z | exact .s .z | exact .s (.s .z) | exact .s (.s (.s .z)) | exact .s (.s (.s (.s .z))) | exact .s (.s (.s (.s (.s .z)))) | exact .s (.s (.s (.s (.s (.s .z))))) | exact .s (.s (.s (.s (.s (.s (.s .z))))))) rfl rfl rfl ?_
    refine o_lenS Try.underlying60 rfl rfl ?_
    refine o_eqlI rfl rfl rfl ?_
    exact triL_nil (Piece.mk rfl rfl (.cons rfl (.nil _)) (fun _ h => h))
  refine o_move rfl rfl ?_
  refine' triL_or [_, _, _, _] [(0, _)] (dj := 13) (dr := 17) rfl rfl (fun g2 => ?_) ⟨_, rfl, rfl, rfl, (.cons rfl (.nil _))⟩ rfl ?_
  rotate_left
  · skip
    skip
    refine o_move rfl rfl ?_
    refine o_nilCheck rfl rfl ?_
    refine o_field fo63_3 rfl rfl ?_
    refine o_load agg4 (by first | exact Nth.z | exact .s .z | exact .s (.s .z) | exact .s (.s (.s .z)) | exact .s (.s (.s (.s .z))) | exact .s (.s (.s (.s (.s .z)))) | exact .s (.s (.s (.s (.s (.s .z))))) | exact .s (.s (.s (.s (.s (.s (.s .z))))))) rfl rfl rfl ?_
    exact triL_nil (Piece.mk rfl rfl (.cons rfl (.nil _)) (fun _ h => h))
  refine triL_nil ?_
  refine thenQ_normal ?_
  refine tri_cond rfl (fun h0 => ?_) (fun h0 => ?_)
  · skip
    have h0 : d.kept = [] ∨ d.dark = true := by simpa using h0
    refine tri_seq ?_
    refine tri_region ?_
    refine o_assign rfl rfl ?_
    refine triL_nil ?_
    refine thenQ_normal ?_
    refine tri_ret ?_
    refine thenQ_ret ?_
    refine end1 rfl rfl ?_
    have e : d.goesI = (false, d) := by rcases h0 with h0 | h0 <;> simp [Dk.goesI, Dk.goes, h0]
    exact fin_turn () (by rw [e]) trivial (fun w1 hw => by rw [e]; exact hw)
  · skip
    have h0 : d.kept ≠ [] ∧ d.dark = false := by simpa using h0
    refine tri_skip ?_
    refine thenQ_normal ?_
    refine tri_seq ?_
    refine tri_seq ?_
    refine tri_region ?_
    refine o_move rfl rfl ?_
    refine o_nilCheck rfl rfl ?_
    refine o_field fo63_2 rfl rfl ?_
    refine o_load agg3 (by first | exact Nth.z | exact .s .z | exact .s (.s .z) | exact .s (.s (.s .z)) | exact .s (.s (.s (.s .z))) | exact .s (.s (.s (.s (.s .z)))) | exact .s (.s (.s (.s (.s (.s .z))))) | exact .s (.s (.s (.s (.s (.s (.s .z))))))) rfl rfl rfl ?_
    refine o_eqlI rfl rfl rfl ?_
    refine triL_nil ?_
    refine thenQ_normal ?_
    refine tri_if rfl (fun h1 => ?_) (fun h1 => ?_)
    · skip
      refine tri_slots [(0, _)] (.cons rfl (.nil _)) ?_
      refine tri_region ?_
      refine o_move rfl rfl ?_
      refine o_nilCheck rfl rfl ?_
      refine o_field fo63_3 rfl rfl ?_
      refine o_store sz4 (by first | exact Nth.z | exact .s .z | exact .s (.s .z) | exact .s (.s (.s .z)) | exact .s (.s (.s (.s .z))) | exact .s (.s (.s (.s (.s .z)))) | exact .s (.s (.s (.s (.s (.s .z))))) | exact .s (.s (.s (.s (.s (.s (.s .z))))))) rfl rfl rfl rfl rfl (Nat.le_of_ble_eq_true rfl) rfl ?_
      refine triL_nil ?_
      refine thenQ_normal ?_
      refine tri_seq ?_
      refine tri_seq ?_
      refine tri_region ?_
      refine o_move rfl rfl ?_
      refine o_nilCheck rfl rfl ?_
      refine o_field fo63_2 rfl rfl ?_
      refine o_load agg3 (by first | exact Nth.z | exact .s .z | exact .s (.s .z) | exact .s (.s (.s .z)) | exact .s (.s (.s (.s .z))) | exact .s (.s (.s (.s (.s .z)))) | exact .s (.s (.s (.s (.s (.s .z))))) | exact .s (.s (.s (.s (.s (.s (.s .z))))))) rfl rfl rfl ?_
      refine o_geq rfl rfl rfl ?_
      refine triL_nil ?_
      refine thenQ_normal ?_
      refine tri_if rfl (fun h2 => ?_) (fun h2 => ?_)
      · skip
        refine tri_slots [(0, _)] (.cons rfl (.nil _)) ?_
        refine tri_region ?_
        refine o_move rfl rfl ?_
        refine o_nilCheck rfl rfl ?_
        refine o_field fo63_2 rfl rfl ?_
        refine o_load agg3 (by first | exact Nth.z | exact .s .z | exact .s (.s .z) | exact .s (.s (.s .z)) | exact .s (.s (.s (.s .z))) | exact .s (.s (.s (.s (.s .z)))) | exact .s (.s (.s (.s (.s (.s .z))))) | exact .s (.s (.s (.s (.s (.s (.s .z))))))) rfl rfl rfl ?_
        refine o_sub rfl rfl rfl ?_
        refine o_nilCheck rfl rfl ?_
        refine o_field fo63_2 rfl rfl ?_
        refine o_store sz3 (by first | exact Nth.z | exact .s .z | exact .s (.s .z) | exact .s (.s (.s .z)) | exact .s (.s (.s (.s .z))) | exact .s (.s (.s (.s (.s .z)))) | exact .s (.s (.s (.s (.s (.s .z))))) | exact .s (.s (.s (.s (.s (.s (.s .z))))))) rfl rfl rfl rfl rfl (Nat.le_of_ble_eq_true rfl) rfl ?_
        refine triL_nil ?_
        refine thenQ_normal ?_
        refine tri_seq ?_
        refine tri_slots [(0, _)] (.cons rfl (.nil _)) ?_
        refine tri_region ?_
        refine o_move rfl rfl ?_
        refine o_nilCheck rfl rfl ?_
        refine o_field fo63_3 rfl rfl ?_
        refine o_load agg4 (by first | exact Nth.z | exact .s .z | exact .s (.s .z) | exact .s (.s (.s .z)) | exact .s (.s (.s (.s .z))) | exact .s (.s (.s (.s (.s .z)))) | exact .s (.s (.s (.s (.s (.s .z))))) | exact .s (.s (.s (.s (.s (.s (.s .z))))))) rfl rfl rfl ?_
        refine o_not rfl rfl ?_
        refine o_assign rfl rfl ?_
        refine triL_nil ?_
        refine thenQ_normal ?_
        refine tri_ret ?_
        refine end1 rfl rfl ?_
        have e : d.goesI = (false, { d with dark := true, trip := -1 }) := by simp [Dk.goesI, Dk.goes, h0.1, h0.2, h1]
        exact fin_turn () (by rw [e]; rfl) trivial (fun w1 hw => by rw [e]; rw [h1] at hw; exact hw)
      · skip
        omega
    · skip
      refine tri_skip ?_
      refine thenQ_normal ?_
      refine tri_seq ?_
      refine tri_seq ?_
      refine tri_slots [(0, _)] (.cons rfl (.nil _)) ?_
      refine tri_region ?_
      refine o_move rfl rfl ?_
      refine o_nilCheck rfl rfl ?_
      refine o_field fo63_2 rfl rfl ?_
      refine o_load agg3 (by first | exact Nth.z | exact .s .z | exact .s (.s .z) | exact .s (.s (.s .z)) | exact .s (.s (.s (.s .z))) | exact .s (.s (.s (.s (.s .z)))) | exact .s (.s (.s (.s (.s (.s .z))))) | exact .s (.s (.s (.s (.s (.s (.s .z))))))) rfl rfl rfl ?_
      refine o_geq rfl rfl rfl ?_
      refine triL_nil ?_
      refine thenQ_normal ?_
      refine tri_if rfl (fun h3 => ?_) (fun h3 => ?_)
      · skip
        refine tri_slots [(0, _)] (.cons rfl (.nil _)) ?_
        refine tri_region ?_
        refine o_move rfl rfl ?_
        refine o_nilCheck rfl rfl ?_
        refine o_field fo63_2 rfl rfl ?_
        refine o_load agg3 (by first | exact Nth.z | exact .s .z | exact .s (.s .z) | exact .s (.s (.s .z)) | exact .s (.s (.s (.s .z))) | exact .s (.s (.s (.s (.s .z)))) | exact .s (.s (.s (.s (.s (.s .z))))) | exact .s (.s (.s (.s (.s (.s (.s .z))))))) rfl rfl rfl ?_
        refine o_sub rfl rfl rfl ?_
        refine o_nilCheck rfl rfl ?_
        refine o_field fo63_2 rfl rfl ?_
        refine o_store sz3 (by first | exact Nth.z | exact .s .z | exact .s (.s .z) | exact .s (.s (.s .z)) | exact .s (.s (.s (.s .z))) | exact .s (.s (.s (.s (.s .z)))) | exact .s (.s (.s (.s (.s (.s .z))))) | exact .s (.s (.s (.s (.s (.s (.s .z))))))) rfl rfl rfl rfl rfl (Nat.le_of_ble_eq_true rfl) rfl ?_
        refine triL_nil ?_
        refine thenQ_normal ?_
        refine tri_seq ?_
        refine tri_slots [(0, _)] (.cons rfl (.nil _)) ?_
        refine tri_region ?_
        refine o_move rfl rfl ?_
        refine o_nilCheck rfl rfl ?_
        refine o_field fo63_3 rfl rfl ?_
        refine o_load agg4 (by first | exact Nth.z | exact .s .z | exact .s (.s .z) | exact .s (.s (.s .z)) | exact .s (.s (.s (.s .z))) | exact .s (.s (.s (.s (.s .z)))) | exact .s (.s (.s (.s (.s (.s .z))))) | exact .s (.s (.s (.s (.s (.s (.s .z))))))) rfl rfl rfl ?_
        refine o_not rfl rfl ?_
        refine o_assign rfl rfl ?_
        refine triL_nil ?_
        refine thenQ_normal ?_
        refine tri_ret ?_
        refine end1 rfl rfl ?_
        have e : d.goesI = (true, { d with trip := dec d.trip }) := by simp [Dk.goesI, Dk.goes, h0.1, h0.2, h1, show 0 < d.trip by omega]
        exact fin_turn () (by rw [e, h0.2]; rfl) trivial (fun w1 hw => by rw [e]; exact hw)
      · skip
        refine tri_skip ?_
        refine thenQ_normal ?_
        refine tri_seq ?_
        refine tri_slots [(0, _)] (.cons rfl (.nil _)) ?_
        refine tri_region ?_
        refine o_move rfl rfl ?_
        refine o_nilCheck rfl rfl ?_
        refine o_field fo63_3 rfl rfl ?_
        refine o_load agg4 (by first | exact Nth.z | exact .s .z | exact .s (.s .z) | exact .s (.s (.s .z)) | exact .s (.s (.s (.s .z))) | exact .s (.s (.s (.s (.s .z)))) | exact .s (.s (.s (.s (.s (.s .z))))) | exact .s (.s (.s (.s (.s (.s (.s .z))))))) rfl rfl rfl ?_
        refine o_not rfl rfl ?_
        refine o_assign rfl rfl ?_
        refine triL_nil ?_
        refine thenQ_normal ?_
        refine tri_ret ?_
        refine end1 rfl rfl ?_
        have e : d.goesI = (true, d) := by 
          have h9 : ¬ 0 < d.trip := by omega
          simp only [Dk.goesI, Dk.goes, h0.1, h0.2, h1, h9, if_false, Bool.false_eq_true]
          cases d; cases h0.2; rfl
        exact fin_turn () (by rw [e, h0.2]; rfl) trivial (fun w1 hw => by rw [e]; exact hw)

theorem emptyK (g : Nat) (Ak : Option Addr) (ck : Nat) (Ac : Option Addr) (cc : Nat) (d : Dk) (w : World) (hs : Sat ⟨Try.prog, 14, [], w, dkF g Ak Ac⟩ (dkC g Ak ck Ac cc d) w) : Calls Try.prog 30 #[.pointer (some ⟨g, 0, none⟩)] w (Turn w (dkF g Ak Ac) (fun _ : Unit => .tuple #[]) (fun _ => dkC g Ak ck Ac cc { d with cache := [] }) (fun _ => True)) := by
  refine calls_tri (args := [.pointer (some ⟨g, 0, none⟩)]) (lent := dkF g Ak Ac) (H := dkC g Ak ck Ac cc d) Try.func30 rfl Try.ntmps30 rfl hs ?_
  refine (show Tri _ [(0, _)] _ _ _ from ?_)
  refine tri_seq ?_
  refine tri_region ?_
  refine o_move rfl rfl ?_
  refine o_nilCheck rfl rfl ?_
  refine o_field fo63_1 rfl rfl ?_
  refine o_load agg61 (by first | exact Nth.z | exact .s .z | exact .s (.s .z) | exact .s (.s (.s .z)) | exact .s (.s (.s (.s .z))) | exact .s (.s (.s (.s (.s .z)))) | exact .s (.s (.s (.s (.s (.s .z))))) | exact .s (.s (.s (.s (.s (.s (.s .z))))))) rfl rfl rfl ?_
  refine o_clear (z := .agg (looseV (0, List.replicate 512 0)).toArray) Try.underlying61 zs68 (by kernel_rfl) (by decide) zone68 (.s (.s .z)) rfl rfl (fun ys4 => ?_)
  refine triL_nil ?_
  refine thenQ_normal ?_
  refine tri_slots [(0, _)] (.cons rfl (.nil _)) ?_
  refine tri_region ?_
  refine o_move rfl rfl ?_
  refine o_move rfl rfl ?_
  refine o_nilCheck rfl rfl ?_
  refine o_field fo63_1 rfl rfl ?_
  refine o_load agg61 (by first | exact Nth.z | exact .s .z | exact .s (.s .z) | exact .s (.s (.s .z)) | exact .s (.s (.s (.s .z))) | exact .s (.s (.s (.s (.s .z)))) | exact .s (.s (.s (.s (.s (.s .z))))) | exact .s (.s (.s (.s (.s (.s (.s .z))))))) rfl rfl rfl ?_
  refine o_sliceSh Try.underlying61 sz68 rfl rfl rfl (by omega) (by omega) ?_
  refine o_nilCheck rfl rfl ?_
  refine o_field fo63_1 rfl rfl ?_
  refine o_store sz61 (by first | exact Nth.z | exact .s .z | exact .s (.s .z) | exact .s (.s (.s .z)) | exact .s (.s (.s (.s .z))) | exact .s (.s (.s (.s (.s .z)))) | exact .s (.s (.s (.s (.s (.s .z))))) | exact .s (.s (.s (.s (.s (.s (.s .z))))))) rfl rfl rfl rfl rfl (Nat.le_of_ble_eq_true rfl) rfl ?_
  refine triL_nil ?_
  refine end0n rfl ?_
  exact fin_turn () rfl trivial (fun w1 hw => hw.shrink (.s (.s .z)))

theorem tripK (g : Nat) (Ak : Option Addr) (ck : Nat) (Ac : Option Addr) (cc : Nat) (d : Dk) (n : Int) (w : World) (hs : Sat ⟨Try.prog, 19, [], w, dkF g Ak Ac⟩ (dkC g Ak ck Ac cc d) w) : Calls Try.prog 27 #[.pointer (some ⟨g, 0, none⟩), .int .i64 n] w (Turn w (dkF g Ak Ac) (fun _ : Unit => .tuple #[]) (fun _ => dkC g Ak ck Ac cc (d.armI n)) (fun _ => True)) := by
  refine calls_tri (args := [.pointer (some ⟨g, 0, none⟩), .int .i64 n]) (lent := dkF g Ak Ac) (H := dkC g Ak ck Ac cc d) Try.func27 rfl Try.ntmps27 rfl hs ?_
  refine (show Tri _ [(0, _), (1, _)] _ _ _ from ?_)
  refine tri_seq ?_
  refine tri_region ?_
  refine o_move rfl rfl ?_
  refine o_callP (first := []) (cap := []) rfl rfl rfl Try.call20 (fun w1 h1 => sectorsK g Ak ck Ac cc d w1 (h1.rd (RdS.box (i := 0) .z))) ?_
  refine o_gtr rfl rfl rfl ?_
  refine o_move rfl rfl ?_
  refine' triL_and [_, _, _, _, _] [(0, _), (1, _)] (dj := 7) (dr := 12) rfl rfl (fun g1 => ?_) ⟨_, rfl, rfl, rfl, (.cons rfl (.cons rfl (.nil _)))⟩ rfl ?_
  rotate_left
  · skip
    skip
    refine o_move rfl rfl ?_
    refine o_nilCheck rfl rfl ?_
    refine o_field fo63_3 rfl rfl ?_
    refine o_load agg4 (by first | exact Nth.z | exact .s .z | exact .s (.s .z) | exact .s (.s (.s .z)) | exact .s (.s (.s (.s .z))) | exact .s (.s (.s (.s (.s .z)))) | exact .s (.s (.s (.s (.s (.s .z))))) | exact .s (.s (.s (.s (.s (.s (.s .z))))))) rfl rfl rfl ?_
    refine o_not rfl rfl ?_
    exact triL_nil (Piece.mk rfl rfl (.cons rfl (.cons rfl (.nil _))) (fun _ h => h))
  refine triL_nil ?_
  refine thenQ_normal ?_
  refine tri_cond rfl (fun h0 => ?_) (fun h0 => ?_)
  · skip
    have h0 : d.kept ≠ [] ∧ d.dark = false := by
      simp at h0
      exact ⟨fun e => by rw [e] at h0; simp at h0, h0.2⟩
    refine tri_region ?_
    refine o_move rfl rfl ?_
    refine o_move rfl rfl ?_
    refine o_max rfl rfl rfl ?_
    refine o_nilCheck rfl rfl ?_
    refine o_field fo63_2 rfl rfl ?_
    refine o_store sz3 (by first | exact Nth.z | exact .s .z | exact .s (.s .z) | exact .s (.s (.s .z)) | exact .s (.s (.s (.s .z))) | exact .s (.s (.s (.s (.s .z)))) | exact .s (.s (.s (.s (.s (.s .z))))) | exact .s (.s (.s (.s (.s (.s (.s .z))))))) rfl rfl rfl rfl rfl (Nat.le_of_ble_eq_true rfl) rfl ?_
    refine triL_nil ?_
    refine end0n rfl ?_
    have e : d.armI n = { d with trip := max n (-1) } := by simp [Dk.armI, Dk.arm, h0.1, h0.2]
    exact fin_turn () rfl trivial (fun w1 hw => by rw [e]; exact hw)
  · skip
    have h0 : d.kept = [] ∨ d.dark = true := by
      simp at h0
      cases hk : d.kept with
      | nil => exact .inl rfl
      | cons s k => exact .inr (h0 (by rw [hk]; simp))
    refine tri_skip ?_
    refine end0n rfl ?_
    have e : d.armI n = d := by rcases h0 with h0 | h0 <;> simp [Dk.armI, Dk.arm, h0]
    exact fin_turn () rfl trivial (fun w1 hw => by rw [e]; exact hw)

end Go.Proofs.Ytpnccaddbjbfhaa
