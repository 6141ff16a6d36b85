/- the disk's functions that change it, walked -/
import Derived.Test.YtpnccaddbjbfhaaWalks
namespace Go.Proofs.Ytpnccaddbjbfhaa
open Go.WK Go.RowKit 

theorem zero68 : (Try.prog.info? 68).map (·.zero) = some (some ((.agg (looseV (0, List.replicate 512 0)).toArray))) := by kernel_rfl
theorem agg66 : aggB Try.prog 66 = some true := by kernel_rfl
theorem agg68 : aggB Try.prog 68 = some true := by kernel_rfl
theorem zsb68 : (Try.prog.info? 68).map (fun i => (i.zero, i.size, i.bytes)) = some (some ((.agg (looseV (0, List.replicate 512 0)).toArray)), 513, 520) := by kernel_rfl
theorem fo47_0 : fieldB Try.prog 47 0 = some 0 := by kernel_rfl
theorem zero66 : (Try.prog.info? 66).map (·.zero) = some (some ((.agg (bytesV (List.replicate 512 0)).toArray))) := by kernel_rfl
theorem fo68_0 : fieldB Try.prog 68 0 = some 0 := by kernel_rfl
theorem fo68_1 : fieldB Try.prog 68 1 = some 1 := by kernel_rfl
theorem fo47_1 : fieldB Try.prog 47 1 = some 1 := by kernel_rfl
theorem fo47_2 : fieldB Try.prog 47 2 = some 2 := by kernel_rfl

theorem built68 (k : Int) (b : List UInt8) (h : b.length = 512) : Try.prog.built 68 [(0, .int .i64 k), (1, .agg (bytesV b).toArray)] = some (.int .i64 k :: bytesV b).toArray := built2 zero68 Try.underlying68 sz3 rfl sz66 rfl (by kernel_rfl) rfl rfl (by rw [bytesV_length]; exact h)

theorem readK (g : Nat) (Ak : Option Addr) (ck : Nat) (Ac : Option Addr) (cc : Nat) (d : Dk) (at_ : Int) (w : World) (hs : Sat ⟨Try.prog, 55, [], w, dkF g Ak Ac⟩ (dkC g Ak ck Ac cc d) w) (hg : d.good) (hm : d.cache.length ≤ 100000) : Calls Try.prog 18 #[.pointer (some ⟨g, 0, none⟩), .int .i64 at_] w (Turn w (dkF g Ak Ac) (fun j : Option Addr × Nat => .tuple #[.slice j.1 (d.read at_).1.length j.2, .int .i64 (d.read at_).2.1]) (fun j => row (.slice j.1 (d.read at_).1.length j.2) 66 1 (d.read at_).1.length (bytesV (d.read at_).1) :: dkC g Ak ck Ac cc (d.read at_).2.2) (fun _ => True)) := by
  refine calls_tri (args := [.pointer (some ⟨g, 0, none⟩), .int .i64 at_]) (lent := dkF g Ak Ac) (H := dkC g Ak ck Ac cc d) Try.func18 rfl Try.ntmps18 rfl hs ?_
  refine (show Tri _ [(0, _), (1, _)] _ _ _ from ?_)
  refine tri_seq ?_
  refine tri_region ?_
  refine o_assign rfl rfl ?_
  refine o_assign rfl rfl ?_
  refine triL_nil ?_
  refine thenQ_normal ?_
  refine tri_seq ?_
  refine tri_block ?_
  refine tri_seq ?_
  refine tri_region ?_
  refine o_move rfl rfl ?_
  refine o_lss rfl rfl rfl ?_
  refine o_move rfl rfl ?_
  refine' triL_or [_, _, _, _] [(0, _), (1, _)] (dj := 12) (dr := 16) rfl rfl (fun g1 => ?_) ⟨_, rfl, rfl, rfl, (.cons rfl (.cons rfl (.nil _)))⟩ rfl ?_
  rotate_left
  · skip
    skip
    refine o_move rfl rfl ?_
    refine o_move rfl rfl ?_
    refine o_callP (first := []) (cap := []) rfl rfl rfl Try.call20 (fun w1 h1 => sectorsK g Ak ck Ac cc d w1 (h1.rd (RdS.box (i := 0) .z))) ?_
    refine o_geq rfl rfl rfl ?_
    exact triL_nil (Piece.mk rfl rfl (.cons rfl (.cons rfl (.nil _))) (fun _ h => h))
  refine o_assign rfl rfl ?_
  refine triL_nil ?_
  refine thenQ_normal ?_
  refine tri_cond rfl (fun h0 => ?_) (fun h0 => ?_)
  · skip
    have h0 : d.out at_ := by simpa [Dk.out] using h0
    refine tri_seq ?_
    refine tri_slots [] (.nil _) ?_
    refine tri_region ?_
    refine o_assign rfl rfl ?_
    refine o_assign rfl rfl ?_
    refine triL_nil ?_
    refine thenQ_normal ?_
    refine tri_ret ?_
    refine blockQ_ret ?_
    refine thenQ_ret ?_
    refine end2 rfl rfl rfl ?_
    have e : d.read at_ = ([], 2, d) := by rw [Dk.read, if_pos h0]
    exact fin_turn (none, 0) (by rw [e]; rfl) trivial (fun w1 hw => by rw [e]; exact hw.nilRow _ _)
  · skip
    have h0 : ¬ d.out at_ := by simpa [Dk.out] using h0
    have h0' := h0
    unfold Dk.out at h0'
    obtain ⟨k, rfl⟩ := Int.eq_ofNat_of_zero_le (show 0 ≤ at_ by omega)
    have hne : d.kept ≠ [] := fun e => by rw [e] at h0'; simp at h0'
    refine tri_seq ?_
    refine tri_region ?_
    refine o_move rfl rfl ?_
    refine o_callM [] (dkC g Ak ck Ac cc d) [] (dkF g Ak Ac) rfl rfl rfl rfl Try.call29 dk_lend dk_lend' (fun w1 _ h2 => goesK g Ak ck Ac cc d w1 h2.cx) (fun _ _ => ?_)
    rw [Dk.goesI_eq hne]
    obtain ⟨ok, d1, hd1, k1, k2, k3, k4, k5⟩ := goes_parts d
    rw [hd1]
    dsimp only
    have hg1 : d1.good := by have := Dk.goes_good hg; rw [hd1] at this; exact this
    have hm1 : d1.cache.length ≤ 100000 := by rw [k2]; exact hm
    refine o_not rfl rfl ?_
    refine o_assign rfl rfl ?_
    refine triL_nil ?_
    refine thenQ_normal ?_
    refine tri_cond rfl (fun h1 => ?_) (fun h1 => ?_)
    · skip
      have h1 : ok = false := by simpa using h1
      refine tri_seq ?_
      refine tri_slots [] (.nil _) ?_
      refine tri_region ?_
      refine o_assign rfl rfl ?_
      refine o_assign rfl rfl ?_
      refine triL_nil ?_
      refine thenQ_normal ?_
      refine tri_ret ?_
      refine blockQ_ret ?_
      refine thenQ_ret ?_
      refine end2 rfl rfl rfl ?_
      have e : d.read (k : Int) = ([], 8, d1) := by rw [Dk.read, if_neg h0, hd1]; simp [h1]
      exact fin_turn (none, 0) (by rw [e]; rfl) trivial (fun w1 hw => by rw [e]; exact hw.nilRow _ _)
    · skip
      have h1 : ok = true := by simpa using h1
      have hk : k < d1.kept.length := by rw [k1]; omega
      refine tri_skip ?_
      refine blockQ_normal ?_
      refine thenQ_normal ?_
      refine tri_seq ?_
      refine tri_slots [(0, _), (1, _)] (.cons rfl (.cons rfl (.nil _))) ?_
      refine tri_region ?_
      refine o_move rfl rfl ?_
      refine o_nilCheck rfl rfl ?_
      refine o_field fo63_4 rfl rfl ?_
      refine o_field fo47_0 rfl rfl ?_
      refine o_load agg3 (by first | exact Nth.z | exact .s .z | exact .s (.s .z) | exact .s (.s (.s .z)) | exact .s (.s (.s (.s .z))) | exact .s (.s (.s (.s (.s .z)))) | exact .s (.s (.s (.s (.s (.s .z))))) | exact .s (.s (.s (.s (.s (.s (.s .z))))))) rfl rfl rfl ?_
      refine o_add rfl rfl rfl ?_
      refine o_nilCheck rfl rfl ?_
      refine o_field fo63_4 rfl rfl ?_
      refine o_field fo47_0 rfl rfl ?_
      refine o_store sz3 (by first | exact Nth.z | exact .s .z | exact .s (.s .z) | exact .s (.s (.s .z)) | exact .s (.s (.s (.s .z))) | exact .s (.s (.s (.s (.s .z)))) | exact .s (.s (.s (.s (.s (.s .z))))) | exact .s (.s (.s (.s (.s (.s (.s .z))))))) rfl rfl rfl rfl rfl (Nat.le_of_ble_eq_true rfl) rfl ?_
      refine triL_nil ?_
      refine thenQ_normal ?_
      refine tri_seq ?_
      refine tri_slots [(0, _), (1, _)] (.cons rfl (.cons rfl (.nil _))) ?_
      refine tri_region ?_
      refine o_move rfl rfl ?_
      refine o_nilCheck rfl rfl ?_
      refine o_field fo63_0 rfl rfl ?_
      refine o_load agg60 (by first | exact Nth.z | exact .s .z | exact .s (.s .z) | exact .s (.s (.s .z)) | exact .s (.s (.s (.s .z))) | exact .s (.s (.s (.s (.s .z)))) | exact .s (.s (.s (.s (.s (.s .z))))) | exact .s (.s (.s (.s (.s (.s (.s .z))))))) rfl rfl rfl ?_
      refine o_move rfl rfl ?_
      refine o_idxS Try.underlying60 sz66 rfl rfl rfl (RdS.row (i := 1) (.s .z)) (by omega) (by omega) (by rw [flatV_length hg1.secs]) (by decide) ?_
      refine o_loadRA agg66 sz66 rfl rfl (RdS.row (i := 1) (.s .z)) (flatV_at (l := d1.kept) k [] hg1.secs (by omega)) (by rw [bytesV_length, getD_kept hg1.1 (by omega)]) (by decide) ?_
      refine o_alloc _ rfl zero66 rfl (fun b6 => ?_)
      refine o_storeW sz66 .z rfl rfl rfl rfl (by rw [bytesV_length, getD_kept hg1.1 (by omega)]) (by rw [bytesV_length]; exact List.length_replicate) (bytesV_one _) ?_
      refine triL_nil ?_
      refine thenQ_normal ?_
      refine tri_seq ?_
      refine tri_seq ?_
      refine tri_slots [(6, _), (0, _), (1, _)] (.cons rfl (.cons rfl (.cons rfl (.nil _)))) ?_
      refine tri_region ?_
      refine o_move rfl rfl ?_
      refine o_nilCheck rfl rfl ?_
      refine o_field fo63_1 rfl rfl ?_
      refine o_load agg61 (by first | exact Nth.z | exact .s .z | exact .s (.s .z) | exact .s (.s (.s .z)) | exact .s (.s (.s (.s .z))) | exact .s (.s (.s (.s (.s .z)))) | exact .s (.s (.s (.s (.s (.s .z))))) | exact .s (.s (.s (.s (.s (.s (.s .z))))))) rfl rfl rfl ?_
      refine o_lenS Try.underlying61 rfl rfl ?_
      refine o_move rfl rfl ?_
      refine triL_nil ?_
      refine thenQ_normal ?_
      refine tri_block ?_
      refine tri_loop (ι := Nat × List UInt8) (F := fun q => [(1, .int .i64 (k : Int)), (6, .pointer (some ⟨b6, 0, none⟩)), (41, .slice Ac d1.cache.length cc), (42, .int .i64 (d1.cache.length : Int)), (43, .int .i64 (q.1 : Int))]) (HH := fun q => (box b6 66 (bytesV q.2) :: dkC g Ak ck Ac cc { d1 with r := inc d1.r })) (Pu := fun q => q.1 ≤ d1.cache.length ∧ q.2.length = 512 ∧ d1.seen k = seenF (d1.cache.drop q.1) k q.2) (μ := fun q => d1.cache.length - q.1) ((0, d1.kept.getD k [])) (.cons rfl (.cons rfl (.cons rfl (.cons rfl (.cons rfl (.nil _)))))) (fun _ h => h) (⟨Nat.zero_le _, getD_kept hg1.1 hk, rfl⟩) (fun q hi => ?_)
      refine tri_seq ?_
      refine tri_region ?_
      refine o_lss rfl rfl rfl ?_
      refine triL_nil ?_
      refine thenQ_normal ?_
      refine tri_seq ?_
      refine tri_if rfl (fun h2 => ?_) (fun h2 => ?_)
      · skip
        refine tri_skip ?_
        refine thenQ_normal ?_
        refine tri_seq ?_
        refine tri_block ?_
        refine tri_seq ?_
        refine tri_region ?_
        refine o_idxS Try.underlying61 sz68 rfl rfl rfl (RdS.row (i := 3) (.s (.s (.s .z)))) (by omega) (by omega) (by rw [flatV_length hg1.looses]) (by decide) ?_
        refine o_loadRA agg68 sz68 rfl rfl (RdS.row (i := 3) (.s (.s (.s .z)))) (flatV_at (l := d1.cache) q.1 (0, []) hg1.looses (by omega)) (looseV_len (getD_cache hg1 (by omega)).2) (by decide) ?_
        refine o_alloc _ rfl zero68 rfl (fun b8 => ?_)
        refine o_storeW sz68 .z rfl rfl rfl rfl (looseV_len (getD_cache hg1 (by omega)).2) (looseV_len List.length_replicate) (looseV_one _) ?_
        refine triL_nil ?_
        refine thenQ_normal ?_
        refine tri_seq ?_
        refine tri_region ?_
        refine o_field fo68_0 rfl rfl ?_
        refine o_load agg3 (by first | exact Nth.z | exact .s .z | exact .s (.s .z) | exact .s (.s (.s .z)) | exact .s (.s (.s (.s .z))) | exact .s (.s (.s (.s (.s .z)))) | exact .s (.s (.s (.s (.s (.s .z))))) | exact .s (.s (.s (.s (.s (.s (.s .z))))))) rfl rfl rfl ?_
        refine o_move rfl rfl ?_
        refine o_eqlI rfl rfl rfl ?_
        refine triL_nil ?_
        refine thenQ_normal ?_
        refine tri_if rfl (fun h3 => ?_) (fun h3 => ?_)
        · skip
          refine tri_slots [(8, _), (1, _), (6, _), (41, _), (42, _), (43, _)] (.cons rfl (.cons rfl (.cons rfl (.cons rfl (.cons rfl (.cons rfl (.nil _))))))) ?_
          refine tri_region ?_
          refine o_field fo68_1 rfl rfl ?_
          refine o_loadA agg66 sz66 .z rfl rfl (looseV_to (getD_cache hg1 (by omega)).2) (by rw [bytesV_length]; exact (getD_cache hg1 (by omega)).2) ?_
          refine o_storeW sz66 (.s .z) rfl rfl rfl rfl (by rw [bytesV_length]; exact (getD_cache hg1 (by omega)).2) (by rw [bytesV_length]; exact hi.2.1) (bytesV_one _) ?_
          refine triL_nil ?_
          refine blockQ_normal ?_
          refine thenQ_normal ?_
          refine tri_region ?_
          refine o_addN rfl rfl rfl (by omega) ?_
          refine o_move rfl rfl ?_
          refine triL_nil ?_
          refine thenQ_normal ?_
          exact ⟨(q.1 + 1, (d1.cache.getD q.1 (0, [])).2), (.cons rfl (.cons rfl (.cons rfl (.cons rfl (.cons rfl (.nil _)))))), (fun w1 hw1 => hw1.tail), ⟨by simp only; omega, (getD_cache hg1 (by omega)).2, by rw [hi.2.2, seenF_drop k q.2 (by omega), if_pos (by omega)]⟩, (by simp only; omega)⟩
        · skip
          refine tri_skip ?_
          refine blockQ_normal ?_
          refine thenQ_normal ?_
          refine tri_slots [(1, _), (6, _), (41, _), (42, _), (43, _)] (.cons rfl (.cons rfl (.cons rfl (.cons rfl (.cons rfl (.nil _)))))) ?_
          refine tri_region ?_
          refine o_addN rfl rfl rfl (by omega) ?_
          refine o_move rfl rfl ?_
          refine triL_nil ?_
          refine thenQ_normal ?_
          exact ⟨(q.1 + 1, q.2), (.cons rfl (.cons rfl (.cons rfl (.cons rfl (.cons rfl (.nil _)))))), (fun w1 hw1 => hw1.tail), ⟨by simp only; omega, hi.2.1, by rw [hi.2.2, seenF_drop k q.2 (by omega), if_neg (by omega)]⟩, (by simp only; omega)⟩
      · skip
        refine tri_exit ?_
        refine thenQ_exit ?_
        refine thenQ_exit ?_
        refine blockQ_here ?_
        refine thenQ_normal ?_
        refine tri_seq ?_
        refine tri_slots [(6, _)] (.cons rfl (.nil _)) ?_
        refine tri_region ?_
        refine o_sliceArr Try.underlying66 sz5 rfl rfl ?_
        refine o_assign rfl rfl ?_
        refine o_assign rfl rfl ?_
        refine triL_nil ?_
        refine thenQ_normal ?_
        refine tri_ret ?_
        refine end2 rfl rfl rfl ?_
        have hq : q.1 = d1.cache.length := by omega
        have hx := hi.2.2
        rw [hq, seenF_end] at hx
        have hs1 : d.seen k = q.2 := by rw [← hx]; simp only [Dk.seen, k1, k2]
        have e : d.read (k : Int) = (q.2, 0, { d1 with r := inc d1.r }) := by rw [Dk.read, if_neg h0, hd1]; simp [h1, hs1, k3]
        exact fin_turn (some ⟨b6, 0, none⟩, 512) (by rw [e]; simp only [hi.2.1]) trivial (fun w1 hw => by
          have h9 := hw.unbox .z (by rw [bytesV_length, hi.2.1]; unfold maxLen; omega)
          rw [bytesV_length, hi.2.1] at h9
          rw [e]
          simp only [hi.2.1]
          exact h9)

theorem writeK (g : Nat) (Ak : Option Addr) (ck : Nat) (Ac : Option Addr) (cc : Nat) (d : Dk) (at_ : Int) (A : Option Addr) (n c : Nat) (b : List UInt8) (w : World) (hs : Sat ⟨Try.prog, 47, [], w, dkF g Ak Ac⟩ (dkC g Ak ck Ac cc d) w) (hg : d.good) (hm : d.cache.length ≤ 100000) (hkp : Keeps w (dkF g Ak Ac) A (bytesV b)) (hn : b.length = n) : Calls Try.prog 13 #[.pointer (some ⟨g, 0, none⟩), .int .i64 at_, .slice A n c] w (Turn w (dkF g Ak Ac) (fun _ : Option Addr × Nat => .int .i64 (d.write at_ b).1) (fun j => dkC g Ak ck j.1 j.2 (d.write at_ b).2) (fun _ => True)) := by
  refine calls_tri (args := [.pointer (some ⟨g, 0, none⟩), .int .i64 at_, .slice A n c]) (lent := dkF g Ak Ac) (H := dkC g Ak ck Ac cc d) Try.func13 rfl Try.ntmps13 rfl hs ?_
  refine (show Tri _ [(0, _), (1, _), (2, _)] _ _ _ from ?_)
  have hR : ∀ cx H, cx.w0 = w → cx.lent = dkF g Ak Ac → RdS cx H A (bytesV b) := fun cx H h1 h2 => Keeps.rdS (by rw [h1, h2]; exact hkp)
  refine tri_seq ?_
  refine tri_region ?_
  refine o_assign rfl rfl ?_
  refine triL_nil ?_
  refine thenQ_normal ?_
  refine tri_seq ?_
  refine tri_block ?_
  refine tri_seq ?_
  refine tri_region ?_
  refine o_move rfl rfl ?_
  refine o_lss rfl rfl rfl ?_
  refine o_move rfl rfl ?_
  refine' triL_or [_, _, _, _] [(0, _), (1, _), (2, _)] (dj := 10) (dr := 14) rfl rfl (fun g1 => ?_) ⟨_, rfl, rfl, rfl, (.cons rfl (.cons rfl (.cons rfl (.nil _))))⟩ rfl ?_
  rotate_left
  · skip
    skip
    refine o_move rfl rfl ?_
    refine o_move rfl rfl ?_
    refine o_callP (first := []) (cap := []) rfl rfl rfl Try.call20 (fun w1 h1 => sectorsK g Ak ck Ac cc d w1 (h1.rd (RdS.box (i := 0) .z))) ?_
    refine o_geq rfl rfl rfl ?_
    exact triL_nil (Piece.mk rfl rfl (.cons rfl (.cons rfl (.cons rfl (.nil _)))) (fun _ h => h))
  refine o_assign rfl rfl ?_
  refine triL_nil ?_
  refine thenQ_normal ?_
  refine tri_cond rfl (fun h0 => ?_) (fun h0 => ?_)
  · skip
    have h0 : d.out at_ := by simpa [Dk.out] using h0
    refine tri_seq ?_
    refine tri_slots [] (.nil _) ?_
    refine tri_region ?_
    refine o_assign rfl rfl ?_
    refine triL_nil ?_
    refine thenQ_normal ?_
    refine tri_ret ?_
    refine blockQ_ret ?_
    refine thenQ_ret ?_
    refine end1 rfl rfl ?_
    have e : d.write at_ b = (2, d) := by rw [Dk.write, if_pos h0]
    exact fin_turn (Ac, cc) (by rw [e]) trivial (fun w1 hw => by rw [e]; exact hw)
  · skip
    have h0 : ¬ d.out at_ := by simpa [Dk.out] using h0
    have h0' := h0
    unfold Dk.out at h0'
    obtain ⟨k, rfl⟩ := Int.eq_ofNat_of_zero_le (show 0 ≤ at_ by omega)
    have hne : d.kept ≠ [] := fun e => by rw [e] at h0'; simp at h0'
    refine tri_seq ?_
    refine tri_region ?_
    refine o_move rfl rfl ?_
    refine o_lenS Try.underlying32 rfl rfl ?_
    refine o_neqI rfl rfl rfl ?_
    refine o_assign rfl rfl ?_
    refine triL_nil ?_
    refine thenQ_normal ?_
    refine tri_if rfl (fun hb => ?_) (fun hb => ?_)
    · skip
      have hb : b.length ≠ 512 := by omega
      refine tri_seq ?_
      refine tri_slots [] (.nil _) ?_
      refine tri_region ?_
      refine o_assign rfl rfl ?_
      refine triL_nil ?_
      refine thenQ_normal ?_
      refine tri_ret ?_
      refine blockQ_ret ?_
      refine thenQ_ret ?_
      refine end1 rfl rfl ?_
      have e : d.write (k : Int) b = (1, d) := by rw [Dk.write, if_neg h0, if_pos hb]
      exact fin_turn (Ac, cc) (by rw [e]) trivial (fun w1 hw => by rw [e]; exact hw)
    · skip
      have hb : b.length = 512 := by omega
      refine tri_seq ?_
      refine tri_slots [(0, _), (1, _), (2, _)] (.cons rfl (.cons rfl (.cons rfl (.nil _)))) ?_
      refine tri_region ?_
      refine o_move rfl rfl ?_
      refine o_callM [] (dkC g Ak ck Ac cc d) [] (dkF g Ak Ac) rfl rfl rfl rfl Try.call29 dk_lend dk_lend' (fun w1 _ h2 => goesK g Ak ck Ac cc d w1 h2.cx) (fun _ _ => ?_)
      rw [Dk.goesI_eq hne]
      obtain ⟨ok, d1, hd1, k1, k2, k3, k4, k5⟩ := goes_parts d
      rw [hd1]
      dsimp only
      have hg1 : d1.good := by have := Dk.goes_good hg; rw [hd1] at this; exact this
      have hm1 : d1.cache.length ≤ 100000 := by rw [k2]; exact hm
      refine o_not rfl rfl ?_
      refine o_assign rfl rfl ?_
      refine triL_nil ?_
      refine thenQ_normal ?_
      refine tri_cond rfl (fun h1 => ?_) (fun h1 => ?_)
      · skip
        have h1 : ok = false := by simpa using h1
        refine tri_seq ?_
        refine tri_slots [] (.nil _) ?_
        refine tri_region ?_
        refine o_assign rfl rfl ?_
        refine triL_nil ?_
        refine thenQ_normal ?_
        refine tri_ret ?_
        refine blockQ_ret ?_
        refine thenQ_ret ?_
        refine end1 rfl rfl ?_
        have e : d.write (k : Int) b = (8, d1) := by rw [Dk.write, if_neg h0, if_neg (by omega), hd1]; simp [h1]
        exact fin_turn (Ac, cc) (by rw [e]) trivial (fun w1 hw => by rw [e]; exact hw)
      · skip
        have h1 : ok = true := by simpa using h1
        have hk : k < d1.kept.length := by rw [k1]; omega
        refine tri_skip ?_
        refine blockQ_normal ?_
        refine thenQ_normal ?_
        refine tri_seq ?_
        refine tri_slots [(0, _), (1, _), (2, _)] (.cons rfl (.cons rfl (.cons rfl (.nil _)))) ?_
        refine tri_region ?_
        refine o_move rfl rfl ?_
        refine o_nilCheck rfl rfl ?_
        refine o_field fo63_4 rfl rfl ?_
        refine o_field fo47_1 rfl rfl ?_
        refine o_load agg3 (by first | exact Nth.z | exact .s .z | exact .s (.s .z) | exact .s (.s (.s .z)) | exact .s (.s (.s (.s .z))) | exact .s (.s (.s (.s (.s .z)))) | exact .s (.s (.s (.s (.s (.s .z))))) | exact .s (.s (.s (.s (.s (.s (.s .z))))))) rfl rfl rfl ?_
        refine o_add rfl rfl rfl ?_
        refine o_nilCheck rfl rfl ?_
        refine o_field fo63_4 rfl rfl ?_
        refine o_field fo47_1 rfl rfl ?_
        refine o_store sz3 (by first | exact Nth.z | exact .s .z | exact .s (.s .z) | exact .s (.s (.s .z)) | exact .s (.s (.s (.s .z))) | exact .s (.s (.s (.s (.s .z)))) | exact .s (.s (.s (.s (.s (.s .z))))) | exact .s (.s (.s (.s (.s (.s (.s .z))))))) rfl rfl rfl rfl rfl (Nat.le_of_ble_eq_true rfl) rfl ?_
        refine triL_nil ?_
        refine thenQ_normal ?_
        refine tri_seq ?_
        refine tri_slots [(0, _), (1, _), (2, _)] (.cons rfl (.cons rfl (.cons rfl (.nil _)))) ?_
        refine tri_mix ([box g 63 [.slice Ak d1.kept.length ck, .slice Ac d1.cache.length cc, .int .i64 d1.trip, .bool d1.dark, .int .i64 d1.r, .int .i64 (inc d1.w), .int .i64 d1.s], row (.slice Ak d1.kept.length ck) 66 512 d1.kept.length (secsV d1.kept)]) [(0, true), (1, true), (2, true), (3, true), (4, true), (5, true), (6, true), (7, true), (8, true), (9, true), (10, false), (11, false), (12, false), (13, false), (14, false)] [12, 13, 14] (by kernel_rfl) (by kernel_rfl) (fun _ h => h.sublist (List.Sublist.cons_cons _ (List.Sublist.cons_cons _ (List.nil_sublist _)))) ?_
        refine mix_fix rfl ?_
        refine o_move rfl rfl ?_
        refine triL_nil ⟨rfl, ?_⟩
        refine mix_fix rfl ?_
        refine o_move rfl rfl ?_
        refine triL_nil ⟨rfl, ?_⟩
        refine mix_fix rfl ?_
        refine o_nilCheck rfl rfl ?_
        refine triL_nil ⟨rfl, ?_⟩
        refine mix_fix rfl ?_
        refine o_field fo63_1 rfl rfl ?_
        refine triL_nil ⟨rfl, ?_⟩
        refine mix_fix rfl ?_
        refine o_load agg61 (by first | exact Nth.z | exact .s .z | exact .s (.s .z) | exact .s (.s (.s .z)) | exact .s (.s (.s (.s .z))) | exact .s (.s (.s (.s (.s .z)))) | exact .s (.s (.s (.s (.s (.s .z))))) | exact .s (.s (.s (.s (.s (.s (.s .z))))))) rfl rfl rfl ?_
        refine triL_nil ⟨rfl, ?_⟩
        refine mix_fix rfl ?_
        refine o_move rfl rfl ?_
        refine triL_nil ⟨rfl, ?_⟩
        refine mix_fix rfl ?_
        refine o_move rfl rfl ?_
        refine triL_nil ⟨rfl, ?_⟩
        refine mix_fix rfl ?_
        refine o_arrP Try.underlying66 rfl rfl (by omega) ?_
        refine triL_nil ⟨rfl, ?_⟩
        refine mix_fix rfl ?_
        refine o_loadRA agg66 sz66 rfl rfl (hR _ _ rfl rfl) (take512 hb) (by rw [bytesV_length]; exact hb) (by decide) ?_
        refine triL_nil ⟨rfl, ?_⟩
        refine mix_fix rfl ?_
        refine o_build (cs := looseV (k, b)) (built68 k b hb) rfl rfl ?_
        refine triL_nil ⟨rfl, ?_⟩
        refine mix_op rfl ?_
        refine o_lit1 (vs := looseV (k, b)) Try.underlying61 zs68 (by kernel_rfl) rfl rfl rfl (looseV_len hb) (by decide) (by decide) (fun b43 => ?_)
        refine triL_nil ⟨rfl, fun _ _ h => h.tail.sublist (List.Sublist.cons_cons _ (List.Sublist.cons_cons _ (List.nil_sublist _))), ?_⟩
        refine mix_op rfl ?_
        refine o_append (news := looseV (k, b)) Try.underlying61 zsb68 (by kernel_rfl) (by decide) (.s (.s (.s .z))) rfl rfl rfl (RdS.row .z) (looseV_len hb) (looseV_one _) (by unfold maxLen; omega) (by omega) (fun A44 c44 => ?_)
        refine triL_nil ⟨rfl, fun _ _ h => h.tail.sublist (List.Sublist.cons_cons _ (List.Sublist.cons_cons _ (List.nil_sublist _))), ?_⟩
        refine mix_rest [12, 13, 14] [_, _, _] rfl rfl ?_
        refine o_nilCheck rfl rfl ?_
        refine o_field fo63_1 rfl rfl ?_
        refine o_store sz61 (by first | exact Nth.z | exact .s .z | exact .s (.s .z) | exact .s (.s (.s .z)) | exact .s (.s (.s (.s .z))) | exact .s (.s (.s (.s (.s .z)))) | exact .s (.s (.s (.s (.s (.s .z))))) | exact .s (.s (.s (.s (.s (.s (.s .z))))))) rfl rfl rfl rfl rfl (Nat.le_of_ble_eq_true rfl) rfl ?_
        refine triL_nil ⟨rfl, ?_⟩
        refine thenQ_normal ?_
        refine tri_seq ?_
        refine tri_slots [] (.nil _) ?_
        refine tri_region ?_
        refine o_assign rfl rfl ?_
        refine triL_nil ?_
        refine thenQ_normal ?_
        refine tri_ret ?_
        refine end1 rfl rfl ?_
        have e : d.write (k : Int) b = (0, { d1 with w := inc d1.w, cache := d1.cache ++ [(k, b)] }) := by rw [Dk.write, if_neg h0, if_neg (by omega), hd1]; simp [h1, k2, k4]
        exact fin_turn (A44, c44) (by rw [e]) trivial (fun w1 hw => by
          rw [e]
          have e2 := dk_snoc (g := g) (Ak := Ak) (ck := ck) (Ac := A44) (cc := c44) (d := { d1 with w := inc d1.w }) (k, b)
          simp only at e2
          simp only
          rw [e2]
          exact hw.tail)

theorem syncK (g : Nat) (Ak : Option Addr) (ck : Nat) (Ac : Option Addr) (cc : Nat) (d : Dk) (w : World) (hs : Sat ⟨Try.prog, 38, [], w, dkF g Ak Ac⟩ (dkC g Ak ck Ac cc d) w) (hg : d.good) (hm : d.cache.length ≤ 100000) : Calls Try.prog 15 #[.pointer (some ⟨g, 0, none⟩)] w (Turn w (dkF g Ak Ac) (fun _ : Unit => .int .i64 d.syncI.1) (fun _ => dkC g Ak ck Ac cc d.syncI.2) (fun _ => True)) := by
  refine calls_tri (args := [.pointer (some ⟨g, 0, none⟩)]) (lent := dkF g Ak Ac) (H := dkC g Ak ck Ac cc d) Try.func15 rfl Try.ntmps15 rfl hs ?_
  refine (show Tri _ [(0, _)] _ _ _ from ?_)
  refine tri_seq ?_
  refine tri_region ?_
  refine o_assign rfl rfl ?_
  refine triL_nil ?_
  refine thenQ_normal ?_
  refine tri_seq ?_
  refine tri_seq ?_
  refine tri_region ?_
  refine o_move rfl rfl ?_
  refine o_callM [] (dkC g Ak ck Ac cc d) [] (dkF g Ak Ac) rfl rfl rfl rfl Try.call29 dk_lend dk_lend' (fun w1 _ h2 => goesK g Ak ck Ac cc d w1 h2.cx) (fun _ _ => ?_)
  obtain ⟨ok, d1, hd1⟩ : ∃ ok d1, d.goesI = (ok, d1) := ⟨_, _, rfl⟩
  rw [hd1]
  dsimp only
  refine o_not rfl rfl ?_
  refine triL_nil ?_
  refine thenQ_normal ?_
  refine tri_cond rfl (fun h1 => ?_) (fun h1 => ?_)
  · skip
    have h1 : ok = false := by simpa using h1
    refine tri_seq ?_
    refine tri_slots [] (.nil _) ?_
    refine tri_region ?_
    refine o_assign rfl rfl ?_
    refine triL_nil ?_
    refine thenQ_normal ?_
    refine tri_ret ?_
    refine thenQ_ret ?_
    refine end1 rfl rfl ?_
    have e : d.syncI = (8, d1) := by
      rw [Dk.syncI]
      split
      · rename_i e
        rw [Dk.goesI, if_pos e] at hd1
        cases hd1; rfl
      · rename_i e
        rw [Dk.goesI_eq e] at hd1
        rw [Dk.sync, hd1]; simp [h1]
    exact fin_turn () (by rw [e]) trivial (fun w1 hw => by rw [e]; exact hw)
  · skip
    have h1 : ok = true := by simpa using h1
    have hne : d.kept ≠ [] := fun e => by rw [Dk.goesI, if_pos e] at hd1; have h9 := congrArg Prod.fst hd1; simp only at h9; rw [h1] at h9; cases h9
    have hgo : d.goes = (true, d1) := by rw [← Dk.goesI_eq hne, hd1, h1]
    have k1 := d.goes_kept
    have k2 := d.goes_cache
    have k5 := d.goes_s
    rw [hgo] at k1 k2 k5
    simp only at k1 k2 k5
    have hg1 : d1.good := by have := Dk.goes_good hg; rw [hgo] at this; exact this
    have hm1 : d1.cache.length ≤ 100000 := by rw [k2]; exact hm
    refine tri_skip ?_
    refine thenQ_normal ?_
    refine tri_seq ?_
    refine tri_slots [(0, _)] (.cons rfl (.nil _)) ?_
    refine tri_region ?_
    refine o_move rfl rfl ?_
    refine o_nilCheck rfl rfl ?_
    refine o_field fo63_4 rfl rfl ?_
    refine o_field fo47_2 rfl rfl ?_
    refine o_load agg3 (by first | exact Nth.z | exact .s .z | exact .s (.s .z) | exact .s (.s (.s .z)) | exact .s (.s (.s (.s .z))) | exact .s (.s (.s (.s (.s .z)))) | exact .s (.s (.s (.s (.s (.s .z))))) | exact .s (.s (.s (.s (.s (.s (.s .z))))))) rfl rfl rfl ?_
    refine o_add rfl rfl rfl ?_
    refine o_nilCheck rfl rfl ?_
    refine o_field fo63_4 rfl rfl ?_
    refine o_field fo47_2 rfl rfl ?_
    refine o_store sz3 (by first | exact Nth.z | exact .s .z | exact .s (.s .z) | exact .s (.s (.s .z)) | exact .s (.s (.s (.s .z))) | exact .s (.s (.s (.s (.s .z)))) | exact .s (.s (.s (.s (.s (.s .z))))) | exact .s (.s (.s (.s (.s (.s (.s .z))))))) rfl rfl rfl rfl rfl (Nat.le_of_ble_eq_true rfl) rfl ?_
    refine triL_nil ?_
    refine thenQ_normal ?_
    refine tri_seq ?_
    refine tri_seq ?_
    refine tri_slots [(0, _)] (.cons rfl (.nil _)) ?_
    refine tri_region ?_
    refine o_move rfl rfl ?_
    refine o_nilCheck rfl rfl ?_
    refine o_field fo63_1 rfl rfl ?_
    refine o_load agg61 (by first | exact Nth.z | exact .s .z | exact .s (.s .z) | exact .s (.s (.s .z)) | exact .s (.s (.s (.s .z))) | exact .s (.s (.s (.s (.s .z)))) | exact .s (.s (.s (.s (.s (.s .z))))) | exact .s (.s (.s (.s (.s (.s (.s .z))))))) rfl rfl rfl ?_
    refine o_lenS Try.underlying61 rfl rfl ?_
    refine o_move rfl rfl ?_
    refine triL_nil ?_
    refine thenQ_normal ?_
    refine tri_block ?_
    refine tri_loop (ι := Nat × List (List UInt8)) (F := fun q => [(0, .pointer (some ⟨g, 0, none⟩)), (20, .slice Ac d1.cache.length cc), (21, .int .i64 (d1.cache.length : Int)), (22, .int .i64 (q.1 : Int))]) (HH := fun q => (dkC g Ak ck Ac cc { d1 with s := inc d1.s, kept := q.2 })) (Pu := fun q => q.1 ≤ d1.cache.length ∧ q.2.length = d1.kept.length ∧ (∀ s ∈ q.2, s.length = 512) ∧ lay d1.kept d1.cache = lay q.2 (d1.cache.drop q.1)) (μ := fun q => d1.cache.length - q.1) ((0, d1.kept)) (.cons rfl (.cons rfl (.cons rfl (.cons rfl (.nil _))))) (fun _ h => h) (⟨Nat.zero_le _, rfl, hg1.1, rfl⟩) (fun q hi => ?_)
    refine tri_seq ?_
    refine tri_region ?_
    refine o_lss rfl rfl rfl ?_
    refine triL_nil ?_
    refine thenQ_normal ?_
    refine tri_seq ?_
    refine tri_if rfl (fun h2 => ?_) (fun h2 => ?_)
    · skip
      have hgc := getD_cache hg1 (i := q.1) (by omega)
      refine tri_skip ?_
      refine thenQ_normal ?_
      refine tri_seq ?_
      refine tri_block ?_
      refine tri_seq ?_
      refine tri_region ?_
      refine o_idxS Try.underlying61 sz68 rfl rfl rfl (RdS.row (i := 2) (.s (.s .z))) (by omega) (by omega) (by rw [flatV_length hg1.looses]) (by decide) ?_
      refine o_loadRA agg68 sz68 rfl rfl (RdS.row (i := 2) (.s (.s .z))) (flatV_at (l := d1.cache) q.1 (0, []) hg1.looses (by omega)) (looseV_len (getD_cache hg1 (by omega)).2) (by decide) ?_
      refine o_alloc _ rfl zero68 rfl (fun b4 => ?_)
      refine o_storeW sz68 .z rfl rfl rfl rfl (looseV_len (getD_cache hg1 (by omega)).2) (looseV_len List.length_replicate) (looseV_one _) ?_
      refine triL_nil ?_
      refine thenQ_normal ?_
      refine tri_mix (_) [(0, true), (1, true), (2, true), (3, true), (4, true), (5, true), (6, true), (7, true), (8, false), (9, false)] [8, 9] (by kernel_rfl) (by kernel_rfl) (fun _ h => h) ?_
      refine mix_fix rfl ?_
      refine o_move rfl rfl ?_
      refine triL_nil ⟨rfl, ?_⟩
      refine mix_fix rfl ?_
      refine o_nilCheck rfl rfl ?_
      refine triL_nil ⟨rfl, ?_⟩
      refine mix_fix rfl ?_
      refine o_field fo63_0 rfl rfl ?_
      refine triL_nil ⟨rfl, ?_⟩
      refine mix_fix rfl ?_
      refine o_load agg60 (by first | exact Nth.z | exact .s .z | exact .s (.s .z) | exact .s (.s (.s .z)) | exact .s (.s (.s (.s .z))) | exact .s (.s (.s (.s (.s .z)))) | exact .s (.s (.s (.s (.s (.s .z))))) | exact .s (.s (.s (.s (.s (.s (.s .z))))))) rfl rfl rfl ?_
      refine triL_nil ⟨rfl, ?_⟩
      refine mix_fix rfl ?_
      refine o_field fo68_0 rfl rfl ?_
      refine triL_nil ⟨rfl, ?_⟩
      refine mix_fix rfl ?_
      refine o_load agg3 (by first | exact Nth.z | exact .s .z | exact .s (.s .z) | exact .s (.s (.s .z)) | exact .s (.s (.s (.s .z))) | exact .s (.s (.s (.s (.s .z)))) | exact .s (.s (.s (.s (.s (.s .z))))) | exact .s (.s (.s (.s (.s (.s (.s .z))))))) rfl rfl rfl ?_
      refine triL_nil ⟨rfl, ?_⟩
      refine mix_fix rfl ?_
      refine o_field fo68_1 rfl rfl ?_
      refine triL_nil ⟨rfl, ?_⟩
      refine mix_fix rfl ?_
      refine o_loadA agg66 sz66 .z rfl rfl (looseV_to (getD_cache hg1 (by omega)).2) (by rw [bytesV_length]; exact (getD_cache hg1 (by omega)).2) ?_
      refine triL_nil ⟨rfl, ?_⟩
      refine mix_rest [8, 9] [_, _] rfl rfl ?_
      refine o_idxS Try.underlying60 sz66 rfl rfl rfl (RdS.row (i := 2) (.s (.s .z))) (by omega) (by show _ < (q.2.length : Int); omega) (by rw [flatV_length (secs_z hi.2.2.1)]) (by decide) ?_
      refine o_storeRA sz66 (.s (.s .z)) rfl rfl rfl rfl (by rw [bytesV_length]; exact (getD_cache hg1 (by omega)).2) (by decide) (by rw [flatV_length (secs_z hi.2.2.1)]; omega) (allOne_bytes _) ?_
      refine triL_nil ⟨rfl, ?_⟩
      refine blockQ_normal ?_
      refine thenQ_normal ?_
      refine tri_slots [(0, _), (20, _), (21, _), (22, _)] (.cons rfl (.cons rfl (.cons rfl (.cons rfl (.nil _))))) ?_
      refine tri_region ?_
      refine o_addN rfl rfl rfl (by omega) ?_
      refine o_move rfl rfl ?_
      refine triL_nil ?_
      refine thenQ_normal ?_
      exact ⟨(q.1 + 1, q.2.set (d1.cache.getD q.1 (0, [])).1 (d1.cache.getD q.1 (0, [])).2), (.cons rfl (.cons rfl (.cons rfl (.cons rfl (.nil _))))), (fun w1 hw1 => by
  have e2 := dk_set (g := g) (Ak := Ak) (ck := ck) (Ac := Ac) (cc := cc) (d := { d1 with s := inc d1.s }) (d1.cache.getD q.1 (0, [])).1 (d1.cache.getD q.1 (0, [])).2 hi.2.2.1 (getD_cache hg1 (by omega)).2 (by omega)
  simp only at e2 ⊢
  rw [e2]
  exact hw1.tail), ⟨by simp only; omega, by simp only [List.length_set]; exact hi.2.1, set_all hi.2.2.1 _ hgc.2, by rw [hi.2.2.2, lay_drop q.2 (by omega)]⟩, (by simp only; omega)⟩
    · skip
      refine tri_exit ?_
      refine thenQ_exit ?_
      refine thenQ_exit ?_
      refine blockQ_here ?_
      refine thenQ_normal ?_
      refine tri_seq ?_
      refine tri_slots [(0, _)] (.cons rfl (.nil _)) ?_
      refine tri_region ?_
      refine o_move rfl rfl ?_
      refine o_callM [] (dkC g Ak ck Ac cc { d1 with s := inc d1.s, kept := q.2 }) [] (dkF g Ak Ac) rfl rfl rfl rfl Try.call30 dk_lend dk_lend' (fun w1 _ h2 => emptyK g Ak ck Ac cc { d1 with s := inc d1.s, kept := q.2 } w1 h2.cx) (fun _ _ => ?_)
      refine triL_nil ?_
      refine thenQ_normal ?_
      refine tri_seq ?_
      refine tri_region ?_
      refine o_assign rfl rfl ?_
      refine triL_nil ?_
      refine thenQ_normal ?_
      refine tri_ret ?_
      refine end1 rfl rfl ?_
      have hq : q.1 = d1.cache.length := by omega
      have hx := hi.2.2.2
      rw [hq, lay_end, k1, k2] at hx
      have e : d.syncI = (0, { d1 with s := inc d1.s, kept := q.2, cache := [] }) := by
        rw [Dk.syncI, if_neg hne, Dk.sync, hgo, hx]; simp [k5]
      exact fin_turn () (by rw [e]) trivial (fun w1 hw => by rw [e]; exact hw)

theorem cutK (g : Nat) (Ak : Option Addr) (ck : Nat) (Ac : Option Addr) (cc : Nat) (d : Dk) (A : Option Addr) (n c : Nat) (keep : List Bool) (w : World) (hs : Sat ⟨Try.prog, 47, [], w, dkF g Ak Ac⟩ (dkC g Ak ck Ac cc d) w) (hg1 : d.good) (hm : d.cache.length ≤ 100000) (hkp : Keeps w (dkF g Ak Ac) A (boolsV keep)) (hn : keep.length = n) : Calls Try.prog 17 #[.pointer (some ⟨g, 0, none⟩), .slice A n c] w (Turn w (dkF g Ak Ac) (fun _ : Unit => .tuple #[]) (fun _ => dkC g Ak ck Ac cc (d.cutI keep)) (fun _ => True)) := by
  refine calls_tri (args := [.pointer (some ⟨g, 0, none⟩), .slice A n c]) (lent := dkF g Ak Ac) (H := dkC g Ak ck Ac cc d) Try.func17 rfl Try.ntmps17 rfl hs ?_
  refine (show Tri _ [(0, _), (1, _)] _ _ _ from ?_)
  have hR : ∀ cx H, cx.w0 = w → cx.lent = dkF g Ak Ac → RdS cx H A (boolsV keep) := fun cx H h1 h2 => Keeps.rdS (by rw [h1, h2]; exact hkp)
  refine tri_seq ?_
  refine tri_seq ?_
  refine tri_region ?_
  refine o_move rfl rfl ?_
  refine o_callP (first := []) (cap := []) rfl rfl rfl Try.call20 (fun w1 h1 => sectorsK g Ak ck Ac cc d w1 (h1.rd (RdS.box (i := 0) .z))) ?_
  refine o_eqlI rfl rfl rfl ?_
  refine triL_nil ?_
  refine thenQ_normal ?_
  refine tri_if rfl (fun h0 => ?_) (fun h0 => ?_)
  · skip
    have h0 : d.kept = [] := List.eq_nil_of_length_eq_zero (by omega)
    refine tri_ret ?_
    refine thenQ_ret ?_
    refine end0 rfl ?_
    have e : d.cutI keep = d := by rw [Dk.cutI, if_pos h0]
    exact fin_turn () rfl trivial (fun w1 hw => by rw [e]; exact hw)
  · skip
    have hne : d.kept ≠ [] := fun e => h0 (by rw [e]; rfl)
    refine tri_skip ?_
    refine thenQ_normal ?_
    refine tri_seq ?_
    refine tri_seq ?_
    refine tri_region ?_
    refine o_move rfl rfl ?_
    refine o_nilCheck rfl rfl ?_
    refine o_field fo63_1 rfl rfl ?_
    refine o_load agg61 (by first | exact Nth.z | exact .s .z | exact .s (.s .z) | exact .s (.s (.s .z)) | exact .s (.s (.s (.s .z))) | exact .s (.s (.s (.s (.s .z)))) | exact .s (.s (.s (.s (.s (.s .z))))) | exact .s (.s (.s (.s (.s (.s (.s .z))))))) rfl rfl rfl ?_
    refine o_lenS Try.underlying61 rfl rfl ?_
    refine o_move rfl rfl ?_
    refine triL_nil ?_
    refine thenQ_normal ?_
    refine tri_block ?_
    refine tri_loop (ι := Nat × List (List UInt8)) (F := fun q => [(0, .pointer (some ⟨g, 0, none⟩)), (1, .slice A n c), (12, .slice Ac d.cache.length cc), (13, .int .i64 (d.cache.length : Int)), (14, .int .i64 (q.1 : Int))]) (HH := fun q => (dkC g Ak ck Ac cc { d with kept := q.2 })) (Pu := fun q => q.1 ≤ d.cache.length ∧ q.2.length = d.kept.length ∧ (∀ s ∈ q.2, s.length = 512) ∧ layK d.kept d.cache keep = layK q.2 (d.cache.drop q.1) (keep.drop q.1)) (μ := fun q => d.cache.length - q.1) ((0, d.kept)) (.cons rfl (.cons rfl (.cons rfl (.cons rfl (.cons rfl (.nil _)))))) (fun _ h => h) (⟨Nat.zero_le _, rfl, hg1.1, rfl⟩) (fun q hi => ?_)
    refine tri_seq ?_
    refine tri_region ?_
    refine o_lss rfl rfl rfl ?_
    refine triL_nil ?_
    refine thenQ_normal ?_
    refine tri_seq ?_
    refine tri_if rfl (fun h2 => ?_) (fun h2 => ?_)
    · skip
      have hgc := getD_cache hg1 (i := q.1) (by omega)
      refine tri_skip ?_
      refine thenQ_normal ?_
      refine tri_seq ?_
      refine tri_block ?_
      refine tri_seq ?_
      refine tri_region ?_
      refine o_move rfl rfl ?_
      refine o_idxS Try.underlying61 sz68 rfl rfl rfl (RdS.row (i := 2) (.s (.s .z))) (by omega) (by omega) (by rw [flatV_length hg1.looses]) (by decide) ?_
      refine o_loadRA agg68 sz68 rfl rfl (RdS.row (i := 2) (.s (.s .z))) (flatV_at (l := d.cache) q.1 (0, []) hg1.looses (by omega)) (looseV_len (getD_cache hg1 (by omega)).2) (by decide) ?_
      refine o_alloc _ rfl zero68 rfl (fun b5 => ?_)
      refine o_assign rfl rfl ?_
      refine o_storeW sz68 .z rfl rfl rfl rfl (looseV_len (getD_cache hg1 (by omega)).2) (looseV_len List.length_replicate) (looseV_one _) ?_
      refine triL_nil ?_
      refine thenQ_normal ?_
      refine tri_seq ?_
      refine tri_slots [(4, _), (5, _), (0, _), (1, _), (12, _), (13, _), (14, _)] (.cons rfl (.cons rfl (.cons rfl (.cons rfl (.cons rfl (.cons rfl (.cons rfl (.nil _)))))))) ?_
      refine tri_region ?_
      refine o_move rfl rfl ?_
      refine o_move rfl rfl ?_
      refine o_lenS Try.underlying23 rfl rfl ?_
      refine o_lss rfl rfl rfl ?_
      refine o_move rfl rfl ?_
      refine' triL_and [_, _, _, _] [(5, _), (0, _), (1, _), (12, _), (13, _), (14, _)] (dj := 23) (dr := 27) rfl rfl (fun g1 => ?_) ⟨_, rfl, rfl, rfl, (.cons rfl (.cons rfl (.cons rfl (.cons rfl (.cons rfl (.cons rfl (.nil _)))))))⟩ rfl ?_
      rotate_left
      · skip
        have g1 := of_decide_eq_true g1
        refine o_move rfl rfl ?_
        refine o_move rfl rfl ?_
        refine o_idxS Try.underlying23 sz4 rfl rfl rfl (hR _ _ rfl rfl) (by omega) (by omega) (by rw [boolsV_length]; omega) (by decide) ?_
        refine o_loadR agg4 rfl rfl (hR _ _ rfl rfl) (boolsV_get keep q.1 (by omega)) ?_
        exact triL_nil (Piece.mk rfl rfl (.cons rfl (.cons rfl (.cons rfl (.cons rfl (.cons rfl (.cons rfl (.nil _))))))) (fun _ h => h))
      refine triL_nil ?_
      refine thenQ_normal ?_
      refine tri_cond rfl (fun h3 => ?_) (fun h3 => ?_)
      · skip
        have h3 : keep.getD q.1 false = true := by simp only [Bool.and_eq_true] at h3; exact h3.2
        refine tri_mix (_) [(0, true), (1, true), (2, true), (3, true), (4, true), (5, true), (6, true), (7, true), (8, false), (9, false)] [8, 9] (by kernel_rfl) (by kernel_rfl) (fun _ h => h) ?_
        refine mix_fix rfl ?_
        refine o_move rfl rfl ?_
        refine triL_nil ⟨rfl, ?_⟩
        refine mix_fix rfl ?_
        refine o_nilCheck rfl rfl ?_
        refine triL_nil ⟨rfl, ?_⟩
        refine mix_fix rfl ?_
        refine o_field fo63_0 rfl rfl ?_
        refine triL_nil ⟨rfl, ?_⟩
        refine mix_fix rfl ?_
        refine o_load agg60 (by first | exact Nth.z | exact .s .z | exact .s (.s .z) | exact .s (.s (.s .z)) | exact .s (.s (.s (.s .z))) | exact .s (.s (.s (.s (.s .z)))) | exact .s (.s (.s (.s (.s (.s .z))))) | exact .s (.s (.s (.s (.s (.s (.s .z))))))) rfl rfl rfl ?_
        refine triL_nil ⟨rfl, ?_⟩
        refine mix_fix rfl ?_
        refine o_field fo68_0 rfl rfl ?_
        refine triL_nil ⟨rfl, ?_⟩
        refine mix_fix rfl ?_
        refine o_load agg3 (by first | exact Nth.z | exact .s .z | exact .s (.s .z) | exact .s (.s (.s .z)) | exact .s (.s (.s (.s .z))) | exact .s (.s (.s (.s (.s .z)))) | exact .s (.s (.s (.s (.s (.s .z))))) | exact .s (.s (.s (.s (.s (.s (.s .z))))))) rfl rfl rfl ?_
        refine triL_nil ⟨rfl, ?_⟩
        refine mix_fix rfl ?_
        refine o_field fo68_1 rfl rfl ?_
        refine triL_nil ⟨rfl, ?_⟩
        refine mix_fix rfl ?_
        refine o_loadA agg66 sz66 .z rfl rfl (looseV_to (getD_cache hg1 (by omega)).2) (by rw [bytesV_length]; exact (getD_cache hg1 (by omega)).2) ?_
        refine triL_nil ⟨rfl, ?_⟩
        refine mix_rest [8, 9] [_, _] rfl rfl ?_
        refine o_idxS Try.underlying60 sz66 rfl rfl rfl (RdS.row (i := 2) (.s (.s .z))) (by omega) (by show _ < (q.2.length : Int); omega) (by rw [flatV_length (secs_z hi.2.2.1)]) (by decide) ?_
        refine o_storeRA sz66 (.s (.s .z)) rfl rfl rfl rfl (by rw [bytesV_length]; exact (getD_cache hg1 (by omega)).2) (by decide) (by rw [flatV_length (secs_z hi.2.2.1)]; omega) (allOne_bytes _) ?_
        refine triL_nil ⟨rfl, ?_⟩
        refine blockQ_normal ?_
        refine thenQ_normal ?_
        refine tri_slots [(0, _), (1, _), (12, _), (13, _), (14, _)] (.cons rfl (.cons rfl (.cons rfl (.cons rfl (.cons rfl (.nil _)))))) ?_
        refine tri_region ?_
        refine o_addN rfl rfl rfl (by omega) ?_
        refine o_move rfl rfl ?_
        refine triL_nil ?_
        refine thenQ_normal ?_
        exact ⟨(q.1 + 1, q.2.set (d.cache.getD q.1 (0, [])).1 (d.cache.getD q.1 (0, [])).2), (.cons rfl (.cons rfl (.cons rfl (.cons rfl (.cons rfl (.nil _)))))), (fun w1 hw1 => by
  have e2 := dk_set (g := g) (Ak := Ak) (ck := ck) (Ac := Ac) (cc := cc) (d := d) (d.cache.getD q.1 (0, [])).1 (d.cache.getD q.1 (0, [])).2 hi.2.2.1 (getD_cache hg1 (by omega)).2 (by omega)
  simp only at e2 ⊢
  rw [e2]
  exact hw1.tail), ⟨by simp only; omega, by simp only [List.length_set]; exact hi.2.1, set_all hi.2.2.1 _ hgc.2, by rw [hi.2.2.2, layK_drop q.2 keep (by omega), if_pos h3]⟩, (by simp only; omega)⟩
      · skip
        have h3 : keep.getD q.1 false = false := by
          simp only [Bool.and_eq_false_iff, decide_eq_false_iff_not] at h3
          rcases h3 with h3 | h3
          · simp [List.getD, List.getElem?_eq_none (show keep.length ≤ q.1 by omega)]
          · exact h3
        refine tri_skip ?_
        refine blockQ_normal ?_
        refine thenQ_normal ?_
        refine tri_region ?_
        refine o_addN rfl rfl rfl (by omega) ?_
        refine o_move rfl rfl ?_
        refine triL_nil ?_
        refine thenQ_normal ?_
        exact ⟨(q.1 + 1, q.2), (.cons rfl (.cons rfl (.cons rfl (.cons rfl (.cons rfl (.nil _)))))), (fun w1 hw1 => hw1.tail), ⟨by simp only; omega, hi.2.1, hi.2.2.1, by rw [hi.2.2.2, layK_drop q.2 keep (by omega), if_neg (by rw [h3]; simp)]⟩, (by simp only; omega)⟩
    · skip
      refine tri_exit ?_
      refine thenQ_exit ?_
      refine thenQ_exit ?_
      refine blockQ_here ?_
      refine thenQ_normal ?_
      refine tri_seq ?_
      refine tri_slots [(0, _)] (.cons rfl (.nil _)) ?_
      refine tri_region ?_
      refine o_move rfl rfl ?_
      refine o_callM [] (dkC g Ak ck Ac cc { d with kept := q.2 }) [] (dkF g Ak Ac) rfl rfl rfl rfl Try.call30 dk_lend dk_lend' (fun w1 _ h2 => emptyK g Ak ck Ac cc { d with kept := q.2 } w1 h2.cx) (fun _ _ => ?_)
      refine triL_nil ?_
      refine thenQ_normal ?_
      refine tri_region ?_
      refine o_move rfl rfl ?_
      refine o_move rfl rfl ?_
      refine o_nilCheck rfl rfl ?_
      refine o_field fo63_3 rfl rfl ?_
      refine o_store sz4 (by first | exact Nth.z | exact .s .z | exact .s (.s .z) | exact .s (.s (.s .z)) | exact .s (.s (.s (.s .z))) | exact .s (.s (.s (.s (.s .z)))) | exact .s (.s (.s (.s (.s (.s .z))))) | exact .s (.s (.s (.s (.s (.s (.s .z))))))) rfl rfl rfl rfl rfl (Nat.le_of_ble_eq_true rfl) rfl ?_
      refine o_nilCheck rfl rfl ?_
      refine o_field fo63_2 rfl rfl ?_
      refine o_store sz3 (by first | exact Nth.z | exact .s .z | exact .s (.s .z) | exact .s (.s (.s .z)) | exact .s (.s (.s (.s .z))) | exact .s (.s (.s (.s (.s .z)))) | exact .s (.s (.s (.s (.s (.s .z))))) | exact .s (.s (.s (.s (.s (.s (.s .z))))))) rfl rfl rfl rfl rfl (Nat.le_of_ble_eq_true rfl) rfl ?_
      refine triL_nil ?_
      refine end0n rfl ?_
      have hq : q.1 = d.cache.length := by omega
      have hx := hi.2.2.2
      rw [hq, layK_end] at hx
      have e : d.cutI keep = { d with kept := q.2, cache := [], dark := false, trip := -1 } := by rw [Dk.cutI, if_neg hne, Dk.cut, hx]
      exact fin_turn () rfl trivial (fun w1 hw => by rw [e]; exact hw)

end Go.Proofs.Ytpnccaddbjbfhaa
