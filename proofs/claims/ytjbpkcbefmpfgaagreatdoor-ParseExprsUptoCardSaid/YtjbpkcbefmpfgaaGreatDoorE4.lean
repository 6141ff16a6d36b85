/- Parts of the proof, joined: Pk4, PLib, Pk5, Pk6, Pk7, Vk, Rk1, Rk2, Rk3. -/
import Derived.Test.YtjbpkcbefmpfgaaGreatDoorE3
import Derived.Lib.ItoaMem
import Derived.Lib.AppendIntMem
import Derived.Shelf.Strconv.AtoiAll
import Derived.KernelRfl
namespace Go.Proofs.YtjbpkcbefmpfgaaGreatDoor
open Go.WK Go.RowKit 
theorem built30  : Tryz.prog.built 30 [] = some ([.int .i64 0, .int .i64 0, .int .i64 0, .string .empty, .string .empty, .string .empty, .int .i64 0, .slice none 0 0] : List Value).toArray := by kernel_rfl
theorem zero87 : (Tryz.prog.info? 87).map (·.zero) = some (some (.agg #[.string .empty, .string .empty, .int .i64 0, .int .i64 0, .int .i64 0, .string .empty, .string .empty, .string .empty, .int .i64 0, .slice none 0 0])) := by kernel_rfl
theorem built87_0 (x0 : ByteArray) : Tryz.prog.built 87 [(0, .string x0)] = some ([.string x0, .string .empty, .int .i64 0, .int .i64 0, .int .i64 0, .string .empty, .string .empty, .string .empty, .int .i64 0, .slice none 0 0] : List Value).toArray := by kernel_rfl
theorem sz87 : szB Tryz.prog 87 = some 10 := by kernel_rfl
theorem fo87_1 : fieldB Tryz.prog 87 1 = some 1 := by kernel_rfl
theorem agg87 : aggB Tryz.prog 87 = some true := by kernel_rfl
theorem agg140 : aggB Tryz.prog 140 = some false := by kernel_rfl
theorem built53_0 (x0_0 : Int) (x0_1 : Int) (x0_2 : Int) (x0_3 : ByteArray) (x0_4 : ByteArray) (x0_5 : ByteArray) (x0_6 : Int) (A0_7 : Option Addr) (n0_7 c0_7 : Nat) : Tryz.prog.built 53 [(0, .agg (([.int .i64 x0_0, .int .i64 x0_1, .int .i64 x0_2, .string x0_3, .string x0_4, .string x0_5, .int .i64 x0_6, .slice A0_7 n0_7 c0_7] : List Value)).toArray)] = some ([.int .i64 x0_0, .int .i64 x0_1, .int .i64 x0_2, .string x0_3, .string x0_4, .string x0_5, .int .i64 x0_6, .slice A0_7 n0_7 c0_7, .string .empty] : List Value).toArray := by kernel_rfl
theorem zero53 : (Tryz.prog.info? 53).map (·.zero) = some (some (.agg #[.int .i64 0, .int .i64 0, .int .i64 0, .string .empty, .string .empty, .string .empty, .int .i64 0, .slice none 0 0, .string .empty])) := by kernel_rfl
theorem sz53 : szB Tryz.prog 53 = some 9 := by kernel_rfl
theorem fo53_1 : fieldB Tryz.prog 53 1 = some 8 := by kernel_rfl
theorem fo35_2 : fieldB Tryz.prog 35 2 = some 2 := by kernel_rfl
theorem agg31 : aggB Tryz.prog 31 = some false := by kernel_rfl
theorem agg53 : aggB Tryz.prog 53 = some true := by kernel_rfl
theorem zs53 : (Tryz.prog.info? 53).map (fun i => (i.zero, i.size)) = some (some (.agg #[.int .i64 0, .int .i64 0, .int .i64 0, .string .empty, .string .empty, .string .empty, .int .i64 0, .slice none 0 0, .string .empty]), 9) := by kernel_rfl
theorem zsb53 : (Tryz.prog.info? 53).map (fun i => (i.zero, i.size, i.bytes)) = some (some (.agg #[.int .i64 0, .int .i64 0, .int .i64 0, .string .empty, .string .empty, .string .empty, .int .i64 0, .slice none 0 0, .string .empty]), 9, 120) := by kernel_rfl
theorem sz31 : szB Tryz.prog 31 = some 1 := by kernel_rfl
theorem built121_0 (x0 : ByteArray) : Tryz.prog.built 121 [(0, .string x0)] = some ([.string x0, .bool false] : List Value).toArray := by kernel_rfl
theorem zero121 : (Tryz.prog.info? 121).map (·.zero) = some (some (.agg #[.string .empty, .bool false])) := by kernel_rfl
theorem sz121 : szB Tryz.prog 121 = some 2 := by kernel_rfl
theorem fo121_1 : fieldB Tryz.prog 121 1 = some 1 := by kernel_rfl
theorem sz4 : szB Tryz.prog 4 = some 1 := by kernel_rfl
theorem fo35_5 : fieldB Tryz.prog 35 5 = some 12 := by kernel_rfl
theorem agg33 : aggB Tryz.prog 33 = some false := by kernel_rfl
theorem agg121 : aggB Tryz.prog 121 = some true := by kernel_rfl
theorem zs121 : (Tryz.prog.info? 121).map (fun i => (i.zero, i.size)) = some (some (.agg #[.string .empty, .bool false]), 2) := by kernel_rfl
theorem zsb121 : (Tryz.prog.info? 121).map (fun i => (i.zero, i.size, i.bytes)) = some (some (.agg #[.string .empty, .bool false]), 2, 24) := by kernel_rfl
theorem sz33 : szB Tryz.prog 33 = some 1 := by kernel_rfl
theorem whereK (f : Nat) (pb : Nat) (a : Addr) (k0 : Nat) (T ts : List Tok) (d : Nat) (w : World) (hA : At w pb a k0 T ts d) (hf : 8 * ts.length ≤ f) : Calls Tryz.prog 95 #[.pointer (some ⟨pb, 0, none⟩)] w (XT w pb a k0 T d (whereP f d ts)) := by
  refine calls_tri (args := [.pointer (some ⟨pb, 0, none⟩)]) (lent := [pb]) (H := [pC pb a k0 T ts d]) Tryz.func95 rfl Tryz.ntmps95 rfl hA.sat.cx ?_; refine (show Tri _ [(0, _)] _ _ _ from ?_)
  have hto := hd_ok hA.env hA.suf hA.good
  have hR := hA.env.rds ts hA.suf
  have hl := hA.good.ne
  have hle := hA.suf.length_le
  have hlk := hA.env.len
  have hbn := hA.env.bnd
  have hdp := hA.dep
  refine tri_seq (tri_region ?_); refine o_alloc _ rfl zero30 rfl (fun b2 => ?_); refine triL_nilN ?_; refine tri_seq ?_; refine tri_seq (tri_region ?_); refine o_move rfl rfl ?_; refine o_callN (first := []) (cap := []) [pb] (by repeat (first | exact Nth.z | apply Nth.s)) rfl rfl rfl Tryz.call90 lend_box lend_box' (fun w1 h1 h2 => wordP whereB pb a k0 T ts d w1 (hA.sub h1.chg (Cuts.refl hA.good) hA.dep h2)) (fun ch hF => hF.elim) (fun u_ hu_ => ?_); refine triL_nilN ?_; refine tri_cond rfl (fun h0 => ?_) (fun h0 => ?_)
  · skip
    have hcu := cuts_one (Cuts.refl hA.good) (by decide) h0
    have hlt := hA.good.lt
    rw [if_pos h0]
    refine tri_seq (tri_region ?_); refine o_move rfl rfl ?_; refine o_callN (first := []) (cap := []) [pb] (by repeat (first | exact Nth.z | apply Nth.s)) rfl rfl rfl Tryz.call100 lend_box lend_box' (fun w1 h1 h2 => (xall f).l1 pb a k0 T (ts.drop 1) d w1 (hA.sub h1.chg hcu hA.dep h2) (by omega)) (fun ch ⟨x, hx1, hx2⟩ => fin_panic ⟨x, by rw [whereP, if_pos h0]; exact hx1, hx2⟩) (fun j hj => ?_); refine o_storeX rfl hj.2 sz30 (by repeat (first | exact Nth.z | apply Nth.s)) rfl rfl rfl ?_; refine triL_nilN ?_; refine tri_ret ?_; refine thenQ_ret ?_; refine endC1 rfl agg30 sz30 (by repeat (first | exact Nth.z | apply Nth.s)) rfl hj.2.len ?_
    exact fin_pturn (J := XR) j rfl ⟨by rw [whereP, if_pos h0]; exact hj.1, hj.2⟩ (fun w2 hw2 => hw2.sel [2, 0] (by decide))
  · skip
    rw [if_neg (ne_t h0)]
    refine tri_skip ?_; refine thenQ_normal ?_; refine tri_seq (tri_region ?_); refine o_build built30 rfl rfl ?_; refine o_storeX rfl ⟨rfl, rfl⟩ sz30 (by repeat (first | exact Nth.z | apply Nth.s)) rfl rfl rfl ?_; refine triL_nilN ?_; refine tri_ret ?_; refine endC1 rfl agg30 sz30 (by repeat (first | exact Nth.z | apply Nth.s)) rfl rfl ?_
    exact fin_pturn (J := XR) ⟨Ex.zero, ts, [], _⟩ rfl ⟨by rw [whereP, if_neg (by rw [h0]; decide)], ⟨rfl, rfl⟩⟩ (fun w2 hw2 => (hw2.leaf 0 Val.zero [] [] 0).sel [2, 0] (by decide))
theorem beginsP (pb : Nat) (a : Addr) (k0 : Nat) (T ts : List Tok) (d : Nat) (w : World) (hA : At w pb a k0 T ts d) : Calls Tryz.prog 137 #[.pointer (some ⟨pb, 0, none⟩)] w (PTurn w [pb] (fun _ : Unit => .bool (begT ts)) (fun _ => [pC pb a k0 T (ts) (d)]) (fun _ => True) (fun _ => False)) := by
  refine calls_tri (args := [.pointer (some ⟨pb, 0, none⟩)]) (lent := [pb]) (H := [pC pb a k0 T ts d]) Tryz.func137 rfl Tryz.ntmps137 rfl hA.sat.cx ?_; refine (show Tri _ [(0, _)] _ _ _ from ?_)
  have hto := hd_ok hA.env hA.suf hA.good
  have hR := hA.env.rds ts hA.suf
  have hl := hA.good.ne
  have hle := hA.suf.length_le
  have hlk := hA.env.len
  have hbn := hA.env.bnd
  have hdp := hA.dep
  refine tri_seq (tri_region ?_); refine o_assignN rfl rfl ?_; refine tri_seq (tri_region ?_); refine o_move rfl rfl ?_; refine o_nilCheck rfl rfl ?_; refine o_field fo96_0 rfl rfl ?_; refine o_load agg58 (by repeat (first | exact Nth.z | apply Nth.s)) rfl rfl rfl ?_; refine o_idxS Tryz.underlying58 sz62 rfl rfl rfl (hR _ _ rfl rfl) (by omega) (by omega) (toksV_length _) (by decide) ?_; refine o_loadTk 0 agg62 sz62 rfl rfl (hR _ _ rfl rfl) (by omega) (by omega) ?_; refine o_alloc (Tok.cs Tok.zero) rfl zero62 rfl (fun b3 => ?_); refine o_storeBTk sz62 (by repeat (first | exact Nth.z | apply Nth.s)) rfl rfl rfl ?_; refine triL_nilN ?_; refine tri_seq ?_; refine tri_seq ?_; refine tri_slots [(3, _), (0, _)] (.cons rfl (.cons rfl (.nil _))) ?_; refine tri_region ?_; refine o_field fo62_0 rfl rfl ?_; refine o_load agg3 (by repeat (first | exact Nth.z | apply Nth.s)) rfl rfl rfl ?_; refine triL_nilN ?_; refine tri_block ?_; refine tri_seq ?_; refine tri_seq (tri_region ?_); refine o_eqlI rfl rfl rfl ?_; refine o_assignN rfl rfl ?_; refine tri_if rfl (fun h0 => ?_) (fun h0 => ?_)
  · skip
    have h0 : (hd ts).k = 2 := h0
    refine tri_skip ?_; refine thenQ_normal ?_; refine tri_cond_true (congrArg (fun b => some (Value.bool b)) (decide_eq_true h0)) ?_; refine tri_seq ?_; refine tri_slots [] (.nil _) ?_; refine tri_region ?_; refine o_assignN rfl rfl ?_; refine tri_ret ?_; refine blockQ_ret ?_; refine thenQ_ret ?_; refine end1 rfl rfl ?_
    exact fin_pturn () (by rw [begT_1 (.inl h0)]) (trivial) (fun w2 hw2 => hw2.sel [1] (by decide))
  · skip
    have h0 : ¬ (hd ts).k = 2 := h0
    refine tri_region ?_; refine o_eqlI rfl rfl rfl ?_; refine o_assignN rfl rfl ?_; refine tri_if rfl (fun h2 => ?_) (fun h2 => ?_)
    · skip
      have h2 : (hd ts).k = 3 := h2
      refine tri_seq ?_; refine tri_slots [] (.nil _) ?_; refine tri_region ?_; refine o_assignN rfl rfl ?_; refine tri_ret ?_; refine blockQ_ret ?_; refine thenQ_ret ?_; refine end1 rfl rfl ?_
      exact fin_pturn () (by rw [begT_1 (.inr h2)]) (trivial) (fun w2 hw2 => hw2.sel [1] (by decide))
    · skip
      have h2 : ¬ (hd ts).k = 3 := h2
      refine tri_seq ?_; refine tri_slots [(11, _), (3, _), (0, _)] (.cons rfl (.cons rfl (.cons rfl (.nil _)))) ?_; refine tri_region ?_; refine o_eqlI rfl rfl rfl ?_; refine o_assignN rfl rfl ?_; refine tri_if rfl (fun h3 => ?_) (fun h3 => ?_)
      · skip
        have h3 : (hd ts).k = 4 := h3
        refine tri_seq ?_; refine tri_slots [(3, _)] (.cons rfl (.nil _)) ?_; refine tri_region ?_; refine o_field fo62_1 rfl rfl ?_; refine o_load agg9 (by repeat (first | exact Nth.z | apply Nth.s)) rfl rfl rfl ?_; refine o_eqlT rfl rfl rfl ?_; refine o_move rfl rfl ?_
        refine' triL_or [_, _, _] [] (dj := 20) (dr := 23) rfl rfl (fun g1 => ?_) ⟨_, rfl, rfl, rfl, (.nil _)⟩ rfl ?_
        rotate_left
        · skip
          refine o_field fo62_1 rfl rfl ?_; refine o_load agg9 (by repeat (first | exact Nth.z | apply Nth.s)) rfl rfl rfl ?_; refine o_eqlT rfl rfl rfl ?_
          exact triL_nil (Piece.mk rfl rfl (.nil _) (fun _ h => h))
        refine o_assignN rfl rfl ?_; refine tri_ret ?_; refine blockQ_ret ?_; refine thenQ_ret ?_; refine end1 rfl rfl ?_
        exact fin_pturn () (by rw [begT_2 h3]; rfl) (trivial) (fun w2 hw2 => hw2.sel [1] (by decide))
      · skip
        have h3 : ¬ (hd ts).k = 4 := h3
        refine tri_seq (tri_region ?_); refine o_eqlI rfl rfl rfl ?_; refine o_assignN rfl rfl ?_; refine tri_if rfl (fun h4 => ?_) (fun h4 => ?_)
        · skip
          have h4 : (hd ts).k = 1 := h4
          refine tri_seq ?_; refine tri_seq ?_; refine tri_slots [(3, _), (0, _)] (.cons rfl (.cons rfl (.nil _))) ?_; refine tri_region ?_; refine o_field fo62_1 rfl rfl ?_; refine o_load agg9 (by repeat (first | exact Nth.z | apply Nth.s)) rfl rfl rfl ?_; refine triL_nilN ?_; refine tri_block ?_; refine tri_seq ?_; refine tri_seq (tri_region ?_); refine o_eqlT rfl rfl rfl ?_; refine o_assignN rfl rfl ?_; refine tri_if rfl (fun h5 => ?_) (fun h5 => ?_)
          · skip
            have h5 : (hd ts).t = nullB := h5
            refine tri_skip ?_; refine thenQ_normal ?_; refine tri_cond_true (congrArg (fun b => some (Value.bool b)) (decide_eq_true h5)) ?_; refine tri_seq ?_; refine tri_slots [] (.nil _) ?_; refine tri_region ?_; refine o_assignN rfl rfl ?_; refine tri_ret ?_; refine blockQ_ret ?_; refine thenQ_ret ?_; refine blockQ_ret ?_; refine thenQ_ret ?_; refine end1 rfl rfl ?_
            exact fin_pturn () (by rw [begT_3 h4 (.inl h5)]) (trivial) (fun w2 hw2 => hw2.sel [1] (by decide))
          · skip
            have h5 : ¬ (hd ts).t = nullB := h5
            refine tri_seq ?_; refine tri_slots [(28, _), (0, _)] (.cons rfl (.cons rfl (.nil _))) ?_; refine tri_region ?_; refine o_eqlT rfl rfl rfl ?_; refine o_assignN rfl rfl ?_; refine tri_if rfl (fun h7 => ?_) (fun h7 => ?_)
            · skip
              have h7 : (hd ts).t = trueB := h7
              refine tri_skip ?_; refine thenQ_normal ?_; refine tri_cond_true (congrArg (fun b => some (Value.bool b)) (decide_eq_true h7)) ?_; refine tri_seq ?_; refine tri_slots [] (.nil _) ?_; refine tri_region ?_; refine o_assignN rfl rfl ?_; refine tri_ret ?_; refine blockQ_ret ?_; refine thenQ_ret ?_; refine blockQ_ret ?_; refine thenQ_ret ?_; refine end1 rfl rfl ?_
              exact fin_pturn () (by rw [begT_3 h4 (.inr (.inl h7))]) (trivial) (fun w2 hw2 => hw2.sel [1] (by decide))
            · skip
              have h7 : ¬ (hd ts).t = trueB := h7
              refine tri_seq (tri_region ?_); refine o_eqlT rfl rfl rfl ?_; refine o_assignN rfl rfl ?_; refine tri_if rfl (fun h9 => ?_) (fun h9 => ?_)
              · skip
                have h9 : (hd ts).t = falseB := h9
                refine tri_skip ?_; refine thenQ_normal ?_; refine tri_cond_true (congrArg (fun b => some (Value.bool b)) (decide_eq_true h9)) ?_; refine tri_seq ?_; refine tri_slots [] (.nil _) ?_; refine tri_region ?_; refine o_assignN rfl rfl ?_; refine tri_ret ?_; refine blockQ_ret ?_; refine thenQ_ret ?_; refine blockQ_ret ?_; refine thenQ_ret ?_; refine end1 rfl rfl ?_
                exact fin_pturn () (by rw [begT_3 h4 (.inr (.inr (.inl h9)))]) (trivial) (fun w2 hw2 => hw2.sel [1] (by decide))
              · skip
                have h9 : ¬ (hd ts).t = falseB := h9
                refine tri_region ?_; refine o_eqlT rfl rfl rfl ?_; refine o_assignN rfl rfl ?_; refine tri_if rfl (fun h11 => ?_) (fun h11 => ?_)
                · skip
                  have h11 : (hd ts).t = notB := h11
                  refine tri_seq ?_; refine tri_slots [] (.nil _) ?_; refine tri_region ?_; refine o_assignN rfl rfl ?_; refine tri_ret ?_; refine blockQ_ret ?_; refine thenQ_ret ?_; refine blockQ_ret ?_; refine thenQ_ret ?_; refine end1 rfl rfl ?_
                  exact fin_pturn () (by rw [begT_3 h4 (.inr (.inr (.inr h11)))]) (trivial) (fun w2 hw2 => hw2.sel [1] (by decide))
                · skip
                  have h11 : ¬ (hd ts).t = notB := h11
                  refine tri_skip ?_; refine blockQ_normal ?_; refine thenQ_normal ?_; refine tri_seq ?_; refine tri_slots [(0, _)] (.cons rfl (.nil _)) ?_; refine tri_region ?_; refine o_move rfl rfl ?_; refine o_callN (first := []) (cap := []) [pb] (by repeat (first | exact Nth.z | apply Nth.s)) rfl rfl rfl Tryz.call97 lend_box lend_box' (fun w1 h1 h2 => namedP pb a k0 T ts d w1 (hA.sub h1.chg (Cuts.refl hA.good) hA.dep h2)) (fun ch hF => hF.elim) (fun u_ hu_ => ?_); refine o_assignN rfl rfl ?_; refine tri_ret ?_; refine blockQ_ret ?_; refine thenQ_ret ?_; refine end1 rfl rfl ?_
                  exact fin_pturn () (by rw [begT_4 h4 (by rintro (e | e | e | e); exact h5 e; exact h7 e; exact h9 e; exact h11 e)]) (trivial) (fun w2 hw2 => hw2.sel [1] (by decide))
        · skip
          have h4 : ¬ (hd ts).k = 1 := h4
          refine tri_skip ?_; refine blockQ_normal ?_; refine thenQ_normal ?_; refine tri_seq ?_; refine tri_slots [] (.nil _) ?_; refine tri_region ?_; refine o_assignN rfl rfl ?_; refine tri_ret ?_; refine end1 rfl rfl ?_
          exact fin_pturn () (by rw [begT_5 h0 h2 h3 h4]) (trivial) (fun w2 hw2 => hw2.sel [1] (by decide))
theorem sourceK (pb : Nat) (a : Addr) (k0 : Nat) (T ts : List Tok) (d : Nat) (w : World) (hA : At w pb a k0 T ts d) : Calls Tryz.prog 143 #[.pointer (some ⟨pb, 0, none⟩)] w (PTurn w [pb] (fun j : (List UInt8 × List UInt8) × List Tok => .agg ([.string (B j.1.1), .string (B j.1.2), .int .i64 0, .int .i64 0, .int .i64 0, .string .empty, .string .empty, .string .empty, .int .i64 0, .slice none 0 0] : List Value).toArray) (fun j => [pC pb a k0 T j.2 d]) (fun j => srcP ts = .ok j) (fun ch => ∃ x, srcP ts = .error x ∧ ch = stopCh x)) := by
  refine calls_tri (args := [.pointer (some ⟨pb, 0, none⟩)]) (lent := [pb]) (H := [pC pb a k0 T ts d]) Tryz.func143 rfl Tryz.ntmps143 rfl hA.sat.cx ?_; refine (show Tri _ [(0, _)] _ _ _ from ?_)
  have hto := hd_ok hA.env hA.suf hA.good
  have hR := hA.env.rds ts hA.suf
  have hl := hA.good.ne
  have hle := hA.suf.length_le
  have hlk := hA.env.len
  have hbn := hA.env.bnd
  have hdp := hA.dep
  refine tri_seq (tri_region ?_); refine o_alloc _ rfl zero87 rfl (fun b2 => ?_); refine triL_nilN ?_; refine tri_seq (tri_region ?_); refine o_move rfl rfl ?_; refine o_callN (first := []) (cap := []) [pb] (by repeat (first | exact Nth.z | apply Nth.s)) rfl rfl rfl Tryz.call92 lend_box lend_box' (fun w1 h1 h2 => nameP_ pb a k0 T ts d w1 (hA.sub h1.chg (Cuts.refl hA.good) hA.dep h2)) (fun ch ⟨hn1, hn2⟩ => fin_panic ⟨_, src_bad hn1, hn2⟩) (fun u_ hn => ?_); refine o_build (built87_0 _) rfl rfl ?_; refine o_alloc _ rfl zero87 rfl (fun b3 => ?_); refine o_store sz87 (by repeat (first | exact Nth.z | apply Nth.s)) rfl rfl rfl rfl rfl (Nat.le_of_ble_eq_true rfl) rfl ?_; refine triL_nilN ?_; refine tri_seq ?_; refine tri_seq ?_
  have hcu : Cuts ts (ts.drop 1) := ⟨List.drop_suffix 1 ts, hA.good.name hn⟩
  refine tri_region ?_; refine o_move rfl rfl ?_; refine o_callN (first := []) (cap := []) [pb] (by repeat (first | exact Nth.z | apply Nth.s)) rfl rfl rfl Tryz.call90 lend_box lend_box' (fun w1 h1 h2 => wordP asB pb a k0 T (ts.drop 1) d w1 (hA.sub h1.chg hcu hA.dep h2)) (fun ch hF => hF.elim) (fun u_ hu_ => ?_); refine triL_nilN ?_; refine tri_cond rfl (fun h0 => ?_) (fun h0 => ?_)
  · skip
    refine tri_slots [(3, _), (2, _), (0, _)] (.cons rfl (.cons rfl (.cons rfl (.nil _)))) ?_
    rw [if_pos h0]
    refine tri_region ?_; refine o_move rfl rfl ?_; refine o_callN (first := []) (cap := []) [pb] (by repeat (first | exact Nth.z | apply Nth.s)) rfl rfl rfl Tryz.call92 lend_box lend_box' (fun w1 h1 h2 => nameP_ pb a k0 T ((ts.drop 1).drop 1) d w1 (hA.sub h1.chg (cuts_one hcu (by decide) h0) hA.dep h2)) (fun ch ⟨hm1, hm2⟩ => fin_panic ⟨_, src_bad2 hn h0 hm1, hm2⟩) (fun u_ hm => ?_); refine o_field fo87_1 rfl rfl ?_; refine o_store sz9 (by repeat (first | exact Nth.z | apply Nth.s)) rfl rfl rfl rfl rfl (Nat.le_of_ble_eq_true rfl) rfl ?_; refine triL_nilN ?_; refine tri_seq ?_; refine tri_slots [(3, _), (2, _)] (.cons rfl (.cons rfl (.nil _))) ?_; refine tri_region ?_; refine o_loadA agg87 sz87 (by repeat (first | exact Nth.z | apply Nth.s)) rfl rfl rfl rfl ?_; refine o_store sz87 (by repeat (first | exact Nth.z | apply Nth.s)) rfl rfl rfl rfl rfl (Nat.le_of_ble_eq_true rfl) rfl ?_; refine triL_nilN ?_; refine tri_ret ?_; refine endC1 rfl agg87 sz87 (by repeat (first | exact Nth.z | apply Nth.s)) rfl rfl ?_
    exact fin_pturn (J := (List UInt8 × List UInt8) × List Tok) (((hd ts).t, (hd ((ts.drop 1).drop 1)).t), ((ts.drop 1).drop 1).drop 1) rfl (src_two hn h0 hm) (fun w2 hw2 => hw2.sel [2] (by decide))
  · skip
    rw [if_neg (ne_t h0)]
    refine tri_skip ?_; refine thenQ_normal ?_; refine tri_seq ?_; refine tri_slots [(3, _), (2, _)] (.cons rfl (.cons rfl (.nil _))) ?_; refine tri_region ?_; refine o_loadA agg87 sz87 (by repeat (first | exact Nth.z | apply Nth.s)) rfl rfl rfl rfl ?_; refine o_store sz87 (by repeat (first | exact Nth.z | apply Nth.s)) rfl rfl rfl rfl rfl (Nat.le_of_ble_eq_true rfl) rfl ?_; refine triL_nilN ?_; refine tri_ret ?_; refine endC1 rfl agg87 sz87 (by repeat (first | exact Nth.z | apply Nth.s)) rfl rfl ?_
    exact fin_pturn (J := (List UInt8 × List UInt8) × List Tok) (((hd ts).t, []), ts.drop 1) rfl (src_one hn h0) (fun w2 hw2 => hw2.sel [2] (by decide))
theorem listK {τ σ : Type} (abs : σ → τ) (D : σ → List Chunk) (L : σ → List Nat) (I : σ → Nat → Prop) (can : List Tok → Bool) (one : τ → List Tok → PT τ) (qc qf : Nat) (cap : List Value) (s0 : σ) (pb : Nat) (a : Addr) (k0 : Nat) (T ts : List Tok) (d : Nat) (w : World) (hA : At w pb a k0 T ts d) (hS : Sat ⟨default, 0, [], w, pb :: L s0⟩ (pC pb a k0 T ts d :: D s0) w) (hna : a.block ∉ pb :: L s0) (hI0 : I s0 0) (hDL : ∀ s, (∀ c ∈ D s, ∀ k, c.fp k → k ∈ L s) ∧ (∀ k ∈ L s, ∃ c ∈ D s, c.fp k)) (hcc : ∀ args w, (callFunc qc args).run Tryz.prog w = .ok (.enter qc args) w) (hcf : ∀ args w, (callFunc qf args).run Tryz.prog w = .ok (.enter qf args) w)
    (hcan : ∀ us w, At w pb a k0 T us d → Calls Tryz.prog qc #[.pointer (some ⟨pb, 0, none⟩)] w (PTurn w [pb] (fun _ : Unit => .bool (can us)) (fun _ => [pC pb a k0 T (us) (d)]) (fun _ => True) (fun _ => False)))
    (hone : ∀ s n us w', Cuts ts us → I s n → n < 16 → At w' pb a k0 T us d → Chg (pb :: L s0) w w' → Sat ⟨default, 0, [], w', pb :: L s⟩ (pC pb a k0 T us d :: D s) w' → (∀ k, k < w.heap.size → k ∉ pb :: L s0 → k ∉ pb :: L s) → Calls Tryz.prog qf cap.toArray w' (PTurn w' (pb :: L s) (fun _ : σ × List Tok => .tuple #[]) (fun j => pC pb a k0 T j.2 d :: D j.1) (fun j => one (abs s) us = .ok (abs j.1, j.2) ∧ I j.1 (n + 1)) (fun ch => ∃ x, one (abs s) us = .error x ∧ ch = stopCh x)))
    (htk : ∀ s us s' us', WK.Good us → one s us = .ok (s', us') → Cuts us us') : Calls Tryz.prog 96 #[.pointer (some ⟨pb, 0, none⟩), .int .i64 16, .func (.func qc) #[.pointer (some ⟨pb, 0, none⟩)] #[], .func (.func qf) #[] cap.toArray] w (PTurn w (pb :: L s0) (fun _ : σ × List Tok => .tuple #[]) (fun j => pC pb a k0 T j.2 d :: D j.1) (fun j => listP can one 17 0 (abs s0) ts = .ok (abs j.1, j.2)) (fun ch => ∃ x, listP can one 17 0 (abs s0) ts = .error x ∧ ch = stopCh x)) := by
  refine calls_tri (args := [.pointer (some ⟨pb, 0, none⟩), .int .i64 16, .func (.func qc) #[.pointer (some ⟨pb, 0, none⟩)] #[], .func (.func qf) #[] cap.toArray]) (lent := pb :: L s0) (H := pC pb a k0 T ts d :: D s0) Tryz.func96 rfl Tryz.ntmps96 rfl hS.cx ?_; refine (show Tri _ [(0, _), (1, _), (2, _), (3, _)] _ _ _ from ?_); refine tri_seq (tri_region ?_); refine o_assignN rfl rfl ?_; refine tri_block ?_; refine tri_loop (ι := σ × List Tok × Nat) (F := fun q => [(0, .pointer (some ⟨pb, 0, none⟩)), (1, .int .i64 16), (2, .func (.func qc) #[.pointer (some ⟨pb, 0, none⟩)] #[]), (3, .func (.func qf) #[] cap.toArray), (8, .int .i64 (q.2.2 : Int))]) (HH := fun q => pC pb a k0 T q.2.1 d :: D q.1) (Pu := fun q => Cuts ts q.2.1 ∧ I q.1 q.2.2 ∧ q.2.2 ≤ 16 ∧ listP can one 17 0 (abs s0) ts = listP can one (17 - q.2.2) q.2.2 (abs q.1) q.2.1) (μ := fun q => 17 - q.2.2) ((s0, ts, 0)) (.cons rfl (.cons rfl (.cons rfl (.cons rfl (.cons rfl (.nil _)))))) (fun _ h => h) (⟨Cuts.refl hA.good, hI0, Nat.zero_le _, rfl⟩) (fun q hi => ?_); refine tri_seq ?_; refine tri_seq ?_
  obtain ⟨m, hm⟩ : ∃ m, 17 - q.2.2 = m + 1 := ⟨16 - q.2.2, by omega⟩
  have hi4 := hi.2.2.2
  rw [hm] at hi4
  by_cases hn : q.2.2 = 0
  · skip
    obtain ⟨V, hV⟩ : ∃ V, V = q.2.1 := ⟨_, rfl⟩
    have hcv : Cuts ts V := hV ▸ hi.1
    have hL : listP can one 17 0 (abs s0) ts = bodyL can one m q.2.2 (abs q.1) V := hi4.trans (by rw [hV, hn]; exact listP_0 can one m _ _)
    rw [← hV]
    have hb : decide ((q.2.2 : Int) = 0) = true := decide_eq_true (by omega)
    refine tri_region ?_; refine o_move rfl rfl ?_; refine o_eqlI rfl rfl rfl ?_
    rw [hb]
    refine o_move rfl rfl ?_; refine triL_skip rfl rfl ?_; refine triL_skip rfl rfl ?_; refine o_pickT rfl rfl rfl rfl ?_; refine triL_nilN ?_; refine tri_cond_true rfl ?_; refine tri_skip ?_; refine thenQ_normal ?_; refine tri_seq ?_; refine tri_block ?_; refine tri_seq ?_; refine tri_seq ?_; refine tri_slots [(0, _), (1, _), (2, _), (3, _), (8, _)] (.cons rfl (.cons rfl (.cons rfl (.cons rfl (.cons rfl (.nil _)))))) ?_; refine tri_region ?_; refine o_move rfl rfl ?_; refine o_callN (first := [.pointer (some ⟨pb, 0, none⟩)]) (cap := []) [pb] .z rfl rfl rfl hcc lend_box lend_box' (fun w1 h1 h2 => hcan V w1 (hA.subL h1.chg hna hcv hA.dep h2)) (fun ch hF => hF.elim) (fun u_ hu_ => ?_); refine o_not rfl rfl ?_; refine triL_nilN ?_; refine tri_cond rfl (fun hc => ?_) (fun hc => ?_)
    · skip
      have hc := not_true hc
      refine tri_region ?_; refine o_move rfl rfl ?_
      refine o_callN (first := []) (cap := []) [pb] .z rfl rfl rfl Tryz.call47 lend_box lend_box' (fun w1 h1 h2 => failK 190 pb a k0 T V d w1 (hA.subL h1.chg hna hcv hA.dep h2)) (fun ch hF => fin_panic ⟨_, hL.trans (body_bad hc), hF⟩) (fun j hj => hj.elim)
    · skip
      have hc := not_false hc
      refine tri_skip ?_; refine thenQ_normal ?_; refine tri_seq ?_; refine tri_seq (tri_region ?_); refine o_move rfl rfl ?_; refine o_move rfl rfl ?_; refine o_eqlI rfl rfl rfl ?_; refine triL_nilN ?_; refine tri_if rfl (fun h16 => ?_) (fun h16 => ?_)
      · skip
        have h16 : q.2.2 = 16 := by omega
        refine tri_slots [(0, _), (1, _), (2, _), (3, _), (8, _)] (.cons rfl (.cons rfl (.cons rfl (.cons rfl (.cons rfl (.nil _)))))) ?_; refine tri_region ?_; refine o_move rfl rfl ?_
        refine o_callN (first := []) (cap := []) [pb] .z rfl rfl rfl Tryz.call47 lend_box lend_box' (fun w1 h1 h2 => failK 3 pb a k0 T V d w1 (hA.subL h1.chg hna hcv hA.dep h2)) (fun ch hF => fin_panic ⟨_, hL.trans (body_long hc h16), hF⟩) (fun j hj => hj.elim)
      · skip
        have h16 : ¬ q.2.2 = 16 := by omega
        refine tri_skip ?_; refine thenQ_normal ?_; refine tri_slots [(0, _), (1, _), (2, _), (3, _), (8, _)] (.cons rfl (.cons rfl (.cons rfl (.cons rfl (.cons rfl (.nil _)))))) ?_; refine tri_region ?_; refine o_move rfl rfl ?_; refine o_callMP (first := []) (cap := cap) [] (pC pb a k0 T V d :: D q.1) [] (pb :: L q.1) (by simp [setH]) rfl rfl rfl hcf (lendC1 (hDL q.1).1) (lendC2 (hDL q.1).2) (fun w1 h1 h2 => hone q.1 q.2.2 V w1 hcv hi.2.1 (by omega) (hA.subL h1.chg hna hcv hA.dep (by exact (h2.sel1))) h1.chg h2 (notin_pbK h1 (hDL q.1).2)) (fun ch ⟨x, hx1, hx2⟩ => fin_panic ⟨x, hL.trans (body_err hc h16 hx1), hx2⟩) (fun j hj => ?_); refine triL_nil ?_; refine blockQ_normal ?_; refine thenQ_normal ?_; refine tri_region ?_; refine o_move rfl rfl ?_; refine o_addN rfl rfl rfl (by omega) ?_; refine o_assignN rfl rfl ?_
        exact ⟨(j.1, j.2, q.2.2 + 1), (.cons rfl (.cons rfl (.cons rfl (.cons rfl (.cons rfl (.nil _)))))), (fun w2 hw2 => by simpa using hw2), ⟨hcv.trans (htk _ _ _ _ hcv.2 hj.1), hj.2, by simp only; omega, by rw [hL, body_ok hc h16 hj.1, show 17 - (q.2.2 + 1) = m by omega]⟩, (by simp only; omega)⟩
  · skip
    have hb : decide ((q.2.2 : Int) = 0) = false := decide_eq_false (by omega)
    refine tri_region ?_; refine o_move rfl rfl ?_; refine o_eqlI rfl rfl rfl ?_
    rw [hb]
    refine o_move rfl rfl ?_; refine o_move rfl rfl ?_; refine o_callN (first := []) (cap := []) [pb] .z rfl rfl rfl Tryz.call46 lend_box lend_box' (fun w1 h1 h2 => signP [44] pb a k0 T q.2.1 d w1 (hA.subL h1.chg hna hi.1 hA.dep h2)) (fun ch hF => hF.elim) (fun u_ hu_ => ?_); refine o_pickF rfl rfl rfl rfl ?_; refine triL_nilN ?_; refine tri_cond rfl (fun h0 => ?_) (fun h0 => ?_)
    · skip
      rw [if_pos h0]
      obtain ⟨V, hV⟩ : ∃ V, V = q.2.1.drop 1 := ⟨_, rfl⟩
      have hcv : Cuts ts V := hV ▸ cuts_one hi.1 (by decide) h0
      have hL : listP can one 17 0 (abs s0) ts = bodyL can one m q.2.2 (abs q.1) V := hi4.trans (by rw [hV]; exact listP_s can one m q.2.2 (abs q.1) q.2.1 hn h0)
      rw [← hV]
      refine tri_skip ?_; refine thenQ_normal ?_; refine tri_seq ?_; refine tri_block ?_; refine tri_seq ?_; refine tri_seq ?_; refine tri_slots [(0, _), (1, _), (2, _), (3, _), (8, _)] (.cons rfl (.cons rfl (.cons rfl (.cons rfl (.cons rfl (.nil _)))))) ?_; refine tri_region ?_; refine o_move rfl rfl ?_; refine o_callN (first := [.pointer (some ⟨pb, 0, none⟩)]) (cap := []) [pb] .z rfl rfl rfl hcc lend_box lend_box' (fun w1 h1 h2 => hcan V w1 (hA.subL h1.chg hna hcv hA.dep h2)) (fun ch hF => hF.elim) (fun u_ hu_ => ?_); refine o_not rfl rfl ?_; refine triL_nilN ?_; refine tri_cond rfl (fun hc => ?_) (fun hc => ?_)
      · skip
        have hc := not_true hc
        refine tri_region ?_; refine o_move rfl rfl ?_
        refine o_callN (first := []) (cap := []) [pb] .z rfl rfl rfl Tryz.call47 lend_box lend_box' (fun w1 h1 h2 => failK 190 pb a k0 T V d w1 (hA.subL h1.chg hna hcv hA.dep h2)) (fun ch hF => fin_panic ⟨_, hL.trans (body_bad hc), hF⟩) (fun j hj => hj.elim)
      · skip
        have hc := not_false hc
        refine tri_skip ?_; refine thenQ_normal ?_; refine tri_seq ?_; refine tri_seq (tri_region ?_); refine o_move rfl rfl ?_; refine o_move rfl rfl ?_; refine o_eqlI rfl rfl rfl ?_; refine triL_nilN ?_; refine tri_if rfl (fun h16 => ?_) (fun h16 => ?_)
        · skip
          have h16 : q.2.2 = 16 := by omega
          refine tri_slots [(0, _), (1, _), (2, _), (3, _), (8, _)] (.cons rfl (.cons rfl (.cons rfl (.cons rfl (.cons rfl (.nil _)))))) ?_; refine tri_region ?_; refine o_move rfl rfl ?_
          refine o_callN (first := []) (cap := []) [pb] .z rfl rfl rfl Tryz.call47 lend_box lend_box' (fun w1 h1 h2 => failK 3 pb a k0 T V d w1 (hA.subL h1.chg hna hcv hA.dep h2)) (fun ch hF => fin_panic ⟨_, hL.trans (body_long hc h16), hF⟩) (fun j hj => hj.elim)
        · skip
          have h16 : ¬ q.2.2 = 16 := by omega
          refine tri_skip ?_; refine thenQ_normal ?_; refine tri_slots [(0, _), (1, _), (2, _), (3, _), (8, _)] (.cons rfl (.cons rfl (.cons rfl (.cons rfl (.cons rfl (.nil _)))))) ?_; refine tri_region ?_; refine o_move rfl rfl ?_; refine o_callMP (first := []) (cap := cap) [] (pC pb a k0 T V d :: D q.1) [] (pb :: L q.1) (by simp [setH]) rfl rfl rfl hcf (lendC1 (hDL q.1).1) (lendC2 (hDL q.1).2) (fun w1 h1 h2 => hone q.1 q.2.2 V w1 hcv hi.2.1 (by omega) (hA.subL h1.chg hna hcv hA.dep (by exact (h2.sel1))) h1.chg h2 (notin_pbK h1 (hDL q.1).2)) (fun ch ⟨x, hx1, hx2⟩ => fin_panic ⟨x, hL.trans (body_err hc h16 hx1), hx2⟩) (fun j hj => ?_); refine triL_nil ?_; refine blockQ_normal ?_; refine thenQ_normal ?_; refine tri_region ?_; refine o_move rfl rfl ?_; refine o_addN rfl rfl rfl (by omega) ?_; refine o_assignN rfl rfl ?_
          exact ⟨(j.1, j.2, q.2.2 + 1), (.cons rfl (.cons rfl (.cons rfl (.cons rfl (.cons rfl (.nil _)))))), (fun w2 hw2 => by simpa using hw2), ⟨hcv.trans (htk _ _ _ _ hcv.2 hj.1), hj.2, by simp only; omega, by rw [hL, body_ok hc h16 hj.1, show 17 - (q.2.2 + 1) = m by omega]⟩, (by simp only; omega)⟩
    · skip
      rw [if_neg (ne_t h0)]
      refine tri_exit ?_; refine thenQ_exit ?_; refine thenQ_exit ?_; refine blockQ_here ?_; refine end0n rfl ?_
      exact fin_pturn (J := σ × List Tok) (q.1, q.2.1) rfl (hi4.trans (listP_e can one m q.2.2 (abs q.1) q.2.1 hn h0)) (fun w2 hw2 => hw2)
theorem item1K (f bc bq sb : Nat) (X : Nat → Value) (s : LS ItemX) (n : Nat) (pb : Nat) (a : Addr) (k0 : Nat) (T ts : List Tok) (d : Nat) (w : World) (hA : At w pb a k0 T ts d) (hS : Sat ⟨default, 0, [], w, pb :: lsL sb s⟩ (pC pb a k0 T ts d :: lsD itemKd sb 53 (fun s => [X 0, X 1, X 2, X 3, X 4, X 5, X 6, X 7, X 8, X 9, X 10, X 11, X 12, X 13, X 14, X 15, X 16, X 17, .slice s.A s.l.length s.c, X 19, X 20, X 21, X 22, X 23, X 24, X 25, X 26, X 27, X 28, X 29, X 30]) s) w) (hna : a.block ∉ pb :: lsL sb s) (hbc : Rd w (some ⟨bc, 0, none⟩) [.pointer (some ⟨pb, 0, none⟩)]) (hbcn : bc ∉ pb :: lsL sb s) (hbq : Rd w (some ⟨bq, 0, none⟩) [.pointer (some ⟨sb, 16, none⟩)]) (hbqn : bq ∉ pb :: lsL sb s) (hI : s.l.length = n) (hn16 : n < 16) (hf : 8 * ts.length + 8 ≤ f) : Calls Tryz.prog 142 #[.pointer (some ⟨bc, 0, none⟩), .pointer (some ⟨bq, 0, none⟩)] w (PTurn w (pb :: lsL sb s) (fun _ : LS ItemX × List Tok => .tuple #[]) (fun j => pC pb a k0 T j.2 d :: lsD itemKd sb 53 (fun s => [X 0, X 1, X 2, X 3, X 4, X 5, X 6, X 7, X 8, X 9, X 10, X 11, X 12, X 13, X 14, X 15, X 16, X 17, .slice s.A s.l.length s.c, X 19, X 20, X 21, X 22, X 23, X 24, X 25, X 26, X 27, X 28, X 29, X 30]) j.1) (fun j => itemP f d s.l ts = .ok (j.1.l, j.2) ∧ j.1.l.length = n + 1) (fun ch => ∃ x, itemP f d s.l ts = .error x ∧ ch = stopCh x)) := by
  refine calls_tri (args := [.pointer (some ⟨bc, 0, none⟩), .pointer (some ⟨bq, 0, none⟩)]) (lent := pb :: lsL sb s) (H := pC pb a k0 T ts d :: lsD itemKd sb 53 (fun s => [X 0, X 1, X 2, X 3, X 4, X 5, X 6, X 7, X 8, X 9, X 10, X 11, X 12, X 13, X 14, X 15, X 16, X 17, .slice s.A s.l.length s.c, X 19, X 20, X 21, X 22, X 23, X 24, X 25, X 26, X 27, X 28, X 29, X 30]) s) Tryz.func142 rfl Tryz.ntmps142 rfl hS.cx ?_; refine (show Tri _ [(0, _), (1, _)] _ _ _ from ?_)
  have hdp := hA.dep
  have hB : ∀ cx H, cx.w0 = w → cx.lent = pb :: lsL sb s → RdS cx H (some ⟨bc, 0, none⟩) [.pointer (some ⟨pb, 0, none⟩)] := fun cx H q1 q2 => RdS.lent (by rw [q1]; exact hbc) (fun b hb => by cases hb; rw [q2]; exact hbcn)
  have hQ : ∀ cx H, cx.w0 = w → cx.lent = pb :: lsL sb s → RdS cx H (some ⟨bq, 0, none⟩) [.pointer (some ⟨sb, 16, none⟩)] := fun cx H q1 q2 => RdS.lent (by rw [q1]; exact hbq) (fun b hb => by cases hb; rw [q2]; exact hbqn)
  show Tri _ _ [pC pb a k0 T ts d, box sb 37 [X 0, X 1, X 2, X 3, X 4, X 5, X 6, X 7, X 8, X 9, X 10, X 11, X 12, X 13, X 14, X 15, X 16, X 17, .slice s.A s.l.length s.c, X 19, X 20, X 21, X 22, X 23, X 24, X 25, X 26, X 27, X 28, X 29, X 30], row (.slice s.A s.l.length s.c) 53 itemKd.z s.l.length s.xs, seqC itemKd s.bl s.l s.xs] _ _
  refine tri_seq (tri_region ?_); refine o_loadR (A := some ⟨bc, 0, none⟩) (kk := 0) agg94 rfl rfl (hB _ _ rfl rfl) rfl ?_; refine o_callN (first := []) (cap := []) [pb] (by repeat (first | exact Nth.z | apply Nth.s)) rfl rfl rfl Tryz.call100 lend_box lend_box' (fun w1 h1 h2 => (xall f).l1 pb a k0 T ts d w1 (hA.subL h1.chg hna (Cuts.refl hA.good) hA.dep h2) (by omega)) (fun ch ⟨x, hx1, hx2⟩ => fin_panic ⟨x, item_err hx1, hx2⟩) (fun j hj => ?_); refine TriX.know (fun w2 hw2 => tree_form (hw2.holds _ (Nth.mem (i := 0) .z))) (fun ⟨z1, z2, z3, z7, z4, z5, z6, z8, z9, z0, hcs⟩ => ?_)
  rw [hcs]
  refine o_build (built53_0 _ _ _ _ _ _ _ _ _ _) rfl rfl ?_; refine o_alloc _ rfl zero53 rfl (fun b2 => ?_); refine o_store sz53 (by repeat (first | exact Nth.z | apply Nth.s)) rfl rfl rfl rfl rfl (Nat.le_of_ble_eq_true rfl) rfl ?_; refine triL_nilN ?_; refine tri_seq ?_; refine tri_seq ?_
  have htj := exP_takes f 1 d ts hA.good j.e j.us hj.1
  refine tri_region ?_; refine o_loadR (A := some ⟨bc, 0, none⟩) (kk := 0) agg94 rfl rfl (hB _ _ rfl rfl) rfl ?_; refine o_callN (first := []) (cap := []) [pb] (by repeat (first | exact Nth.z | apply Nth.s)) rfl rfl rfl Tryz.call90 lend_box lend_box' (fun w1 h1 h2 => wordP asB pb a k0 T j.us d w1 (hA.subL h1.chg hna htj.1 hA.dep h2)) (fun ch hF => hF.elim) (fun u_ hu_ => ?_); refine triL_nilN ?_; refine tri_cond rfl (fun h0 => ?_) (fun h0 => ?_)
  · skip
    rw [if_pos h0]
    refine tri_slots [(2, _), (0, _), (1, _)] (.cons rfl (.cons rfl (.cons rfl (.nil _)))) ?_; refine tri_region ?_; refine o_loadR (A := some ⟨bc, 0, none⟩) (kk := 0) agg94 rfl rfl (hB _ _ rfl rfl) rfl ?_; refine o_callN (first := []) (cap := []) [pb] (by repeat (first | exact Nth.z | apply Nth.s)) rfl rfl rfl Tryz.call92 lend_box lend_box' (fun w1 h1 h2 => nameP_ pb a k0 T (j.us.drop 1) d w1 (hA.subL h1.chg hna (cuts_one htj.1 (by decide) h0) hA.dep h2)) (fun ch ⟨hn1, hn2⟩ => fin_panic ⟨_, item_bad hj.1 h0 hn1, hn2⟩) (fun u_ hn => ?_); refine o_field fo53_1 rfl rfl ?_; refine o_store sz9 (by repeat (first | exact Nth.z | apply Nth.s)) rfl rfl rfl rfl rfl (Nat.le_of_ble_eq_true rfl) rfl ?_; refine triL_nilN ?_; refine tri_slots [(2, _), (1, _)] (.cons rfl (.cons rfl (.nil _))) ?_; refine MP.tri_mix ([box b2 53 [.int .i64 z1, .int .i64 z2, .int .i64 z3, .string z4, .string z5, .string z6, .int .i64 z7, .slice z8 z9 z0, .string (B (hd (j.us.drop 1)).t)], box sb 37 [X 0, X 1, X 2, X 3, X 4, X 5, X 6, X 7, X 8, X 9, X 10, X 11, X 12, X 13, X 14, X 15, X 16, X 17, .slice s.A s.l.length s.c, X 19, X 20, X 21, X 22, X 23, X 24, X 25, X 26, X 27, X 28, X 29, X 30]]) [(0, true), (1, true), (2, true), (3, true), (4, true), (5, true), (6, false), (7, false), (8, false), (9, false), (10, false)] [8, 9, 10] (by kernel_rfl) (by kernel_rfl) (fun _ h => h.sel [0, 3] (by decide)) ?_; refine MP.mix_fix rfl ?_; refine o_loadR (A := some ⟨bq, 0, none⟩) (kk := 0) agg140 rfl rfl (hQ _ _ rfl rfl) rfl ?_; refine triL_nil ⟨rfl, ?_⟩; refine MP.mix_fix rfl ?_; refine o_loadR (A := some ⟨bq, 0, none⟩) (kk := 0) agg140 rfl rfl (hQ _ _ rfl rfl) rfl ?_; refine triL_nil ⟨rfl, ?_⟩; refine MP.mix_fix rfl ?_; refine o_nilCheck rfl rfl ?_; refine triL_nil ⟨rfl, ?_⟩; refine MP.mix_fix rfl ?_; refine o_field fo35_2 rfl rfl ?_; refine triL_nil ⟨rfl, ?_⟩; refine MP.mix_fix rfl ?_; refine o_load agg31 (by repeat (first | exact Nth.z | apply Nth.s)) rfl rfl rfl ?_; refine triL_nil ⟨rfl, ?_⟩; refine MP.mix_fix rfl ?_; refine o_loadA agg53 sz53 (by repeat (first | exact Nth.z | apply Nth.s)) rfl rfl rfl rfl ?_; refine triL_nil ⟨rfl, ?_⟩; refine MP.mix_op rfl ?_; refine o_lit1 Tryz.underlying31 zs53 rfl rfl rfl rfl rfl (by decide) (by decide) (fun b17 => ?_); refine triL_nil (show _ ∧ _ from ⟨fun _ _ h => h.sel [1, 4] (by decide), ?_⟩); refine MP.mix_op rfl ?_; refine o_append Tryz.underlying31 zsb53 rfl (by decide) (by repeat (first | exact Nth.z | apply Nth.s)) rfl rfl rfl (RdS.row .z) rfl (allOne_spec rfl) (by unfold maxLen; omega) (by omega) (fun A18 c18 => ?_); refine triL_nil (show _ ∧ _ from ⟨fun _ _ h => h.sel [1, 4] (by decide), ?_⟩); refine MP.mix_op rfl ?_; refine o_nilCheck rfl rfl ?_; refine triL_nil (show _ ∧ _ from ⟨fun hh => absurd hh (by decide), ?_⟩); refine MP.mix_op rfl ?_; refine o_field fo35_2 rfl rfl ?_; refine triL_nil (show _ ∧ _ from ⟨fun hh => absurd hh (by decide), ?_⟩); refine MP.mix_op rfl ?_; refine o_store sz31 (by repeat (first | exact Nth.z | apply Nth.s)) rfl rfl rfl rfl rfl (Nat.le_of_ble_eq_true rfl) rfl ?_; refine triL_nil (show _ ∧ _ from ⟨fun hh => absurd hh (by decide), ?_⟩); refine MP.mix_nil ?_; refine end0n rfl ?_
    exact fin_pturn (J := LS ItemX × List Tok) (⟨s.l ++ [⟨j.e, (hd (j.us.drop 1)).t⟩], A18, c18, s.xs ++ _, _⟩, (j.us.drop 1).drop 1) rfl ⟨item_two hj.1 h0 hn, by simp [hI]⟩ (fun w2 hw2 => by
      have e1 := Sat.moreSeq itemKd (a := ⟨j.e, (hd (j.us.drop 1)).t⟩) (hw2.sel [6, 2, 3, 4, 5] (by decide)) (fun w h => itemRel h)
      simp only [lsD, List.length_append, List.length_singleton]
      exact e1.sel [1, 2, 3, 0] (by decide))
  · skip
    rw [if_neg (ne_t h0)]
    refine tri_skip ?_; refine thenQ_normal ?_; refine tri_slots [(2, _), (1, _)] (.cons rfl (.cons rfl (.nil _))) ?_; refine MP.tri_mix ([box b2 53 [.int .i64 z1, .int .i64 z2, .int .i64 z3, .string z4, .string z5, .string z6, .int .i64 z7, .slice z8 z9 z0, .string .empty], box sb 37 [X 0, X 1, X 2, X 3, X 4, X 5, X 6, X 7, X 8, X 9, X 10, X 11, X 12, X 13, X 14, X 15, X 16, X 17, .slice s.A s.l.length s.c, X 19, X 20, X 21, X 22, X 23, X 24, X 25, X 26, X 27, X 28, X 29, X 30]]) [(0, true), (1, true), (2, true), (3, true), (4, true), (5, true), (6, false), (7, false), (8, false), (9, false), (10, false)] [8, 9, 10] (by kernel_rfl) (by kernel_rfl) (fun _ h => h.sel [0, 3] (by decide)) ?_; refine MP.mix_fix rfl ?_; refine o_loadR (A := some ⟨bq, 0, none⟩) (kk := 0) agg140 rfl rfl (hQ _ _ rfl rfl) rfl ?_; refine triL_nil ⟨rfl, ?_⟩; refine MP.mix_fix rfl ?_; refine o_loadR (A := some ⟨bq, 0, none⟩) (kk := 0) agg140 rfl rfl (hQ _ _ rfl rfl) rfl ?_; refine triL_nil ⟨rfl, ?_⟩; refine MP.mix_fix rfl ?_; refine o_nilCheck rfl rfl ?_; refine triL_nil ⟨rfl, ?_⟩; refine MP.mix_fix rfl ?_; refine o_field fo35_2 rfl rfl ?_; refine triL_nil ⟨rfl, ?_⟩; refine MP.mix_fix rfl ?_; refine o_load agg31 (by repeat (first | exact Nth.z | apply Nth.s)) rfl rfl rfl ?_; refine triL_nil ⟨rfl, ?_⟩; refine MP.mix_fix rfl ?_; refine o_loadA agg53 sz53 (by repeat (first | exact Nth.z | apply Nth.s)) rfl rfl rfl rfl ?_; refine triL_nil ⟨rfl, ?_⟩; refine MP.mix_op rfl ?_; refine o_lit1 Tryz.underlying31 zs53 rfl rfl rfl rfl rfl (by decide) (by decide) (fun b17 => ?_); refine triL_nil (show _ ∧ _ from ⟨fun _ _ h => h.sel [1, 4] (by decide), ?_⟩); refine MP.mix_op rfl ?_; refine o_append Tryz.underlying31 zsb53 rfl (by decide) (by repeat (first | exact Nth.z | apply Nth.s)) rfl rfl rfl (RdS.row .z) rfl (allOne_spec rfl) (by unfold maxLen; omega) (by omega) (fun A18 c18 => ?_); refine triL_nil (show _ ∧ _ from ⟨fun _ _ h => h.sel [1, 4] (by decide), ?_⟩); refine MP.mix_op rfl ?_; refine o_nilCheck rfl rfl ?_; refine triL_nil (show _ ∧ _ from ⟨fun hh => absurd hh (by decide), ?_⟩); refine MP.mix_op rfl ?_; refine o_field fo35_2 rfl rfl ?_; refine triL_nil (show _ ∧ _ from ⟨fun hh => absurd hh (by decide), ?_⟩); refine MP.mix_op rfl ?_; refine o_store sz31 (by repeat (first | exact Nth.z | apply Nth.s)) rfl rfl rfl rfl rfl (Nat.le_of_ble_eq_true rfl) rfl ?_; refine triL_nil (show _ ∧ _ from ⟨fun hh => absurd hh (by decide), ?_⟩); refine MP.mix_nil ?_; refine end0n rfl ?_
    exact fin_pturn (J := LS ItemX × List Tok) (⟨s.l ++ [⟨j.e, []⟩], A18, c18, s.xs ++ _, _⟩, j.us) rfl ⟨item_one hj.1 h0, by simp [hI]⟩ (fun w2 hw2 => by
      have e1 := Sat.moreSeq itemKd (a := ⟨j.e, []⟩) (hw2.sel [6, 2, 3, 4, 5] (by decide)) (fun w h => itemRel h)
      simp only [lsD, List.length_append, List.length_singleton]
      exact e1.sel [1, 2, 3, 0] (by decide))
theorem ord1K (f bc bq sb : Nat) (X : Nat → Value) (s : LS OrdX) (n : Nat) (pb : Nat) (a : Addr) (k0 : Nat) (T ts : List Tok) (d : Nat) (w : World) (hA : At w pb a k0 T ts d) (hS : Sat ⟨default, 0, [], w, pb :: lsL sb s⟩ (pC pb a k0 T ts d :: lsD ordKd sb 121 (fun s => [X 0, X 1, X 2, X 3, X 4, X 5, X 6, X 7, X 8, X 9, X 10, X 11, X 12, X 13, X 14, X 15, X 16, X 17, X 18, X 19, X 20, X 21, X 22, X 23, X 24, X 25, X 26, X 27, .slice s.A s.l.length s.c, X 29, X 30]) s) w) (hna : a.block ∉ pb :: lsL sb s) (hbc : Rd w (some ⟨bc, 0, none⟩) [.pointer (some ⟨pb, 0, none⟩)]) (hbcn : bc ∉ pb :: lsL sb s) (hbq : Rd w (some ⟨bq, 0, none⟩) [.pointer (some ⟨sb, 16, none⟩)]) (hbqn : bq ∉ pb :: lsL sb s) (hI : s.l.length = n) (hn16 : n < 16) (_ : 8 * ts.length + 8 ≤ f) : Calls Tryz.prog 144 #[.pointer (some ⟨bc, 0, none⟩), .pointer (some ⟨bq, 0, none⟩)] w (PTurn w (pb :: lsL sb s) (fun _ : LS OrdX × List Tok => .tuple #[]) (fun j => pC pb a k0 T j.2 d :: lsD ordKd sb 121 (fun s => [X 0, X 1, X 2, X 3, X 4, X 5, X 6, X 7, X 8, X 9, X 10, X 11, X 12, X 13, X 14, X 15, X 16, X 17, X 18, X 19, X 20, X 21, X 22, X 23, X 24, X 25, X 26, X 27, .slice s.A s.l.length s.c, X 29, X 30]) j.1) (fun j => ordP s.l ts = .ok (j.1.l, j.2) ∧ j.1.l.length = n + 1) (fun ch => ∃ x, ordP s.l ts = .error x ∧ ch = stopCh x)) := by
  refine calls_tri (args := [.pointer (some ⟨bc, 0, none⟩), .pointer (some ⟨bq, 0, none⟩)]) (lent := pb :: lsL sb s) (H := pC pb a k0 T ts d :: lsD ordKd sb 121 (fun s => [X 0, X 1, X 2, X 3, X 4, X 5, X 6, X 7, X 8, X 9, X 10, X 11, X 12, X 13, X 14, X 15, X 16, X 17, X 18, X 19, X 20, X 21, X 22, X 23, X 24, X 25, X 26, X 27, .slice s.A s.l.length s.c, X 29, X 30]) s) Tryz.func144 rfl Tryz.ntmps144 rfl hS.cx ?_; refine (show Tri _ [(0, _), (1, _)] _ _ _ from ?_)
  have hdp := hA.dep
  have hB : ∀ cx H, cx.w0 = w → cx.lent = pb :: lsL sb s → RdS cx H (some ⟨bc, 0, none⟩) [.pointer (some ⟨pb, 0, none⟩)] := fun cx H q1 q2 => RdS.lent (by rw [q1]; exact hbc) (fun b hb => by cases hb; rw [q2]; exact hbcn)
  have hQ : ∀ cx H, cx.w0 = w → cx.lent = pb :: lsL sb s → RdS cx H (some ⟨bq, 0, none⟩) [.pointer (some ⟨sb, 16, none⟩)] := fun cx H q1 q2 => RdS.lent (by rw [q1]; exact hbq) (fun b hb => by cases hb; rw [q2]; exact hbqn)
  show Tri _ _ [pC pb a k0 T ts d, box sb 37 [X 0, X 1, X 2, X 3, X 4, X 5, X 6, X 7, X 8, X 9, X 10, X 11, X 12, X 13, X 14, X 15, X 16, X 17, X 18, X 19, X 20, X 21, X 22, X 23, X 24, X 25, X 26, X 27, .slice s.A s.l.length s.c, X 29, X 30], row (.slice s.A s.l.length s.c) 121 ordKd.z s.l.length s.xs, seqC ordKd s.bl s.l s.xs] _ _
  refine tri_seq (tri_region ?_); refine o_loadR (A := some ⟨bc, 0, none⟩) (kk := 0) agg94 rfl rfl (hB _ _ rfl rfl) rfl ?_; refine o_callN (first := []) (cap := []) [pb] (by repeat (first | exact Nth.z | apply Nth.s)) rfl rfl rfl Tryz.call92 lend_box lend_box' (fun w1 h1 h2 => nameP_ pb a k0 T ts d w1 (hA.subL h1.chg hna (Cuts.refl hA.good) hA.dep h2)) (fun ch ⟨hn1, hn2⟩ => fin_panic ⟨_, ord_bad hn1, hn2⟩) (fun u_ hn => ?_); refine o_build (built121_0 _) rfl rfl ?_; refine o_alloc _ rfl zero121 rfl (fun b2 => ?_); refine o_store sz121 (by repeat (first | exact Nth.z | apply Nth.s)) rfl rfl rfl rfl rfl (Nat.le_of_ble_eq_true rfl) rfl ?_; refine triL_nilN ?_; refine tri_seq ?_
  have hcu : Cuts ts (ts.drop 1) := ⟨List.drop_suffix 1 ts, hA.good.name hn⟩
  refine tri_region ?_; refine o_loadR (A := some ⟨bc, 0, none⟩) (kk := 0) agg94 rfl rfl (hB _ _ rfl rfl) rfl ?_; refine o_callN (first := []) (cap := []) [pb] (by repeat (first | exact Nth.z | apply Nth.s)) rfl rfl rfl Tryz.call90 lend_box lend_box' (fun w1 h1 h2 => wordP descB pb a k0 T (ts.drop 1) d w1 (hA.subL h1.chg hna hcu hA.dep h2)) (fun ch hF => hF.elim) (fun u_ hu_ => ?_); refine o_field fo121_1 rfl rfl ?_; refine o_store sz4 (by repeat (first | exact Nth.z | apply Nth.s)) rfl rfl rfl rfl rfl (Nat.le_of_ble_eq_true rfl) rfl ?_; refine triL_nilN ?_; refine tri_slots [(2, _), (1, _)] (.cons rfl (.cons rfl (.nil _))) ?_; refine MP.tri_mix ([box b2 121 [.string (B (hd ts).t), .bool (atT 1 descB (ts.drop 1))], box sb 37 [X 0, X 1, X 2, X 3, X 4, X 5, X 6, X 7, X 8, X 9, X 10, X 11, X 12, X 13, X 14, X 15, X 16, X 17, X 18, X 19, X 20, X 21, X 22, X 23, X 24, X 25, X 26, X 27, .slice s.A s.l.length s.c, X 29, X 30]]) [(0, true), (1, true), (2, true), (3, true), (4, true), (5, true), (6, false), (7, false), (8, false), (9, false), (10, false)] [8, 9, 10] (by kernel_rfl) (by kernel_rfl) (fun _ h => h.sel [0, 2] (by decide)) ?_; refine MP.mix_fix rfl ?_; refine o_loadR (A := some ⟨bq, 0, none⟩) (kk := 0) agg140 rfl rfl (hQ _ _ rfl rfl) rfl ?_; refine triL_nil ⟨rfl, ?_⟩; refine MP.mix_fix rfl ?_; refine o_loadR (A := some ⟨bq, 0, none⟩) (kk := 0) agg140 rfl rfl (hQ _ _ rfl rfl) rfl ?_; refine triL_nil ⟨rfl, ?_⟩; refine MP.mix_fix rfl ?_; refine o_nilCheck rfl rfl ?_; refine triL_nil ⟨rfl, ?_⟩; refine MP.mix_fix rfl ?_; refine o_field fo35_5 rfl rfl ?_; refine triL_nil ⟨rfl, ?_⟩; refine MP.mix_fix rfl ?_; refine o_load agg33 (by repeat (first | exact Nth.z | apply Nth.s)) rfl rfl rfl ?_; refine triL_nil ⟨rfl, ?_⟩; refine MP.mix_fix rfl ?_; refine o_loadA agg121 sz121 (by repeat (first | exact Nth.z | apply Nth.s)) rfl rfl rfl rfl ?_; refine triL_nil ⟨rfl, ?_⟩; refine MP.mix_op rfl ?_; refine o_lit1 Tryz.underlying33 zs121 rfl rfl rfl rfl rfl (by decide) (by decide) (fun b15 => ?_); refine triL_nil (show _ ∧ _ from ⟨fun _ _ h => h.sel [1, 3] (by decide), ?_⟩); refine MP.mix_op rfl ?_; refine o_append Tryz.underlying33 zsb121 rfl (by decide) (by repeat (first | exact Nth.z | apply Nth.s)) rfl rfl rfl (RdS.row .z) rfl (allOne_spec rfl) (by unfold maxLen; omega) (by omega) (fun A16 c16 => ?_); refine triL_nil (show _ ∧ _ from ⟨fun _ _ h => h.sel [1, 3] (by decide), ?_⟩); refine MP.mix_op rfl ?_; refine o_nilCheck rfl rfl ?_; refine triL_nil (show _ ∧ _ from ⟨fun hh => absurd hh (by decide), ?_⟩); refine MP.mix_op rfl ?_; refine o_field fo35_5 rfl rfl ?_; refine triL_nil (show _ ∧ _ from ⟨fun hh => absurd hh (by decide), ?_⟩); refine MP.mix_op rfl ?_; refine o_store sz33 (by repeat (first | exact Nth.z | apply Nth.s)) rfl rfl rfl rfl rfl (Nat.le_of_ble_eq_true rfl) rfl ?_; refine triL_nil (show _ ∧ _ from ⟨fun hh => absurd hh (by decide), ?_⟩); refine MP.mix_nil ?_; refine end0n rfl ?_
  exact fin_pturn (J := LS OrdX × List Tok) (⟨s.l ++ [⟨(hd ts).t, atT 1 descB (ts.drop 1)⟩], A16, c16, s.xs ++ OrdX.cs ⟨(hd ts).t, atT 1 descB (ts.drop 1)⟩, s.bl⟩, _) rfl ⟨ord_ok hn, by simp [hI]⟩ (fun w2 hw2 => by
    have e1 := Sat.moreSeq0 ordKd (a := ⟨(hd ts).t, atT 1 descB (ts.drop 1)⟩) (ys := OrdX.cs ⟨(hd ts).t, atT 1 descB (ts.drop 1)⟩) (hw2.sel [5, 2, 3, 4] (by decide)) (fun w => rfl)
    simp only [lsD, List.length_append, List.length_singleton]
    exact e1.sel [1, 2, 3, 0] (by decide))
end Go.Proofs.YtjbpkcbefmpfgaaGreatDoor
namespace Go.Proofs.YtjbpkcbefmpfgaaGreatDoor
open Go.WK Go.RowKit
/-- What the library's variables hold, as far as printing reads it. -/
structure LV (w : World) : Prop where
  m : ∃ m, w.cell? ⟨3, 0, none⟩ = some (.int .i64 m)
  tab : Lib.TabIs Tryz.prog w "internal/strconv.uint64pow10" .u64 Lib.pow10Tab
theorem gTab : Tryz.prog.globalNamed "internal/strconv.uint64pow10" = some 2 := by kernel_rfl
theorem LV.chgL {w w' : World} {L : List Nat} (h : LV w) (hc : Chg L w w') (hn : ∀ k, k < 10 → k ∉ L) : LV w' := by
  obtain ⟨⟨m, hm⟩, ht⟩ := h
  refine ⟨⟨m, ?_⟩, ?_⟩
  · rw [← hm]; exact World.cell?_of_block (hc.block 3 (World.block_lt_of_cell? _ _ hm) (hn 3 (by decide)))
  · unfold Lib.TabIs World.var? at ht ⊢
    rw [gTab] at ht ⊢
    simp only [Option.bind_some] at ht ⊢
    have hlt : 2 < w.heap.size := by
      rcases Nat.lt_or_ge 2 w.heap.size with h | h
      · exact h
      · rw [Array.getElem?_eq_none h] at ht; cases ht
    rw [hc.block 2 hlt (hn 2 (by decide))]; exact ht
theorem LV.chg {w w' : World} (h : LV w) (hc : Chg [] w w') : LV w' := h.chgL hc (by simp)
theorem lib_format (n : Int) (w : World) (h : inR n = true) (hL : LV w) : Calls Tryz.prog 115 #[.int .i64 n, .int .i64 10] w (Pure w (.string (B (Lib.itoa n)))) := by
  obtain ⟨h1, h2⟩ := inR_iff.1 h
  have h : Calls Tryz.prog 115 #[.int .i64 n, .int .i64 10] w fun e w' => e = .returned (.string ⟨(Lib.itoa n).toArray⟩) ∧ ∃ k os, w' = Sort.grow (w.drewN k) os := Any.strconv_FormatInt_10 Tryz.laysM173 n h1 h2 w hL.tab
  refine h.mono fun e w' ⟨he, k, os, hw⟩ => ⟨he, ?_⟩
  subst hw
  exact Chg.of_below (Lib.below_grow _ w (Nat.le_refl _) k os)
theorem lib_replace (s old new : List UInt8) (w : World) (hs : s.length < 4294967281) (h1 : 1 ≤ old.length) (hne : old ≠ new) (hn : new.length ≤ 2) (hL : LV w) :
    Calls Tryz.prog 116 #[.string (B s), .string (B old), .string (B new)] w (Pure w (.string (B (repA old new s)))) := by
  obtain ⟨m, hm⟩ := hL.m
  have hcount : Lib.countB (B s) (B old) * (B new).size ≤ 2 * s.length + 2 := by
    have a1 := Lib.countB_mul_le (B old) (by rw [B_size]; exact h1) s.length (B s) (by rw [B_size]; exact Nat.le_refl _)
    rw [B_size, B_size] at a1
    have a2 : Lib.countB (B s) (B old) * 1 ≤ Lib.countB (B s) (B old) * old.length := Nat.mul_le_mul_left _ h1
    have a3 : Lib.countB (B s) (B old) * (B new).size ≤ Lib.countB (B s) (B old) * 2 := Nat.mul_le_mul_left _ (by rw [B_size]; exact hn)
    omega
  have h : Calls Tryz.prog 116 #[.string (B s), .string (B old), .string (B new)] w fun e w' => e = .returned (.string ⟨(Lib.replaceAll (B s).data.toList (B old).data.toList (B new).data.toList).toArray⟩) ∧ Below w.heap.size w w' :=
    Any.strings_ReplaceAll Tryz.lays155 Tryz.Builder_Extra_155 (B s) (B old) (B new) m w (by rw [B_size]; exact hs) hm (by rw [B_size]; exact h1) (by rw [B_size s]; omega)
  refine h.mono fun e w' ⟨he, hw⟩ => ⟨?_, Chg.of_below hw⟩
  rw [he, B_list, B_list, B_list]
  unfold Lib.replaceAll
  rw [replaceAll_eq hne]
theorem lib_dbl (s : List UInt8) (w : World) (hs : s.length < 4294967281) (hL : LV w) : Calls Tryz.prog 116 #[.string (B s), .string (B [39]), .string (B [39, 39])] w (Pure w (.string (B (dbl s)))) := by
  rw [← repA_dbl]
  exact lib_replace s [39] [39, 39] w hs (by simp) (by simp) (by simp) hL
theorem lib_itoa (n : Int) (w : World) (h : inR n = true) (hL : LV w) : Calls Tryz.prog 121 #[.int .i64 n] w (Pure w (.string (B (Lib.itoa n)))) := by
  obtain ⟨h1, h2⟩ := inR_iff.1 h
  have h : Calls Tryz.prog 121 #[.int .i64 n] w fun e w' => e = .returned (.string ⟨(Lib.itoa n).toArray⟩) ∧ ∃ k os, w' = Sort.grow (w.drewN k) os := Any.strconv_Itoa Tryz.laysM171 n h1 h2 w hL.tab
  refine h.mono fun e w' ⟨he, k, os, hw⟩ => ⟨he, ?_⟩
  subst hw
  exact Chg.of_below (Lib.below_grow _ w (Nat.le_refl _) k os)
theorem lib_atoi_ok {t : Tok} (h : TokOk t) (hk : t.k = 2) (w : World) : Calls Tryz.prog 145 #[.string (B t.t)] w (Pure w (.tuple #[.int .i64 (decZ t.t), .nilIface])) := by
  have hn := h.num hk
  have hl := h.len
  have h2 : Calls Tryz.prog 145 #[.string (B t.t)] w fun e w' => e = .returned (.tuple #[.int .i64 (decZ t.t), .nilIface]) ∧ (w' = w ∨ ∃ t, w' = Lib.bytesWorld w 5 t) :=
    Any.strconv_Atoi_ok Tryz.laysC172 (B t.t) (by rw [B_size]; omega) (decZ t.t) (by rw [B_list, ← Lib.parseIntB_64]; exact hn) w
  refine h2.mono fun e w' ⟨he, hw⟩ => ⟨he, ?_⟩
  rcases hw with rfl | ⟨t, rfl⟩
  · exact Chg.refl _ _
  · exact Chg.of_below (Lib.bytesWorld_below _ _ _)
end Go.Proofs.YtjbpkcbefmpfgaaGreatDoor
namespace Go.Proofs.YtjbpkcbefmpfgaaGreatDoor
open Go.WK Go.RowKit 
theorem fo35_0 : fieldB Tryz.prog 35 0 = some 0 := by kernel_rfl
theorem fo35_1 : fieldB Tryz.prog 35 1 = some 1 := by kernel_rfl
theorem fo35_3 : fieldB Tryz.prog 35 3 = some 3 := by kernel_rfl
theorem agg32 : aggB Tryz.prog 32 = some false := by kernel_rfl
theorem zs87 : (Tryz.prog.info? 87).map (fun i => (i.zero, i.size)) = some (some (.agg #[.string .empty, .string .empty, .int .i64 0, .int .i64 0, .int .i64 0, .string .empty, .string .empty, .string .empty, .int .i64 0, .slice none 0 0]), 10) := by kernel_rfl
theorem zsb87 : (Tryz.prog.info? 87).map (fun i => (i.zero, i.size, i.bytes)) = some (some (.agg #[.string .empty, .string .empty, .int .i64 0, .int .i64 0, .int .i64 0, .string .empty, .string .empty, .string .empty, .int .i64 0, .slice none 0 0]), 10, 136) := by kernel_rfl
theorem sz32 : szB Tryz.prog 32 = some 1 := by kernel_rfl
theorem fo87_2 : fieldB Tryz.prog 87 2 = some 2 := by kernel_rfl
theorem fo35_4 : fieldB Tryz.prog 35 4 = some 4 := by kernel_rfl
theorem fo35_6 : fieldB Tryz.prog 35 6 = some 13 := by kernel_rfl
theorem fo35_7 : fieldB Tryz.prog 35 7 = some 14 := by kernel_rfl
set_option maxHeartbeats 4000000 in
theorem queryK (f sb : Nat) (X : Nat → Value) (pb : Nat) (a : Addr) (k0 : Nat) (T ts : List Tok) (d : Nat) (w : World) (hA : At w pb a k0 T ts d) (hS : Sat ⟨default, 0, [], w, [pb, sb]⟩ [pC pb a k0 T ts d, box sb 37 [X 0, X 1, X 2, X 3, X 4, X 5, X 6, X 7, X 8, X 9, X 10, X 11, X 12, X 13, X 14, X 15, .bool false, .bool false, .slice none 0 0, .slice none 0 0, .int .i64 0, .int .i64 0, .int .i64 0, .string .empty, .string .empty, .string .empty, .int .i64 0, .slice none 0 0, .slice none 0 0, .bool false, .int .i64 0]] w) (hna : a.block ∉ [pb, sb]) (hf : 8 * ts.length + 8 ≤ f) : Calls Tryz.prog 101 #[.pointer (some ⟨pb, 0, none⟩), .pointer (some ⟨sb, 16, none⟩)] w (PTurn w [pb, sb] (fun _ : QR => .tuple #[]) (fun j => [pC pb a k0 T j.us d, box sb 37 ([X 0, X 1, X 2, X 3, X 4, X 5, X 6, X 7, X 8, X 9, X 10, X 11, X 12, X 13, X 14, X 15] ++ qCs j.q j.vI j.vF j.vO j.ec), qryC j.bl j.q j.vI j.vF j.vO j.ec]) (fun j => queryP f d ts = .ok (j.q, j.us) ∧ XC j.ec) (fun ch => ∃ x, queryP f d ts = .error x ∧ ch = stopCh x)) := by
  refine calls_tri (args := [.pointer (some ⟨pb, 0, none⟩), .pointer (some ⟨sb, 16, none⟩)]) (lent := [pb, sb]) (H := [pC pb a k0 T ts d, box sb 37 [X 0, X 1, X 2, X 3, X 4, X 5, X 6, X 7, X 8, X 9, X 10, X 11, X 12, X 13, X 14, X 15, .bool false, .bool false, .slice none 0 0, .slice none 0 0, .int .i64 0, .int .i64 0, .int .i64 0, .string .empty, .string .empty, .string .empty, .int .i64 0, .slice none 0 0, .slice none 0 0, .bool false, .int .i64 0]]) Tryz.func101 rfl Tryz.ntmps101 rfl hS.cx ?_; refine (show Tri _ [(0, _), (1, _)] _ _ _ from ?_)
  have hdp := hA.dep
  have hRL := hA.env.rdsL hna
  have hcd := dist_cuts hA.good
  refine tri_seq (tri_region ?_); refine o_box _ rfl rfl rfl (fun b2 => ?_); refine o_box _ rfl rfl rfl (fun b3 => ?_); refine triL_nilN ?_; refine tri_seq ?_; refine MP.tri_mix ([box b3 140 [.pointer (some ⟨sb, 16, none⟩)], box b2 94 [.pointer (some ⟨pb, 0, none⟩)]]) [(0, true), (1, true), (2, false), (3, false), (4, false), (5, false)] [3, 4, 5] (by kernel_rfl) (by kernel_rfl) (fun _ h => h.sel [0, 1] (by decide)) ?_; refine MP.mix_fix rfl ?_; refine o_load agg140 (by repeat (first | exact Nth.z | apply Nth.s)) rfl rfl rfl ?_; refine triL_nil ⟨rfl, ?_⟩; refine MP.mix_fix rfl ?_; refine o_load agg94 (by repeat (first | exact Nth.z | apply Nth.s)) rfl rfl rfl ?_; refine triL_nil ⟨rfl, ?_⟩; refine MP.mix_op rfl ?_; refine o_callN (first := []) (cap := []) [pb] (by repeat (first | exact Nth.z | apply Nth.s)) rfl rfl rfl Tryz.call90 lend_box lend_box' (fun w1 h1 h2 => wordP distinctB pb a k0 T ts d w1 (hA.subL h1.chg hna (Cuts.refl hA.good) hA.dep h2)) (fun ch hF => hF.elim) (fun u_ hu_ => ?_); refine triL_nil (show _ ∧ _ from ⟨fun _ _ h => h.sel [0, 1] (by decide), ?_⟩); refine MP.mix_op rfl ?_; refine o_nilCheck rfl rfl ?_; refine triL_nil (show _ ∧ _ from ⟨fun hh => absurd hh (by decide), ?_⟩); refine MP.mix_op rfl ?_; refine o_field fo35_0 rfl rfl ?_; refine triL_nil (show _ ∧ _ from ⟨fun hh => absurd hh (by decide), ?_⟩); refine MP.mix_op rfl ?_; refine o_store sz4 (by repeat (first | exact Nth.z | apply Nth.s)) rfl rfl rfl rfl rfl (Nat.le_of_ble_eq_true rfl) rfl ?_; refine triL_nil (show _ ∧ _ from ⟨fun hh => absurd hh (by decide), ?_⟩); refine MP.mix_nil ?_; refine thenQ_normal ?_; refine tri_join (ι := LS ItemX × List Tok) (fun i => [(2, .pointer (some ⟨b2, 0, none⟩)), (3, .pointer (some ⟨b3, 0, none⟩))]) (fun i => [pC pb a k0 T i.2 d, box sb 37 [X 0, X 1, X 2, X 3, X 4, X 5, X 6, X 7, X 8, X 9, X 10, X 11, X 12, X 13, X 14, X 15, .bool (atT 1 distinctB ts), .bool (atT 4 [42] (distT ts)), .slice i.1.A i.1.l.length i.1.c, .slice none 0 0, .int .i64 0, .int .i64 0, .int .i64 0, .string .empty, .string .empty, .string .empty, .int .i64 0, .slice none 0 0, .slice none 0 0, .bool false, .int .i64 0], row (.slice i.1.A i.1.l.length i.1.c) 53 itemKd.z i.1.l.length i.1.xs, seqC itemKd i.1.bl i.1.l i.1.xs, box b3 140 [.pointer (some ⟨sb, 16, none⟩)], box b2 94 [.pointer (some ⟨pb, 0, none⟩)]]) (fun i => starP f d (distT ts) = .ok (i.1.l, i.2) ∧ Cuts ts i.2) ?_ (fun i hj => ?_)
  · skip
    refine tri_seq ?_; refine tri_slots [(3, _), (2, _)] (.cons rfl (.cons rfl (.nil _))) ?_
    rw [show (if atT 1 distinctB ts = true then ts.drop 1 else ts) = distT ts from rfl]
    refine tri_region ?_; refine o_load agg94 (by repeat (first | exact Nth.z | apply Nth.s)) rfl rfl rfl ?_; refine o_callN (first := []) (cap := []) [pb] (by repeat (first | exact Nth.z | apply Nth.s)) rfl rfl rfl Tryz.call46 lend_box lend_box' (fun w1 h1 h2 => signP [42] pb a k0 T (distT ts) d w1 (hA.subL h1.chg hna hcd hA.dep h2)) (fun ch hF => hF.elim) (fun u_ hu_ => ?_); refine triL_nilN ?_; refine tri_cond rfl (fun h0 => ?_) (fun h0 => ?_)
    · skip
      rw [if_pos h0]
      refine tri_region ?_; refine o_load agg140 (by repeat (first | exact Nth.z | apply Nth.s)) rfl rfl rfl ?_; refine o_nilCheck rfl rfl ?_; refine o_field fo35_1 rfl rfl ?_; refine o_store sz4 (by repeat (first | exact Nth.z | apply Nth.s)) rfl rfl rfl rfl rfl (Nat.le_of_ble_eq_true rfl) rfl ?_; refine triL_nilN ?_
      exact ⟨(⟨[], none, 0, [], []⟩, (distT ts).drop 1), (.cons rfl (.cons rfl (.nil _))), (fun w2 hw2 => by rw [h0]; exact (Sat.nilSeq itemKd (hw2.nilRow 53 9)).sel [4, 5, 1, 0, 2, 3] (by decide)), ⟨by rw [starP, if_pos h0], cuts_one hcd (by decide) h0⟩⟩
    · skip
      rw [if_neg (ne_t h0)]
      refine tri_region ?_; refine o_load agg94 (by repeat (first | exact Nth.z | apply Nth.s)) rfl rfl rfl ?_; refine o_load agg94 (by repeat (first | exact Nth.z | apply Nth.s)) rfl rfl rfl ?_; refine o_makeFunc rfl rfl rfl ?_; refine o_makeFunc rfl rfl rfl ?_; refine TriX.heap (H' := [pC pb a k0 T (distT ts) d, box sb 37 [X 0, X 1, X 2, X 3, X 4, X 5, X 6, X 7, X 8, X 9, X 10, X 11, X 12, X 13, X 14, X 15, .bool (atT 1 distinctB ts), .bool false, .slice none 0 0, .slice none 0 0, .int .i64 0, .int .i64 0, .int .i64 0, .string .empty, .string .empty, .string .empty, .int .i64 0, .slice none 0 0, .slice none 0 0, .bool false, .int .i64 0], row (.slice none 0 0) 53 9 0 [], seqC itemKd [] [] [], box b3 140 [.pointer (some ⟨sb, 16, none⟩)], box b2 94 [.pointer (some ⟨pb, 0, none⟩)]]) (fun w hw => (Sat.nilSeq itemKd (hw.nilRow 53 9)).sel [4, 5, 1, 0, 2, 3] (by decide)) ?_; refine o_callMP (first := []) (cap := []) [] (pC pb a k0 T (distT ts) d :: (lsD itemKd sb 53 (fun s => [X 0, X 1, X 2, X 3, X 4, X 5, X 6, X 7, X 8, X 9, X 10, X 11, X 12, X 13, X 14, X 15, .bool (atT 1 distinctB ts), .bool false, .slice s.A s.l.length s.c, .slice none 0 0, .int .i64 0, .int .i64 0, .int .i64 0, .string .empty, .string .empty, .string .empty, .int .i64 0, .slice none 0 0, .slice none 0 0, .bool false, .int .i64 0])) (⟨[], none, 0, [], []⟩ : LS ItemX)) [box b3 140 [.pointer (some ⟨sb, 16, none⟩)], box b2 94 [.pointer (some ⟨pb, 0, none⟩)]] (pb :: lsL sb (⟨[], none, 0, [], []⟩ : LS ItemX)) rfl rfl rfl rfl Tryz.call96 (lendC1 (lsDL itemKd sb 53 (fun s => [X 0, X 1, X 2, X 3, X 4, X 5, X 6, X 7, X 8, X 9, X 10, X 11, X 12, X 13, X 14, X 15, .bool (atT 1 distinctB ts), .bool false, .slice s.A s.l.length s.c, .slice none 0 0, .int .i64 0, .int .i64 0, .int .i64 0, .string .empty, .string .empty, .string .empty, .int .i64 0, .slice none 0 0, .slice none 0 0, .bool false, .int .i64 0]) (⟨[], none, 0, [], []⟩ : LS ItemX)).1) (lendC2 (lsDL itemKd sb 53 (fun s => [X 0, X 1, X 2, X 3, X 4, X 5, X 6, X 7, X 8, X 9, X 10, X 11, X 12, X 13, X 14, X 15, .bool (atT 1 distinctB ts), .bool false, .slice s.A s.l.length s.c, .slice none 0 0, .int .i64 0, .int .i64 0, .int .i64 0, .string .empty, .string .empty, .string .empty, .int .i64 0, .slice none 0 0, .slice none 0 0, .bool false, .int .i64 0]) (⟨[], none, 0, [], []⟩ : LS ItemX)).2) (fun w1 h1 h2 => have hna' : a.block ∉ pb :: lsL sb (⟨[], none, 0, [], []⟩ : LS ItemX) := (by simpa [lsL] using hna); have nb_b2 : b2 ∉ pb :: lsL sb (⟨[], none, 0, [], []⟩ : LS ItemX) := (by intro hm; rcases List.mem_cons.1 hm with hm | hm; exact h1.neB (.s (.s (.s (.s (.s .z))))) .z (by decide) rfl hm; have hm : b2 = sb := (by simpa [lsL] using hm); exact h1.neB (.s (.s (.s (.s (.s .z))))) (.s .z) (by decide) rfl hm); have nb_b3 : b3 ∉ pb :: lsL sb (⟨[], none, 0, [], []⟩ : LS ItemX) := (by intro hm; rcases List.mem_cons.1 hm with hm | hm; exact h1.neB (.s (.s (.s (.s .z)))) .z (by decide) rfl hm; have hm : b3 = sb := (by simpa [lsL] using hm); exact h1.neB (.s (.s (.s (.s .z)))) (.s .z) (by decide) rfl hm); listK LS.l (lsD itemKd sb 53 (fun s => [X 0, X 1, X 2, X 3, X 4, X 5, X 6, X 7, X 8, X 9, X 10, X 11, X 12, X 13, X 14, X 15, .bool (atT 1 distinctB ts), .bool false, .slice s.A s.l.length s.c, .slice none 0 0, .int .i64 0, .int .i64 0, .int .i64 0, .string .empty, .string .empty, .string .empty, .int .i64 0, .slice none 0 0, .slice none 0 0, .bool false, .int .i64 0])) (lsL sb) (fun s n => s.l.length = n) begT (itemP f d) 137 142 [.pointer (some ⟨b2, 0, none⟩), .pointer (some ⟨b3, 0, none⟩)] (⟨[], none, 0, [], []⟩ : LS ItemX) pb a k0 T (distT ts) d w1 (hA.subL h1.chg hna hcd hA.dep h2.sel1) h2 hna' rfl (fun s => lsDL itemKd sb 53 (fun s => [X 0, X 1, X 2, X 3, X 4, X 5, X 6, X 7, X 8, X 9, X 10, X 11, X 12, X 13, X 14, X 15, .bool (atT 1 distinctB ts), .bool false, .slice s.A s.l.length s.c, .slice none 0 0, .int .i64 0, .int .i64 0, .int .i64 0, .string .empty, .string .empty, .string .empty, .int .i64 0, .slice none 0 0, .slice none 0 0, .bool false, .int .i64 0]) s) Tryz.call137 Tryz.call142 (fun us w h => beginsP pb a k0 T us d w h) (fun s n us w' hcu hI hn hat hch hs hkp => item1K f b2 b3 sb (ofL [X 0, X 1, X 2, X 3, X 4, X 5, X 6, X 7, X 8, X 9, X 10, X 11, X 12, X 13, X 14, X 15, .bool (atT 1 distinctB ts), .bool false, .slice none 0 0, .slice none 0 0, .int .i64 0, .int .i64 0, .int .i64 0, .string .empty, .string .empty, .string .empty, .int .i64 0, .slice none 0 0, .slice none 0 0, .bool false, .int .i64 0]) s n pb a k0 T us d w' hat hs (hkp a.block (Nat.lt_of_lt_of_le hA.lt h1.chg.size) hna') ((RdS.box (.s (.s (.s (.s (.s .z))))) w1 h1).chg hch (by intro a' ha; cases ha; exact nb_b2)) (hkp b2 (h1.lt (Nth.mem (.s (.s (.s (.s (.s .z)))))) rfl) nb_b2) ((RdS.box (.s (.s (.s (.s .z)))) w1 h1).chg hch (by intro a' ha; cases ha; exact nb_b3)) (hkp b3 (h1.lt (Nth.mem (.s (.s (.s (.s .z))))) rfl) nb_b3) hI hn (by have := hcu.1.length_le; have := hcd.1.length_le; omega)) (fun _ _ _ _ hg h => item_cuts hg h)) (fun ch ⟨x, hx1, hx2⟩ => fin_panic ⟨x, qe1 (by rw [starP, if_neg (by rw [h0]; decide)]; exact hx1), hx2⟩) (fun j hj => ?_); refine triL_nilN ?_
      exact ⟨j, (.cons rfl (.cons rfl (.nil _))), (fun w2 hw2 => by rw [h0]; exact hw2), ⟨by rw [starP, if_neg (by rw [h0]; decide)]; exact hj, hcd.trans (list_cuts (fun _ _ _ _ hg h => item_cuts hg h) _ _ _ _ _ _ hcd.2 hj)⟩⟩
  obtain ⟨hi1, hi2⟩ := hj
  refine tri_join (ι := LS SrcX × List Tok) (fun q => [(2, .pointer (some ⟨b2, 0, none⟩)), (3, .pointer (some ⟨b3, 0, none⟩))]) (fun q => [pC pb a k0 T q.2 d, box sb 37 [X 0, X 1, X 2, X 3, X 4, X 5, X 6, X 7, X 8, X 9, X 10, X 11, X 12, X 13, X 14, X 15, .bool (atT 1 distinctB ts), .bool (atT 4 [42] (distT ts)), .slice i.1.A i.1.l.length i.1.c, .slice q.1.A q.1.l.length q.1.c, .int .i64 0, .int .i64 0, .int .i64 0, .string .empty, .string .empty, .string .empty, .int .i64 0, .slice none 0 0, .slice none 0 0, .bool false, .int .i64 0], row (.slice q.1.A q.1.l.length q.1.c) 87 srcKd.z q.1.l.length q.1.xs, seqC srcKd q.1.bl q.1.l q.1.xs, row (.slice i.1.A i.1.l.length i.1.c) 53 itemKd.z i.1.l.length i.1.xs, seqC itemKd i.1.bl i.1.l i.1.xs, box b3 140 [.pointer (some ⟨sb, 16, none⟩)], box b2 94 [.pointer (some ⟨pb, 0, none⟩)]]) (fun q => fromP f d i.2 = .ok (q.1.l, q.2) ∧ Cuts ts q.2) ?_ (fun q hj => ?_)
  · skip
    refine tri_seq (tri_region ?_); refine o_load agg94 (by repeat (first | exact Nth.z | apply Nth.s)) rfl rfl rfl ?_; refine o_callN (first := []) (cap := []) [pb] (by repeat (first | exact Nth.z | apply Nth.s)) rfl rfl rfl Tryz.call90 lend_box lend_box' (fun w1 h1 h2 => wordP fromB pb a k0 T i.2 d w1 (hA.subL h1.chg hna hi2 hA.dep h2)) (fun ch hF => hF.elim) (fun u_ hu_ => ?_); refine triL_nilN ?_; refine tri_cond rfl (fun h1q => ?_) (fun h1q => ?_)
    · skip
      rw [if_pos h1q]
      have hc1 := cuts_one hi2 (by decide) h1q
      refine tri_seq ?_; refine Tri.heap (H' := [row (.slice none 0 0) 87 10 0 [], pC pb a k0 T (i.2.drop 1) d, box sb 37 [X 0, X 1, X 2, X 3, X 4, X 5, X 6, X 7, X 8, X 9, X 10, X 11, X 12, X 13, X 14, X 15, .bool (atT 1 distinctB ts), .bool (atT 4 [42] (distT ts)), .slice i.1.A i.1.l.length i.1.c, .slice none 0 0, .int .i64 0, .int .i64 0, .int .i64 0, .string .empty, .string .empty, .string .empty, .int .i64 0, .slice none 0 0, .slice none 0 0, .bool false, .int .i64 0], row (.slice i.1.A i.1.l.length i.1.c) 53 itemKd.z i.1.l.length i.1.xs, seqC itemKd i.1.bl i.1.l i.1.xs, box b3 140 [.pointer (some ⟨sb, 16, none⟩)], box b2 94 [.pointer (some ⟨pb, 0, none⟩)]]) (fun w hw => hw.nilRow 87 10) ?_; refine MP.tri_mix ([box b3 140 [.pointer (some ⟨sb, 16, none⟩)], box b2 94 [.pointer (some ⟨pb, 0, none⟩)], box sb 37 [X 0, X 1, X 2, X 3, X 4, X 5, X 6, X 7, X 8, X 9, X 10, X 11, X 12, X 13, X 14, X 15, .bool (atT 1 distinctB ts), .bool (atT 4 [42] (distT ts)), .slice i.1.A i.1.l.length i.1.c, .slice none 0 0, .int .i64 0, .int .i64 0, .int .i64 0, .string .empty, .string .empty, .string .empty, .int .i64 0, .slice none 0 0, .slice none 0 0, .bool false, .int .i64 0]]) [(0, true), (1, true), (2, true), (3, true), (4, true), (5, true), (6, false), (7, false), (8, false), (9, false), (10, false), (11, false)] [9, 10, 11] (by kernel_rfl) (by kernel_rfl) (fun _ h => h.sel [5, 6, 2] (by decide)) ?_; refine MP.mix_fix rfl ?_; refine o_load agg140 (by repeat (first | exact Nth.z | apply Nth.s)) rfl rfl rfl ?_; refine triL_nil ⟨rfl, ?_⟩; refine MP.mix_fix rfl ?_; refine o_load agg140 (by repeat (first | exact Nth.z | apply Nth.s)) rfl rfl rfl ?_; refine triL_nil ⟨rfl, ?_⟩; refine MP.mix_fix rfl ?_; refine o_nilCheck rfl rfl ?_; refine triL_nil ⟨rfl, ?_⟩; refine MP.mix_fix rfl ?_; refine o_field fo35_3 rfl rfl ?_; refine triL_nil ⟨rfl, ?_⟩; refine MP.mix_fix rfl ?_; refine o_load agg32 (by repeat (first | exact Nth.z | apply Nth.s)) rfl rfl rfl ?_; refine triL_nil ⟨rfl, ?_⟩; refine MP.mix_fix rfl ?_; refine o_load agg94 (by repeat (first | exact Nth.z | apply Nth.s)) rfl rfl rfl ?_; refine triL_nil ⟨rfl, ?_⟩; refine MP.mix_op rfl ?_; refine o_callN (first := []) (cap := []) [pb] (by repeat (first | exact Nth.z | apply Nth.s)) rfl rfl rfl Tryz.call143 lend_box lend_box' (fun w1 h1 h2 => sourceK pb a k0 T (i.2.drop 1) d w1 (hA.subL h1.chg hna hc1 hA.dep h2)) (fun ch ⟨x, hx1, hx2⟩ => fin_panic ⟨x, qe2 hi1 (from_bad h1q hx1), hx2⟩) (fun j hj2 => ?_); refine triL_nil (show _ ∧ _ from ⟨fun _ _ h => h.sel [5, 6, 2] (by decide), ?_⟩); refine MP.mix_op rfl ?_; refine o_lit1 Tryz.underlying32 zs87 rfl rfl rfl rfl rfl (by decide) (by decide) (fun b29 => ?_); refine triL_nil (show _ ∧ _ from ⟨fun _ _ h => h.sel [6, 7, 3] (by decide), ?_⟩); refine MP.mix_op rfl ?_; refine o_append Tryz.underlying32 zsb87 rfl (by decide) (by repeat (first | exact Nth.z | apply Nth.s)) rfl rfl rfl (RdS.row .z) rfl (allOne_spec rfl) (by unfold maxLen; omega) (by omega) (fun A30 c30 => ?_); refine triL_nil (show _ ∧ _ from ⟨fun _ _ h => h.sel [6, 7, 3] (by decide), ?_⟩); refine MP.mix_op rfl ?_; refine o_nilCheck rfl rfl ?_; refine triL_nil (show _ ∧ _ from ⟨fun hh => absurd hh (by decide), ?_⟩); refine MP.mix_op rfl ?_; refine o_field fo35_3 rfl rfl ?_; refine triL_nil (show _ ∧ _ from ⟨fun hh => absurd hh (by decide), ?_⟩); refine MP.mix_op rfl ?_; refine o_store sz32 (by repeat (first | exact Nth.z | apply Nth.s)) rfl rfl rfl rfl rfl (Nat.le_of_ble_eq_true rfl) rfl ?_; refine triL_nil (show _ ∧ _ from ⟨fun hh => absurd hh (by decide), ?_⟩); refine MP.mix_nil ?_; refine thenQ_normal ?_; refine tri_block ?_; refine tri_loop (ι := LS SrcX × List Tok) (F := fun r => [(2, .pointer (some ⟨b2, 0, none⟩)), (3, .pointer (some ⟨b3, 0, none⟩))]) (HH := fun r => [pC pb a k0 T r.2 d, box sb 37 [X 0, X 1, X 2, X 3, X 4, X 5, X 6, X 7, X 8, X 9, X 10, X 11, X 12, X 13, X 14, X 15, .bool (atT 1 distinctB ts), .bool (atT 4 [42] (distT ts)), .slice i.1.A i.1.l.length i.1.c, .slice r.1.A r.1.l.length r.1.c, .int .i64 0, .int .i64 0, .int .i64 0, .string .empty, .string .empty, .string .empty, .int .i64 0, .slice none 0 0, .slice none 0 0, .bool false, .int .i64 0], row (.slice r.1.A r.1.l.length r.1.c) 87 srcKd.z r.1.l.length r.1.xs, seqC srcKd r.1.bl r.1.l r.1.xs, row (.slice i.1.A i.1.l.length i.1.c) 53 itemKd.z i.1.l.length i.1.xs, seqC itemKd i.1.bl i.1.l i.1.xs, box b3 140 [.pointer (some ⟨sb, 16, none⟩)], box b2 94 [.pointer (some ⟨pb, 0, none⟩)]]) (Pu := fun r => 1 ≤ r.1.l.length ∧ r.1.l.length ≤ 4 ∧ fromP f d i.2 = joinsP f d (6 - r.1.l.length) r.1.l r.2 ∧ Cuts ts r.2) (μ := fun r => 5 - r.1.l.length) ((⟨[⟨j.1.1, j.1.2, Ex.zero⟩], A30, c30, ([.string (B j.1.1), .string (B j.1.2), .int .i64 0, .int .i64 0, .int .i64 0, .string .empty, .string .empty, .string .empty, .int .i64 0, .slice none 0 0] : List Value), []⟩, j.2)) (.cons rfl (.cons rfl (.nil _))) (fun w2 hw2 => (Sat.moreSeq srcKd (bl := []) (l := []) (xs := []) (a := ⟨j.1.1, j.1.2, Ex.zero⟩) (Sat.nilSeq srcKd (hw2.leaf 0 Val.zero [] [] 0)) (fun w h => srcRel h)).sel [3, 4, 2, 0, 5, 6, 7, 8] (by decide)) (⟨Nat.le_refl _, by simp, from_ok h1q hj2, hc1.trans (src_cuts hc1.2 hj2)⟩) (fun r hr => ?_)
      obtain ⟨m, hm⟩ : ∃ m, 6 - r.1.l.length = m + 1 := ⟨5 - r.1.l.length, by have := hr.2.1; omega⟩
      have hr3 := hr.2.2.1
      rw [hm] at hr3
      have hr1 := hr.1
      have hr4 := hr.2.1
      refine tri_seq ?_; refine tri_seq (tri_region ?_); refine o_load agg94 (by repeat (first | exact Nth.z | apply Nth.s)) rfl rfl rfl ?_; refine o_callN (first := []) (cap := []) [pb] (by repeat (first | exact Nth.z | apply Nth.s)) rfl rfl rfl Tryz.call90 lend_box lend_box' (fun w1 h1 h2 => wordP joinB pb a k0 T r.2 d w1 (hA.subL h1.chg hna hr.2.2.2 hA.dep h2)) (fun ch hF => hF.elim) (fun u_ hu_ => ?_); refine triL_nilN ?_; refine tri_cond rfl (fun h2q => ?_) (fun h2q => ?_)
      · skip
        rw [if_pos h2q]
        have hc2 := cuts_one hr.2.2.2 (by decide) h2q
        refine tri_skip ?_; refine thenQ_normal ?_; refine tri_block ?_; refine tri_seq ?_; refine tri_seq (tri_region ?_); refine o_load agg94 (by repeat (first | exact Nth.z | apply Nth.s)) rfl rfl rfl ?_; refine o_callN (first := []) (cap := []) [pb] (by repeat (first | exact Nth.z | apply Nth.s)) rfl rfl rfl Tryz.call97 lend_box lend_box' (fun w1 h1 h2 => namedP pb a k0 T (r.2.drop 1) d w1 (hA.subL h1.chg hna hc2 hA.dep h2)) (fun ch hF => hF.elim) (fun u_ hu_ => ?_); refine o_move rfl rfl ?_
        refine' triL_and [_, _, _, _, _, _] [(2, _), (3, _)] (dj := 37) (dr := 43) rfl rfl (fun g1 => ?_) ⟨_, rfl, rfl, rfl, (.cons rfl (.cons rfl (.nil _)))⟩ rfl ?_
        rotate_left
        · skip
          refine o_load agg140 (by repeat (first | exact Nth.z | apply Nth.s)) rfl rfl rfl ?_; refine o_nilCheck rfl rfl ?_; refine o_field fo35_3 rfl rfl ?_; refine o_load agg32 (by repeat (first | exact Nth.z | apply Nth.s)) rfl rfl rfl ?_; refine o_lenS Tryz.underlying32 rfl rfl ?_; refine o_eqlI rfl rfl rfl ?_
          exact triL_nil (Piece.mk rfl rfl (.cons rfl (.cons rfl (.nil _))) (fun _ h => h))
        refine triL_nilN ?_; refine tri_cond rfl (fun h3q => ?_) (fun h3q => ?_)
        · skip
          have h3q : nmT (r.2.drop 1) = true ∧ r.1.l.length = 4 := by rw [Bool.and_eq_true, decide_eq_true_eq] at h3q; exact ⟨h3q.1, by have := h3q.2; omega⟩
          refine tri_region ?_; refine o_load agg94 (by repeat (first | exact Nth.z | apply Nth.s)) rfl rfl rfl ?_
          refine o_callN (first := []) (cap := []) [pb] (by repeat (first | exact Nth.z | apply Nth.s)) rfl rfl rfl Tryz.call47 lend_box lend_box' (fun w1 h1 h2 => failK 3 pb a k0 T (r.2.drop 1) d w1 (hA.subL h1.chg hna hc2 hA.dep h2)) (fun ch hF => fin_panic ⟨_, qe2 hi1 (hr3.trans (joins_bad h2q (join_e1 h3q))), hF⟩) (fun j hj => hj.elim)
        · skip
          have h3q : ¬ (nmT (r.2.drop 1) = true ∧ r.1.l.length = 4) := fun e => Bool.eq_false_iff.1 h3q (by rw [Bool.and_eq_true, decide_eq_true_eq]; exact ⟨e.1, by have := e.2; omega⟩)
          have hlt4 : nmT (r.2.drop 1) = true → r.1.l.length < 4 := fun e => Nat.lt_of_le_of_ne hr4 (fun e2 => h3q ⟨e, e2⟩)
          refine tri_skip ?_; refine thenQ_normal ?_; refine tri_seq (tri_region ?_); refine o_load agg94 (by repeat (first | exact Nth.z | apply Nth.s)) rfl rfl rfl ?_; refine o_callN (first := []) (cap := []) [pb] (by repeat (first | exact Nth.z | apply Nth.s)) rfl rfl rfl Tryz.call143 lend_box lend_box' (fun w1 h1 h2 => sourceK pb a k0 T (r.2.drop 1) d w1 (hA.subL h1.chg hna hc2 hA.dep h2)) (fun ch ⟨x, hx1, hx2⟩ => fin_panic ⟨x, qe2 hi1 (hr3.trans (joins_bad h2q (join_e2 h3q hx1))), hx2⟩) (fun j2 hj3 => ?_); refine o_alloc _ rfl zero87 rfl (fun b4 => ?_); refine o_store sz87 (by repeat (first | exact Nth.z | apply Nth.s)) rfl rfl rfl rfl rfl (Nat.le_of_ble_eq_true rfl) rfl ?_; refine triL_nilN ?_; refine tri_seq ?_
          have hc3 := hc2.trans (src_cuts hc2.2 hj3)
          have hlt5 := hlt4 (src_nm hj3)
          refine tri_region ?_; refine o_load agg94 (by repeat (first | exact Nth.z | apply Nth.s)) rfl rfl rfl ?_; refine o_lit1 Tryz.underlying23 zs9 rfl rfl rfl rfl rfl (by decide) (by decide) (fun b50 => ?_); refine o_callN (first := []) (cap := []) [pb] (by repeat (first | exact Nth.z | apply Nth.s)) rfl rfl rfl Tryz.call93 lend_box lend_box' (fun w1 h1 h2 => wordsP onB (some ⟨b50, 0, none⟩) 1 pb a k0 T j2.2 d w1 (hA.subL h1.chg hna hc3 hA.dep h2) (RdS.row .z w1 h1) (by intro a' ha; cases ha; exact h1.neB .z (.s (.s .z)) (by decide) rfl)) (fun ch ⟨hb1, hb2⟩ => fin_panic ⟨_, qe2 hi1 (hr3.trans (joins_bad h2q (join_e3 h3q hj3 hb1))), hb2⟩) (fun u_ hok => ?_); refine triL_nilN ?_; refine tri_seq ?_; refine tri_slots [(4, _), (2, _), (3, _)] (.cons rfl (.cons rfl (.cons rfl (.nil _)))) ?_
          have hc4 := cuts_one hc3 (by decide) hok
          refine tri_region ?_; refine o_load agg94 (by repeat (first | exact Nth.z | apply Nth.s)) rfl rfl rfl ?_; refine o_callN (first := []) (cap := []) [pb] (by repeat (first | exact Nth.z | apply Nth.s)) rfl rfl rfl Tryz.call100 lend_box lend_box' (fun w1 h1 h2 => (xall f).l1 pb a k0 T (j2.2.drop 1) d w1 (hA.subL h1.chg hna hc4 hA.dep h2) (by have := hc4.1.length_le; omega)) (fun ch ⟨x, hx1, hx2⟩ => fin_panic ⟨x, qe2 hi1 (hr3.trans (joins_bad h2q (join_e4 h3q hj3 hok hx1))), hx2⟩) (fun j hj => ?_); refine TriX.know (fun w2 hw2 => tree_form (hw2.holds _ (Nth.mem (i := 0) .z))) (fun ⟨z1, z2, z3, z7, z4, z5, z6, z8, z9, z0, hcs_z⟩ => ?_)
          rw [hcs_z]
          refine o_field fo87_2 rfl rfl ?_; refine o_store sz30 (by repeat (first | exact Nth.z | apply Nth.s)) rfl rfl rfl rfl rfl (Nat.le_of_ble_eq_true rfl) rfl ?_; refine triL_nilN ?_
          have hc5 := hc4.trans (exP_takes f 1 d _ hc4.2 j.e j.us hj.1).1
          refine MP.tri_mix ([box b3 140 [.pointer (some ⟨sb, 16, none⟩)], box b2 94 [.pointer (some ⟨pb, 0, none⟩)], box b4 87 [.string (B j2.1.1), .string (B j2.1.2), .int .i64 z1, .int .i64 z2, .int .i64 z3, .string z4, .string z5, .string z6, .int .i64 z7, .slice z8 z9 z0], box sb 37 [X 0, X 1, X 2, X 3, X 4, X 5, X 6, X 7, X 8, X 9, X 10, X 11, X 12, X 13, X 14, X 15, .bool (atT 1 distinctB ts), .bool (atT 4 [42] (distT ts)), .slice i.1.A i.1.l.length i.1.c, .slice r.1.A r.1.l.length r.1.c, .int .i64 0, .int .i64 0, .int .i64 0, .string .empty, .string .empty, .string .empty, .int .i64 0, .slice none 0 0, .slice none 0 0, .bool false, .int .i64 0]]) [(0, true), (1, true), (2, true), (3, true), (4, true), (5, true), (6, false), (7, false), (8, false), (9, false), (10, false)] [8, 9, 10] (by kernel_rfl) (by kernel_rfl) (fun _ h => h.sel [9, 10, 2, 4] (by decide)) ?_; refine MP.mix_fix rfl ?_; refine o_load agg140 (by repeat (first | exact Nth.z | apply Nth.s)) rfl rfl rfl ?_; refine triL_nil ⟨rfl, ?_⟩; refine MP.mix_fix rfl ?_; refine o_load agg140 (by repeat (first | exact Nth.z | apply Nth.s)) rfl rfl rfl ?_; refine triL_nil ⟨rfl, ?_⟩; refine MP.mix_fix rfl ?_; refine o_nilCheck rfl rfl ?_; refine triL_nil ⟨rfl, ?_⟩; refine MP.mix_fix rfl ?_; refine o_field fo35_3 rfl rfl ?_; refine triL_nil ⟨rfl, ?_⟩; refine MP.mix_fix rfl ?_; refine o_load agg32 (by repeat (first | exact Nth.z | apply Nth.s)) rfl rfl rfl ?_; refine triL_nil ⟨rfl, ?_⟩; refine MP.mix_fix rfl ?_; refine o_loadA agg87 sz87 (by repeat (first | exact Nth.z | apply Nth.s)) rfl rfl rfl rfl ?_; refine triL_nil ⟨rfl, ?_⟩; refine MP.mix_op rfl ?_; refine o_lit1 Tryz.underlying32 zs87 rfl rfl rfl rfl rfl (by decide) (by decide) (fun b61 => ?_); refine triL_nil (show _ ∧ _ from ⟨fun _ _ h => h.sel [10, 11, 3, 5] (by decide), ?_⟩); refine MP.mix_op rfl ?_; refine o_append Tryz.underlying32 zsb87 rfl (by decide) (by repeat (first | exact Nth.z | apply Nth.s)) rfl rfl rfl (RdS.row .z) rfl (allOne_spec rfl) (by unfold maxLen; omega) (by omega) (fun A62 c62 => ?_); refine triL_nil (show _ ∧ _ from ⟨fun _ _ h => h.sel [10, 11, 3, 5] (by decide), ?_⟩); refine MP.mix_op rfl ?_; refine o_nilCheck rfl rfl ?_; refine triL_nil (show _ ∧ _ from ⟨fun hh => absurd hh (by decide), ?_⟩); refine MP.mix_op rfl ?_; refine o_field fo35_3 rfl rfl ?_; refine triL_nil (show _ ∧ _ from ⟨fun hh => absurd hh (by decide), ?_⟩); refine MP.mix_op rfl ?_; refine o_store sz32 (by repeat (first | exact Nth.z | apply Nth.s)) rfl rfl rfl rfl rfl (Nat.le_of_ble_eq_true rfl) rfl ?_; refine triL_nil (show _ ∧ _ from ⟨fun hh => absurd hh (by decide), ?_⟩); refine MP.mix_nil ?_; refine blockQ_normal ?_; refine thenQ_normal ?_
          exact ⟨(⟨r.1.l ++ [⟨j2.1.1, j2.1.2, j.e⟩], A62, c62, r.1.xs ++ ([.string (B j2.1.1), .string (B j2.1.2), .int .i64 z1, .int .i64 z2, .int .i64 z3, .string z4, .string z5, .string z6, .int .i64 z7, .slice z8 z9 z0] : List Value), r.1.bl ++ j.bl⟩, j.us), (.cons rfl (.cons rfl (.nil _))), (fun w2 hw2 => by
  have e1 := Sat.moreSeq srcKd (a := ⟨j2.1.1, j2.1.2, j.e⟩) (hw2.sel [7, 1, 4, 5, 6, 8, 9, 10, 11] (by decide)) (fun w h => srcRel h)
  simp only [List.length_append, List.length_singleton]
  exact e1.sel [1, 2, 3, 0, 4, 5, 6, 7] (by decide)), ⟨by simp, by simp only [List.length_append, List.length_singleton]; omega, by simp only [List.length_append, List.length_singleton]; rw [hr3, joins_ok h2q (join_ok h3q hj3 hok hj.1), show 6 - (r.1.l.length + 1) = m by omega], hc5⟩, (by simp only [List.length_append, List.length_singleton]; omega)⟩
      · skip
        rw [if_neg (ne_t h2q)]
        refine tri_exit ?_; refine thenQ_exit ?_; refine thenQ_exit ?_; refine blockQ_here ?_; refine thenQ_normal ?_
        exact ⟨r, (.cons rfl (.cons rfl (.nil _))), fun _ h => h, ⟨hr3.trans (joins_no h2q), hr.2.2.2⟩⟩
    · skip
      rw [if_neg (ne_t h1q)]
      refine tri_skip ?_; refine thenQ_normal ?_
      exact ⟨(⟨[], none, 0, [], []⟩, i.2), (.cons rfl (.cons rfl (.nil _))), (fun w2 hw2 => (Sat.nilSeq srcKd (hw2.nilRow 87 10)).sel [2, 3, 1, 0, 4, 5, 6, 7] (by decide)), ⟨from_no h1q, hi2⟩⟩
  obtain ⟨hq1, hq2⟩ := hj
  refine tri_seq ?_; refine MP.tri_mix ([box b3 140 [.pointer (some ⟨sb, 16, none⟩)], box b2 94 [.pointer (some ⟨pb, 0, none⟩)]]) [(0, true), (1, true), (2, false), (3, false), (4, false), (5, false)] [3, 4, 5] (by kernel_rfl) (by kernel_rfl) (fun _ h => h.sel [6, 7] (by decide)) ?_; refine MP.mix_fix rfl ?_; refine o_load agg140 (by repeat (first | exact Nth.z | apply Nth.s)) rfl rfl rfl ?_; refine triL_nil ⟨rfl, ?_⟩; refine MP.mix_fix rfl ?_; refine o_load agg94 (by repeat (first | exact Nth.z | apply Nth.s)) rfl rfl rfl ?_; refine triL_nil ⟨rfl, ?_⟩; refine MP.mix_op rfl ?_; refine o_callN (first := []) (cap := []) [pb] (by repeat (first | exact Nth.z | apply Nth.s)) rfl rfl rfl Tryz.call95 lend_box lend_box' (fun w1 h1 h2 => whereK f pb a k0 T q.2 d w1 (hA.subL h1.chg hna hq2 hA.dep h2) (by have := hq2.1.length_le; omega)) (fun ch ⟨x, hx1, hx2⟩ => fin_panic ⟨x, qe3 hi1 hq1 hx1, hx2⟩) (fun e he => ?_); refine TriX.know (fun w2 hw2 => tree_form (hw2.holds _ (Nth.mem (i := 0) .z))) (fun ⟨y1, y2, y3, y7, y4, y5, y6, y8, y9, y0, hcs_y⟩ => ?_)
  rw [hcs_y]
  refine triL_nil (show _ ∧ _ from ⟨fun _ _ h => h.sel [7, 8] (by decide), ?_⟩); refine MP.mix_op rfl ?_; refine o_nilCheck rfl rfl ?_; refine triL_nil (show _ ∧ _ from ⟨fun hh => absurd hh (by decide), ?_⟩); refine MP.mix_op rfl ?_; refine o_field fo35_4 rfl rfl ?_; refine triL_nil (show _ ∧ _ from ⟨fun hh => absurd hh (by decide), ?_⟩); refine MP.mix_op rfl ?_; refine o_store sz30 (by repeat (first | exact Nth.z | apply Nth.s)) rfl rfl rfl rfl rfl (Nat.le_of_ble_eq_true rfl) rfl ?_; refine triL_nil (show _ ∧ _ from ⟨fun hh => absurd hh (by decide), ?_⟩); refine MP.mix_nil ?_; refine thenQ_normal ?_; refine tri_join (ι := LS OrdX × List Tok) (fun o => [(2, .pointer (some ⟨b2, 0, none⟩)), (3, .pointer (some ⟨b3, 0, none⟩))]) (fun o => [pC pb a k0 T o.2 d, box sb 37 [X 0, X 1, X 2, X 3, X 4, X 5, X 6, X 7, X 8, X 9, X 10, X 11, X 12, X 13, X 14, X 15, .bool (atT 1 distinctB ts), .bool (atT 4 [42] (distT ts)), .slice i.1.A i.1.l.length i.1.c, .slice q.1.A q.1.l.length q.1.c, .int .i64 y1, .int .i64 y2, .int .i64 y3, .string y4, .string y5, .string y6, .int .i64 y7, .slice y8 y9 y0, .slice o.1.A o.1.l.length o.1.c, .bool false, .int .i64 0], row (.slice o.1.A o.1.l.length o.1.c) 121 ordKd.z o.1.l.length o.1.xs, seqC ordKd o.1.bl o.1.l o.1.xs, treeC e.bl e.e [.int .i64 y1, .int .i64 y2, .int .i64 y3, .string y4, .string y5, .string y6, .int .i64 y7, .slice y8 y9 y0], row (.slice q.1.A q.1.l.length q.1.c) 87 srcKd.z q.1.l.length q.1.xs, seqC srcKd q.1.bl q.1.l q.1.xs, row (.slice i.1.A i.1.l.length i.1.c) 53 itemKd.z i.1.l.length i.1.xs, seqC itemKd i.1.bl i.1.l i.1.xs, box b3 140 [.pointer (some ⟨sb, 16, none⟩)], box b2 94 [.pointer (some ⟨pb, 0, none⟩)]]) (fun o => orderP e.us = .ok (o.1.l, o.2) ∧ Cuts ts o.2) ?_ (fun o hj => ?_)
  · skip
    refine tri_seq ?_; refine tri_slots [(2, _), (3, _)] (.cons rfl (.cons rfl (.nil _))) ?_
    have hce := hq2.trans (where_cuts hq2.2 he.1)
    refine tri_region ?_; refine o_load agg94 (by repeat (first | exact Nth.z | apply Nth.s)) rfl rfl rfl ?_; refine o_callN (first := []) (cap := []) [pb] (by repeat (first | exact Nth.z | apply Nth.s)) rfl rfl rfl Tryz.call90 lend_box lend_box' (fun w1 h1 h2 => wordP orderB pb a k0 T e.us d w1 (hA.subL h1.chg hna hce hA.dep h2)) (fun ch hF => hF.elim) (fun u_ hu_ => ?_); refine triL_nilN ?_; refine tri_cond rfl (fun h4q => ?_) (fun h4q => ?_)
    · skip
      rw [if_pos h4q]
      have hc6 := cuts_one hce (by decide) h4q
      refine tri_seq (tri_region ?_); refine o_load agg94 (by repeat (first | exact Nth.z | apply Nth.s)) rfl rfl rfl ?_; refine o_lit1 Tryz.underlying23 zs9 rfl rfl rfl rfl rfl (by decide) (by decide) (fun b73 => ?_); refine o_callN (first := []) (cap := []) [pb] (by repeat (first | exact Nth.z | apply Nth.s)) rfl rfl rfl Tryz.call93 lend_box lend_box' (fun w1 h1 h2 => wordsP byB (some ⟨b73, 0, none⟩) 1 pb a k0 T (e.us.drop 1) d w1 (hA.subL h1.chg hna hc6 hA.dep h2) (RdS.row .z w1 h1) (by intro a' ha; cases ha; exact h1.neB .z (.s (.s .z)) (by decide) rfl)) (fun ch ⟨hb1, hb2⟩ => fin_panic ⟨_, qe4 hi1 hq1 he.1 (order_bad h4q hb1), hb2⟩) (fun u_ hok => ?_); refine triL_nilN ?_; refine tri_slots [(2, _), (3, _)] (.cons rfl (.cons rfl (.nil _))) ?_
      have hc7 := cuts_one hc6 (by decide) hok
      refine tri_region ?_; refine o_load agg94 (by repeat (first | exact Nth.z | apply Nth.s)) rfl rfl rfl ?_; refine o_load agg94 (by repeat (first | exact Nth.z | apply Nth.s)) rfl rfl rfl ?_; refine o_makeFunc rfl rfl rfl ?_; refine o_makeFunc rfl rfl rfl ?_; refine TriX.heap (H' := [pC pb a k0 T ((e.us.drop 1).drop 1) d, box sb 37 [X 0, X 1, X 2, X 3, X 4, X 5, X 6, X 7, X 8, X 9, X 10, X 11, X 12, X 13, X 14, X 15, .bool (atT 1 distinctB ts), .bool (atT 4 [42] (distT ts)), .slice i.1.A i.1.l.length i.1.c, .slice q.1.A q.1.l.length q.1.c, .int .i64 y1, .int .i64 y2, .int .i64 y3, .string y4, .string y5, .string y6, .int .i64 y7, .slice y8 y9 y0, .slice none 0 0, .bool false, .int .i64 0], row (.slice none 0 0) 121 2 0 [], seqC ordKd [] [] [], treeC e.bl e.e [.int .i64 y1, .int .i64 y2, .int .i64 y3, .string y4, .string y5, .string y6, .int .i64 y7, .slice y8 y9 y0], row (.slice q.1.A q.1.l.length q.1.c) 87 srcKd.z q.1.l.length q.1.xs, seqC srcKd q.1.bl q.1.l q.1.xs, row (.slice i.1.A i.1.l.length i.1.c) 53 itemKd.z i.1.l.length i.1.xs, seqC itemKd i.1.bl i.1.l i.1.xs, box b3 140 [.pointer (some ⟨sb, 16, none⟩)], box b2 94 [.pointer (some ⟨pb, 0, none⟩)]]) (fun w hw => (Sat.nilSeq ordKd (hw.nilRow 121 2)).sel [4, 5, 1, 0, 3, 6, 7, 8, 9, 10, 11] (by decide)) ?_; refine o_callMP (first := []) (cap := []) [] (pC pb a k0 T ((e.us.drop 1).drop 1) d :: (lsD ordKd sb 121 (fun s => [X 0, X 1, X 2, X 3, X 4, X 5, X 6, X 7, X 8, X 9, X 10, X 11, X 12, X 13, X 14, X 15, .bool (atT 1 distinctB ts), .bool (atT 4 [42] (distT ts)), .slice i.1.A i.1.l.length i.1.c, .slice q.1.A q.1.l.length q.1.c, .int .i64 y1, .int .i64 y2, .int .i64 y3, .string y4, .string y5, .string y6, .int .i64 y7, .slice y8 y9 y0, .slice s.A s.l.length s.c, .bool false, .int .i64 0])) (⟨[], none, 0, [], []⟩ : LS OrdX)) [treeC e.bl e.e [.int .i64 y1, .int .i64 y2, .int .i64 y3, .string y4, .string y5, .string y6, .int .i64 y7, .slice y8 y9 y0], row (.slice q.1.A q.1.l.length q.1.c) 87 srcKd.z q.1.l.length q.1.xs, seqC srcKd q.1.bl q.1.l q.1.xs, row (.slice i.1.A i.1.l.length i.1.c) 53 itemKd.z i.1.l.length i.1.xs, seqC itemKd i.1.bl i.1.l i.1.xs, box b3 140 [.pointer (some ⟨sb, 16, none⟩)], box b2 94 [.pointer (some ⟨pb, 0, none⟩)]] (pb :: lsL sb (⟨[], none, 0, [], []⟩ : LS OrdX)) rfl rfl rfl rfl Tryz.call96 (lendC1 (lsDL ordKd sb 121 (fun s => [X 0, X 1, X 2, X 3, X 4, X 5, X 6, X 7, X 8, X 9, X 10, X 11, X 12, X 13, X 14, X 15, .bool (atT 1 distinctB ts), .bool (atT 4 [42] (distT ts)), .slice i.1.A i.1.l.length i.1.c, .slice q.1.A q.1.l.length q.1.c, .int .i64 y1, .int .i64 y2, .int .i64 y3, .string y4, .string y5, .string y6, .int .i64 y7, .slice y8 y9 y0, .slice s.A s.l.length s.c, .bool false, .int .i64 0]) (⟨[], none, 0, [], []⟩ : LS OrdX)).1) (lendC2 (lsDL ordKd sb 121 (fun s => [X 0, X 1, X 2, X 3, X 4, X 5, X 6, X 7, X 8, X 9, X 10, X 11, X 12, X 13, X 14, X 15, .bool (atT 1 distinctB ts), .bool (atT 4 [42] (distT ts)), .slice i.1.A i.1.l.length i.1.c, .slice q.1.A q.1.l.length q.1.c, .int .i64 y1, .int .i64 y2, .int .i64 y3, .string y4, .string y5, .string y6, .int .i64 y7, .slice y8 y9 y0, .slice s.A s.l.length s.c, .bool false, .int .i64 0]) (⟨[], none, 0, [], []⟩ : LS OrdX)).2) (fun w1 h1 h2 => have hna' : a.block ∉ pb :: lsL sb (⟨[], none, 0, [], []⟩ : LS OrdX) := (by simpa [lsL] using hna); have nb_b2 : b2 ∉ pb :: lsL sb (⟨[], none, 0, [], []⟩ : LS OrdX) := (by intro hm; rcases List.mem_cons.1 hm with hm | hm; exact h1.neB (.s (.s (.s (.s (.s (.s (.s (.s (.s (.s .z)))))))))) .z (by decide) rfl hm; have hm : b2 = sb := (by simpa [lsL] using hm); exact h1.neB (.s (.s (.s (.s (.s (.s (.s (.s (.s (.s .z)))))))))) (.s .z) (by decide) rfl hm); have nb_b3 : b3 ∉ pb :: lsL sb (⟨[], none, 0, [], []⟩ : LS OrdX) := (by intro hm; rcases List.mem_cons.1 hm with hm | hm; exact h1.neB (.s (.s (.s (.s (.s (.s (.s (.s (.s .z))))))))) .z (by decide) rfl hm; have hm : b3 = sb := (by simpa [lsL] using hm); exact h1.neB (.s (.s (.s (.s (.s (.s (.s (.s (.s .z))))))))) (.s .z) (by decide) rfl hm); listK LS.l (lsD ordKd sb 121 (fun s => [X 0, X 1, X 2, X 3, X 4, X 5, X 6, X 7, X 8, X 9, X 10, X 11, X 12, X 13, X 14, X 15, .bool (atT 1 distinctB ts), .bool (atT 4 [42] (distT ts)), .slice i.1.A i.1.l.length i.1.c, .slice q.1.A q.1.l.length q.1.c, .int .i64 y1, .int .i64 y2, .int .i64 y3, .string y4, .string y5, .string y6, .int .i64 y7, .slice y8 y9 y0, .slice s.A s.l.length s.c, .bool false, .int .i64 0])) (lsL sb) (fun s n => s.l.length = n) nmT (ordP) 97 144 [.pointer (some ⟨b2, 0, none⟩), .pointer (some ⟨b3, 0, none⟩)] (⟨[], none, 0, [], []⟩ : LS OrdX) pb a k0 T ((e.us.drop 1).drop 1) d w1 (hA.subL h1.chg hna hc7 hA.dep h2.sel1) h2 hna' rfl (fun s => lsDL ordKd sb 121 (fun s => [X 0, X 1, X 2, X 3, X 4, X 5, X 6, X 7, X 8, X 9, X 10, X 11, X 12, X 13, X 14, X 15, .bool (atT 1 distinctB ts), .bool (atT 4 [42] (distT ts)), .slice i.1.A i.1.l.length i.1.c, .slice q.1.A q.1.l.length q.1.c, .int .i64 y1, .int .i64 y2, .int .i64 y3, .string y4, .string y5, .string y6, .int .i64 y7, .slice y8 y9 y0, .slice s.A s.l.length s.c, .bool false, .int .i64 0]) s) Tryz.call97 Tryz.call144 (fun us w h => namedP pb a k0 T us d w h) (fun s n us w' hcu hI hn hat hch hs hkp => ord1K f b2 b3 sb (ofL [X 0, X 1, X 2, X 3, X 4, X 5, X 6, X 7, X 8, X 9, X 10, X 11, X 12, X 13, X 14, X 15, .bool (atT 1 distinctB ts), .bool (atT 4 [42] (distT ts)), .slice i.1.A i.1.l.length i.1.c, .slice q.1.A q.1.l.length q.1.c, .int .i64 y1, .int .i64 y2, .int .i64 y3, .string y4, .string y5, .string y6, .int .i64 y7, .slice y8 y9 y0, .slice none 0 0, .bool false, .int .i64 0]) s n pb a k0 T us d w' hat hs (hkp a.block (Nat.lt_of_lt_of_le hA.lt h1.chg.size) hna') ((RdS.box (.s (.s (.s (.s (.s (.s (.s (.s (.s (.s .z)))))))))) w1 h1).chg hch (by intro a' ha; cases ha; exact nb_b2)) (hkp b2 (h1.lt (Nth.mem (.s (.s (.s (.s (.s (.s (.s (.s (.s (.s .z))))))))))) rfl) nb_b2) ((RdS.box (.s (.s (.s (.s (.s (.s (.s (.s (.s .z))))))))) w1 h1).chg hch (by intro a' ha; cases ha; exact nb_b3)) (hkp b3 (h1.lt (Nth.mem (.s (.s (.s (.s (.s (.s (.s (.s (.s .z)))))))))) rfl) nb_b3) hI hn (by have := hcu.1.length_le; have := hc7.1.length_le; omega)) (fun _ _ _ _ hg h => ord_cuts hg h)) (fun ch ⟨x, hx1, hx2⟩ => fin_panic ⟨x, qe4 hi1 hq1 he.1 ((order_is h4q hok).trans hx1), hx2⟩) (fun j hj => ?_); refine triL_nilN ?_
      exact ⟨j, (.cons rfl (.cons rfl (.nil _))), fun _ h => h, ⟨(order_is h4q hok).trans hj, hc7.trans (list_cuts (fun _ _ _ _ hg h => ord_cuts hg h) _ _ _ _ _ _ hc7.2 hj)⟩⟩
    · skip
      rw [if_neg (ne_t h4q)]
      refine tri_skip ?_; refine thenQ_normal ?_
      exact ⟨(⟨[], none, 0, [], []⟩, e.us), (.cons rfl (.cons rfl (.nil _))), (fun w2 hw2 => (Sat.nilSeq ordKd (hw2.nilRow 121 2)).sel [3, 4, 1, 0, 2, 5, 6, 7, 8, 9, 10] (by decide)), ⟨order_no h4q, hce⟩⟩
  obtain ⟨ho1, ho2⟩ := hj
  refine tri_seq (tri_region ?_); refine o_load agg94 (by repeat (first | exact Nth.z | apply Nth.s)) rfl rfl rfl ?_; refine o_callN (first := []) (cap := []) [pb] (by repeat (first | exact Nth.z | apply Nth.s)) rfl rfl rfl Tryz.call90 lend_box lend_box' (fun w1 h1 h2 => wordP limitB pb a k0 T o.2 d w1 (hA.subL h1.chg hna ho2 hA.dep h2)) (fun ch hF => hF.elim) (fun u_ hu_ => ?_); refine triL_nilN ?_; refine tri_cond rfl (fun h5q => ?_) (fun h5q => ?_)
  · skip
    rw [if_pos h5q]
    have hc8 := cuts_one ho2 (by decide) h5q
    have hto := hd_ok hA.env (hc8.1.trans hA.suf) hc8.2
    have hl8 := hc8.2.ne
    have hle8 := hc8.1.length_le
    have hle9 := hA.suf.length_le
    have hlk := hA.env.len
    refine tri_seq ?_; refine tri_seq (tri_region ?_); refine o_load agg94 (by repeat (first | exact Nth.z | apply Nth.s)) rfl rfl rfl ?_; refine o_nilCheck rfl rfl ?_; refine o_field fo96_0 rfl rfl ?_; refine o_load agg58 (by repeat (first | exact Nth.z | apply Nth.s)) rfl rfl rfl ?_; refine o_idxS Tryz.underlying58 sz62 rfl rfl rfl (hRL _ (hc8.1.trans hA.suf) _ _ rfl rfl) (by omega) (by omega) (toksV_length _) (by decide) ?_; refine o_fieldAt fo62_0 rfl rfl (hRL _ (hc8.1.trans hA.suf) _ _ rfl rfl) (hd_k hc8.2) ?_; refine o_loadR agg3 rfl rfl (hRL _ (hc8.1.trans hA.suf) _ _ rfl rfl) (hd_k hc8.2) ?_; refine o_neqI rfl rfl rfl ?_; refine triL_nilN ?_; refine tri_if rfl (fun h6 => ?_) (fun h6 => ?_)
    · skip
      have h6 : ¬ (hd (o.2.drop 1)).k = 2 := h6
      refine tri_slots [(2, _), (3, _)] (.cons rfl (.cons rfl (.nil _))) ?_; refine tri_region ?_; refine o_load agg94 (by repeat (first | exact Nth.z | apply Nth.s)) rfl rfl rfl ?_
      refine o_callN (first := []) (cap := []) [pb] (by repeat (first | exact Nth.z | apply Nth.s)) rfl rfl rfl Tryz.call47 lend_box lend_box' (fun w1 h1 h2 => failK 190 pb a k0 T (o.2.drop 1) d w1 (hA.subL h1.chg hna hc8 hA.dep h2)) (fun ch hF => fin_panic ⟨_, qe5 hi1 hq1 he.1 ho1 (limit_bad h5q h6), hF⟩) (fun j hj => hj.elim)
    · skip
      have h6 : (hd (o.2.drop 1)).k = 2 := Decidable.not_not.1 h6
      have hg8 := hc8.2.drop (by rw [h6]; decide)
      have hl9 := hg8.ne
      rw [List.length_drop] at hl9
      refine tri_skip ?_; refine thenQ_normal ?_; refine tri_seq ?_; refine tri_slots [(2, _), (3, _)] (.cons rfl (.cons rfl (.nil _))) ?_; refine tri_region ?_; refine o_load agg140 (by repeat (first | exact Nth.z | apply Nth.s)) rfl rfl rfl ?_; refine o_nilCheck rfl rfl ?_; refine o_field fo35_6 rfl rfl ?_; refine o_store sz4 (by repeat (first | exact Nth.z | apply Nth.s)) rfl rfl rfl rfl rfl (Nat.le_of_ble_eq_true rfl) rfl ?_; refine triL_nilN ?_; refine tri_seq ?_; refine MP.tri_mix ([pC pb a k0 T (o.2.drop 1) d, box b3 140 [.pointer (some ⟨sb, 16, none⟩)], box b2 94 [.pointer (some ⟨pb, 0, none⟩)]]) [(0, true), (1, true), (2, true), (3, true), (4, true), (5, true), (6, true), (7, true), (8, true), (9, true), (10, true), (11, true), (12, true), (13, true), (14, false)] [] (by kernel_rfl) (by kernel_rfl) (fun _ h => h.sel [0, 9, 10] (by decide)) ?_; refine MP.mix_fix rfl ?_; refine o_load agg140 (by repeat (first | exact Nth.z | apply Nth.s)) rfl rfl rfl ?_; refine triL_nil ⟨rfl, ?_⟩; refine MP.mix_fix rfl ?_; refine o_load agg94 (by repeat (first | exact Nth.z | apply Nth.s)) rfl rfl rfl ?_; refine triL_nil ⟨rfl, ?_⟩; refine MP.mix_fix rfl ?_; refine o_nilCheck rfl rfl ?_; refine triL_nil ⟨rfl, ?_⟩; refine MP.mix_fix rfl ?_; refine o_field fo96_0 rfl rfl ?_; refine triL_nil ⟨rfl, ?_⟩; refine MP.mix_fix rfl ?_; refine o_load agg58 (by repeat (first | exact Nth.z | apply Nth.s)) rfl rfl rfl ?_; refine triL_nil ⟨rfl, ?_⟩; refine MP.mix_fix rfl ?_; refine o_idxS Tryz.underlying58 sz62 rfl rfl rfl (hRL _ (hc8.1.trans hA.suf) _ _ rfl rfl) (by omega) (by omega) (toksV_length _) (by decide) ?_; refine triL_nil ⟨rfl, ?_⟩; refine MP.mix_fix rfl ?_; refine o_fieldAt fo62_1 rfl rfl (hRL _ (hc8.1.trans hA.suf) _ _ rfl rfl) (hd_k hc8.2) ?_; refine triL_nil ⟨rfl, ?_⟩; refine MP.mix_fix rfl ?_; refine o_loadR agg9 rfl rfl (hRL _ (hc8.1.trans hA.suf) _ _ rfl rfl) (hd_t hc8.2) ?_; refine triL_nil ⟨rfl, ?_⟩; refine MP.mix_fix rfl ?_; refine o_callP (first := []) (cap := []) rfl rfl rfl Tryz.call145 (fun w1 h1 => lib_atoi_ok hto h6 w1) ?_; refine triL_nil ⟨rfl, ?_⟩; refine MP.mix_fix rfl ?_; refine o_move rfl rfl ?_; refine triL_nil ⟨rfl, ?_⟩; refine MP.mix_fix rfl ?_; refine o_extract rfl rfl rfl ?_; refine triL_nil ⟨rfl, ?_⟩; refine MP.mix_fix rfl ?_; refine o_extract rfl rfl rfl ?_; refine triL_nil ⟨rfl, ?_⟩; refine MP.mix_fix rfl ?_; refine o_nilCheck rfl rfl ?_; refine triL_nil ⟨rfl, ?_⟩; refine MP.mix_fix rfl ?_; refine o_field fo35_7 rfl rfl ?_; refine triL_nil ⟨rfl, ?_⟩; refine MP.mix_op rfl ?_; refine o_store sz3 (by repeat (first | exact Nth.z | apply Nth.s)) rfl rfl rfl rfl rfl (Nat.le_of_ble_eq_true rfl) rfl ?_; refine triL_nil (show _ ∧ _ from ⟨fun _ _ h => h.sel [0, 9, 10] (by decide), ?_⟩); refine MP.mix_nil ?_; refine thenQ_normal ?_; refine tri_slots [(2, _)] (.cons rfl (.nil _)) ?_; refine MP.tri_mix ([pC pb a k0 T (o.2.drop 1) d, box b3 140 [.pointer (some ⟨sb, 16, none⟩)], box b2 94 [.pointer (some ⟨pb, 0, none⟩)]]) [(0, true), (1, true), (2, true), (3, true), (4, true), (5, true), (6, true), (7, true), (8, false)] [8] (by kernel_rfl) (by kernel_rfl) (fun _ h => h.sel [0, 9, 10] (by decide)) ?_; refine MP.mix_fix rfl ?_; refine o_load agg94 (by repeat (first | exact Nth.z | apply Nth.s)) rfl rfl rfl ?_; refine triL_nil ⟨rfl, ?_⟩; refine MP.mix_fix rfl ?_; refine o_load agg94 (by repeat (first | exact Nth.z | apply Nth.s)) rfl rfl rfl ?_; refine triL_nil ⟨rfl, ?_⟩; refine MP.mix_fix rfl ?_; refine o_nilCheck rfl rfl ?_; refine triL_nil ⟨rfl, ?_⟩; refine MP.mix_fix rfl ?_; refine o_field fo96_0 rfl rfl ?_; refine triL_nil ⟨rfl, ?_⟩; refine MP.mix_fix rfl ?_; refine o_load agg58 (by repeat (first | exact Nth.z | apply Nth.s)) rfl rfl rfl ?_; refine triL_nil ⟨rfl, ?_⟩; refine MP.mix_fix rfl ?_; refine o_sliceSl Tryz.underlying58 sz62 rfl rfl rfl (by omega) (by omega) (by omega) ?_; refine triL_num (v' := pSl a k0 T ((o.2.drop 1).drop 1)) (cut_pS a k0 (hc8.1.trans hA.suf) hA.env.len (by omega)) ?_; refine triL_nil ⟨rfl, ?_⟩; refine MP.mix_fix rfl ?_; refine o_nilCheck rfl rfl ?_; refine triL_nil ⟨rfl, ?_⟩; refine MP.mix_fix rfl ?_; refine o_field fo96_0 rfl rfl ?_; refine triL_nil ⟨rfl, ?_⟩; refine MP.mix_op rfl ?_; refine o_store sz58 (by repeat (first | exact Nth.z | apply Nth.s)) rfl rfl rfl rfl rfl (Nat.le_of_ble_eq_true rfl) rfl ?_; refine triL_nil (show _ ∧ _ from ⟨fun hh => absurd hh (by decide), ?_⟩); refine MP.mix_nil ?_; refine end0n rfl ?_
      exact fin_pturn (J := QR) ⟨⟨(atT 1 distinctB ts), (atT 4 [42] (distT ts)), i.1.l, q.1.l, e.e, o.1.l, true, decZ (hd (o.2.drop 1)).t⟩, (o.2.drop 1).drop 1, _, .slice i.1.A i.1.l.length i.1.c, .slice q.1.A q.1.l.length q.1.c, .slice o.1.A o.1.l.length o.1.c, [.int .i64 y1, .int .i64 y2, .int .i64 y3, .string y4, .string y5, .string y6, .int .i64 y7, .slice y8 y9 y0]⟩ rfl ⟨qok hi1 hq1 he.1 ho1 (limit_ok h5q h6), ⟨rfl, rfl⟩⟩ (fun w2 hw2 => (Sat.qry (atT 1 distinctB ts) (atT 4 [42] (distT ts)) true (decZ (hd (o.2.drop 1)).t) (hw2.sel [7, 8, 5, 6, 4, 2, 3, 0, 1] (by decide)) rfl rfl rfl).sel [1, 2, 0] (by decide))
  · skip
    rw [if_neg (ne_t h5q)]
    refine tri_skip ?_; refine end0n rfl ?_
    exact fin_pturn (J := QR) ⟨⟨(atT 1 distinctB ts), (atT 4 [42] (distT ts)), i.1.l, q.1.l, e.e, o.1.l, false, 0⟩, o.2, _, .slice i.1.A i.1.l.length i.1.c, .slice q.1.A q.1.l.length q.1.c, .slice o.1.A o.1.l.length o.1.c, [.int .i64 y1, .int .i64 y2, .int .i64 y3, .string y4, .string y5, .string y6, .int .i64 y7, .slice y8 y9 y0]⟩ rfl ⟨qok hi1 hq1 he.1 ho1 (limit_no h5q), ⟨rfl, rfl⟩⟩ (fun w2 hw2 => (Sat.qry (atT 1 distinctB ts) (atT 4 [42] (distT ts)) false 0 (hw2.sel [7, 8, 5, 6, 4, 2, 3, 0, 1] (by decide)) rfl rfl rfl).sel [1, 2, 0] (by decide))
end Go.Proofs.YtjbpkcbefmpfgaaGreatDoor
namespace Go.Proofs.YtjbpkcbefmpfgaaGreatDoor
open Go.WK Go.RowKit 
theorem agg37 : aggB Tryz.prog 37 = some true := by kernel_rfl
theorem sz37 : szB Tryz.prog 37 = some 31 := by kernel_rfl
theorem zero37 : (Tryz.prog.info? 37).map (·.zero) = some (some (.agg #[.int .i64 0, .string .empty, .string .empty, .slice none 0 0, .slice none 0 0, .bool false, .slice none 0 0, .slice none 0 0, .int .i64 0, .int .i64 0, .int .i64 0, .string .empty, .string .empty, .string .empty, .int .i64 0, .slice none 0 0, .bool false, .bool false, .slice none 0 0, .slice none 0 0, .int .i64 0, .int .i64 0, .int .i64 0, .string .empty, .string .empty, .string .empty, .int .i64 0, .slice none 0 0, .slice none 0 0, .bool false, .int .i64 0])) := by kernel_rfl
theorem fo37_0 : fieldB Tryz.prog 37 0 = some 0 := by kernel_rfl
theorem fo37_9 : fieldB Tryz.prog 37 9 = some 16 := by kernel_rfl
set_option maxHeartbeats 1000000 in
theorem selectK (f : Nat) (pb : Nat) (a : Addr) (k0 : Nat) (T ts : List Tok) (d : Nat) (w : World) (hA : At w pb a k0 T ts d) (hsel : atT 1 selectB ts = true) (hf : 8 * ts.length ≤ f) : Calls Tryz.prog 45 #[.pointer (some ⟨pb, 0, none⟩)] w (PTurn w [pb] (fun j : SR => .agg j.cs.toArray) (fun j => [pC pb a k0 T j.us d, stC j.bl j.s j.cs]) (fun j => stmtP f d ts = .ok (j.s, j.us) ∧ (j.cs.length = 31 ∧ allOne j.cs = true)) (fun ch => ∃ x, stmtP f d ts = .error x ∧ ch = stopCh x)) := by
  refine calls_tri (args := [.pointer (some ⟨pb, 0, none⟩)]) (lent := [pb]) (H := [pC pb a k0 T ts d]) Tryz.func45 rfl Tryz.ntmps45 rfl hA.sat.cx ?_; refine (show Tri _ [(0, _)] _ _ _ from ?_)
  have hto := hd_ok hA.env hA.suf hA.good
  have hR := hA.env.rds ts hA.suf
  have hl := hA.good.ne
  have hle := hA.suf.length_le
  have hlk := hA.env.len
  have hbn := hA.env.bnd
  have hdp := hA.dep
  have hcu := cuts_one (Cuts.refl hA.good) (by decide) hsel
  have hlt := hA.good.lt
  refine tri_seq (tri_region ?_); refine o_box _ rfl rfl rfl (fun b1 => ?_); refine o_alloc _ rfl zero37 rfl (fun b2 => ?_); refine triL_nilN ?_; refine tri_seq (tri_region ?_); refine o_alloc _ rfl zero37 rfl (fun b3 => ?_); refine triL_nilN ?_; refine tri_seq ?_; refine tri_block ?_; refine tri_seq (tri_region ?_); refine o_load agg94 (by repeat (first | exact Nth.z | apply Nth.s)) rfl rfl rfl ?_; refine o_callN (first := []) (cap := []) [pb] (by repeat (first | exact Nth.z | apply Nth.s)) rfl rfl rfl Tryz.call90 lend_box lend_box' (fun w1 h1 h2 => wordP createB pb a k0 T ts d w1 (hA.sub h1.chg (Cuts.refl hA.good) hA.dep h2)) (fun ch hF => hF.elim) (fun u_ hu_ => ?_)
  rw [show atT 1 createB ts = false from at_other hsel (by decide)]
  rw [if_neg Bool.false_ne_true]
  refine o_assignN rfl rfl ?_; refine tri_cond_false rfl ?_; refine tri_seq ?_; refine tri_slots [(3, _), (2, _), (1, _)] (.cons rfl (.cons rfl (.cons rfl (.nil _)))) ?_; refine tri_region ?_; refine o_load agg94 (by repeat (first | exact Nth.z | apply Nth.s)) rfl rfl rfl ?_; refine o_callN (first := []) (cap := []) [pb] (by repeat (first | exact Nth.z | apply Nth.s)) rfl rfl rfl Tryz.call90 lend_box lend_box' (fun w1 h1 h2 => wordP dropB pb a k0 T ts d w1 (hA.sub h1.chg (Cuts.refl hA.good) hA.dep h2)) (fun ch hF => hF.elim) (fun u_ hu_ => ?_)
  rw [show atT 1 dropB ts = false from at_other hsel (by decide)]
  rw [if_neg Bool.false_ne_true]
  refine o_assignN rfl rfl ?_; refine tri_cond_false rfl ?_; refine tri_seq (tri_region ?_); refine o_load agg94 (by repeat (first | exact Nth.z | apply Nth.s)) rfl rfl rfl ?_; refine o_callN (first := []) (cap := []) [pb] (by repeat (first | exact Nth.z | apply Nth.s)) rfl rfl rfl Tryz.call90 lend_box lend_box' (fun w1 h1 h2 => wordP insertB pb a k0 T ts d w1 (hA.sub h1.chg (Cuts.refl hA.good) hA.dep h2)) (fun ch hF => hF.elim) (fun u_ hu_ => ?_)
  rw [show atT 1 insertB ts = false from at_other hsel (by decide)]
  rw [if_neg Bool.false_ne_true]
  refine o_assignN rfl rfl ?_; refine tri_cond_false rfl ?_; refine tri_seq ?_; refine tri_slots [(3, _), (2, _), (1, _)] (.cons rfl (.cons rfl (.cons rfl (.nil _)))) ?_; refine tri_region ?_; refine o_load agg94 (by repeat (first | exact Nth.z | apply Nth.s)) rfl rfl rfl ?_; refine o_callN (first := []) (cap := []) [pb] (by repeat (first | exact Nth.z | apply Nth.s)) rfl rfl rfl Tryz.call90 lend_box lend_box' (fun w1 h1 h2 => wordP deleteB pb a k0 T ts d w1 (hA.sub h1.chg (Cuts.refl hA.good) hA.dep h2)) (fun ch hF => hF.elim) (fun u_ hu_ => ?_)
  rw [show atT 1 deleteB ts = false from at_other hsel (by decide)]
  rw [if_neg Bool.false_ne_true]
  refine o_assignN rfl rfl ?_; refine tri_cond_false rfl ?_; refine tri_seq (tri_region ?_); refine o_load agg94 (by repeat (first | exact Nth.z | apply Nth.s)) rfl rfl rfl ?_; refine o_callN (first := []) (cap := []) [pb] (by repeat (first | exact Nth.z | apply Nth.s)) rfl rfl rfl Tryz.call90 lend_box lend_box' (fun w1 h1 h2 => wordP updateB pb a k0 T ts d w1 (hA.sub h1.chg (Cuts.refl hA.good) hA.dep h2)) (fun ch hF => hF.elim) (fun u_ hu_ => ?_)
  rw [show atT 1 updateB ts = false from at_other hsel (by decide)]
  rw [if_neg Bool.false_ne_true]
  refine o_assignN rfl rfl ?_; refine tri_cond_false rfl ?_; refine tri_seq ?_; refine tri_slots [(3, _), (2, _), (1, _)] (.cons rfl (.cons rfl (.cons rfl (.nil _)))) ?_; refine tri_region ?_; refine o_load agg94 (by repeat (first | exact Nth.z | apply Nth.s)) rfl rfl rfl ?_; refine o_callN (first := []) (cap := []) [pb] (by repeat (first | exact Nth.z | apply Nth.s)) rfl rfl rfl Tryz.call90 lend_box lend_box' (fun w1 h1 h2 => wordP selectB pb a k0 T ts d w1 (hA.sub h1.chg (Cuts.refl hA.good) hA.dep h2)) (fun ch hF => hF.elim) (fun u_ hu_ => ?_)
  rw [hsel]
  rw [if_pos rfl]
  refine o_assignN rfl rfl ?_; refine tri_cond_true rfl ?_; refine tri_seq (tri_region ?_); refine o_field fo37_0 rfl rfl ?_; refine o_store sz3 (by repeat (first | exact Nth.z | apply Nth.s)) rfl rfl rfl rfl rfl (Nat.le_of_ble_eq_true rfl) rfl ?_; refine triL_nilN ?_; refine tri_slots [(3, _), (2, _), (1, _)] (.cons rfl (.cons rfl (.cons rfl (.nil _)))) ?_; refine Tri.heap (H' := [pC pb a k0 T (ts.drop 1) d, box b3 37 [(ofL ([.int .i64 8, .string .empty, .string .empty, .slice none 0 0, .slice none 0 0, .bool false, .slice none 0 0, .slice none 0 0, .int .i64 0, .int .i64 0, .int .i64 0, .string .empty, .string .empty, .string .empty, .int .i64 0, .slice none 0 0] : List Value)) 0, (ofL ([.int .i64 8, .string .empty, .string .empty, .slice none 0 0, .slice none 0 0, .bool false, .slice none 0 0, .slice none 0 0, .int .i64 0, .int .i64 0, .int .i64 0, .string .empty, .string .empty, .string .empty, .int .i64 0, .slice none 0 0] : List Value)) 1, (ofL ([.int .i64 8, .string .empty, .string .empty, .slice none 0 0, .slice none 0 0, .bool false, .slice none 0 0, .slice none 0 0, .int .i64 0, .int .i64 0, .int .i64 0, .string .empty, .string .empty, .string .empty, .int .i64 0, .slice none 0 0] : List Value)) 2, (ofL ([.int .i64 8, .string .empty, .string .empty, .slice none 0 0, .slice none 0 0, .bool false, .slice none 0 0, .slice none 0 0, .int .i64 0, .int .i64 0, .int .i64 0, .string .empty, .string .empty, .string .empty, .int .i64 0, .slice none 0 0] : List Value)) 3, (ofL ([.int .i64 8, .string .empty, .string .empty, .slice none 0 0, .slice none 0 0, .bool false, .slice none 0 0, .slice none 0 0, .int .i64 0, .int .i64 0, .int .i64 0, .string .empty, .string .empty, .string .empty, .int .i64 0, .slice none 0 0] : List Value)) 4, (ofL ([.int .i64 8, .string .empty, .string .empty, .slice none 0 0, .slice none 0 0, .bool false, .slice none 0 0, .slice none 0 0, .int .i64 0, .int .i64 0, .int .i64 0, .string .empty, .string .empty, .string .empty, .int .i64 0, .slice none 0 0] : List Value)) 5, (ofL ([.int .i64 8, .string .empty, .string .empty, .slice none 0 0, .slice none 0 0, .bool false, .slice none 0 0, .slice none 0 0, .int .i64 0, .int .i64 0, .int .i64 0, .string .empty, .string .empty, .string .empty, .int .i64 0, .slice none 0 0] : List Value)) 6, (ofL ([.int .i64 8, .string .empty, .string .empty, .slice none 0 0, .slice none 0 0, .bool false, .slice none 0 0, .slice none 0 0, .int .i64 0, .int .i64 0, .int .i64 0, .string .empty, .string .empty, .string .empty, .int .i64 0, .slice none 0 0] : List Value)) 7, (ofL ([.int .i64 8, .string .empty, .string .empty, .slice none 0 0, .slice none 0 0, .bool false, .slice none 0 0, .slice none 0 0, .int .i64 0, .int .i64 0, .int .i64 0, .string .empty, .string .empty, .string .empty, .int .i64 0, .slice none 0 0] : List Value)) 8, (ofL ([.int .i64 8, .string .empty, .string .empty, .slice none 0 0, .slice none 0 0, .bool false, .slice none 0 0, .slice none 0 0, .int .i64 0, .int .i64 0, .int .i64 0, .string .empty, .string .empty, .string .empty, .int .i64 0, .slice none 0 0] : List Value)) 9, (ofL ([.int .i64 8, .string .empty, .string .empty, .slice none 0 0, .slice none 0 0, .bool false, .slice none 0 0, .slice none 0 0, .int .i64 0, .int .i64 0, .int .i64 0, .string .empty, .string .empty, .string .empty, .int .i64 0, .slice none 0 0] : List Value)) 10, (ofL ([.int .i64 8, .string .empty, .string .empty, .slice none 0 0, .slice none 0 0, .bool false, .slice none 0 0, .slice none 0 0, .int .i64 0, .int .i64 0, .int .i64 0, .string .empty, .string .empty, .string .empty, .int .i64 0, .slice none 0 0] : List Value)) 11, (ofL ([.int .i64 8, .string .empty, .string .empty, .slice none 0 0, .slice none 0 0, .bool false, .slice none 0 0, .slice none 0 0, .int .i64 0, .int .i64 0, .int .i64 0, .string .empty, .string .empty, .string .empty, .int .i64 0, .slice none 0 0] : List Value)) 12, (ofL ([.int .i64 8, .string .empty, .string .empty, .slice none 0 0, .slice none 0 0, .bool false, .slice none 0 0, .slice none 0 0, .int .i64 0, .int .i64 0, .int .i64 0, .string .empty, .string .empty, .string .empty, .int .i64 0, .slice none 0 0] : List Value)) 13, (ofL ([.int .i64 8, .string .empty, .string .empty, .slice none 0 0, .slice none 0 0, .bool false, .slice none 0 0, .slice none 0 0, .int .i64 0, .int .i64 0, .int .i64 0, .string .empty, .string .empty, .string .empty, .int .i64 0, .slice none 0 0] : List Value)) 14, (ofL ([.int .i64 8, .string .empty, .string .empty, .slice none 0 0, .slice none 0 0, .bool false, .slice none 0 0, .slice none 0 0, .int .i64 0, .int .i64 0, .int .i64 0, .string .empty, .string .empty, .string .empty, .int .i64 0, .slice none 0 0] : List Value)) 15, .bool false, .bool false, .slice none 0 0, .slice none 0 0, .int .i64 0, .int .i64 0, .int .i64 0, .string .empty, .string .empty, .string .empty, .int .i64 0, .slice none 0 0, .slice none 0 0, .bool false, .int .i64 0], box b2 37 [.int .i64 0, .string .empty, .string .empty, .slice none 0 0, .slice none 0 0, .bool false, .slice none 0 0, .slice none 0 0, .int .i64 0, .int .i64 0, .int .i64 0, .string .empty, .string .empty, .string .empty, .int .i64 0, .slice none 0 0, .bool false, .bool false, .slice none 0 0, .slice none 0 0, .int .i64 0, .int .i64 0, .int .i64 0, .string .empty, .string .empty, .string .empty, .int .i64 0, .slice none 0 0, .slice none 0 0, .bool false, .int .i64 0], box b1 94 [.pointer (some ⟨pb, 0, none⟩)]]) (fun w hw => hw.sel [3, 0, 1, 2] (by decide)) ?_; refine tri_region ?_; refine o_load agg94 (by repeat (first | exact Nth.z | apply Nth.s)) rfl rfl rfl ?_; refine o_field fo37_9 rfl rfl ?_; refine o_callMP (first := []) (cap := []) [] [pC pb a k0 T (ts.drop 1) d, box b3 37 [(ofL ([.int .i64 8, .string .empty, .string .empty, .slice none 0 0, .slice none 0 0, .bool false, .slice none 0 0, .slice none 0 0, .int .i64 0, .int .i64 0, .int .i64 0, .string .empty, .string .empty, .string .empty, .int .i64 0, .slice none 0 0] : List Value)) 0, (ofL ([.int .i64 8, .string .empty, .string .empty, .slice none 0 0, .slice none 0 0, .bool false, .slice none 0 0, .slice none 0 0, .int .i64 0, .int .i64 0, .int .i64 0, .string .empty, .string .empty, .string .empty, .int .i64 0, .slice none 0 0] : List Value)) 1, (ofL ([.int .i64 8, .string .empty, .string .empty, .slice none 0 0, .slice none 0 0, .bool false, .slice none 0 0, .slice none 0 0, .int .i64 0, .int .i64 0, .int .i64 0, .string .empty, .string .empty, .string .empty, .int .i64 0, .slice none 0 0] : List Value)) 2, (ofL ([.int .i64 8, .string .empty, .string .empty, .slice none 0 0, .slice none 0 0, .bool false, .slice none 0 0, .slice none 0 0, .int .i64 0, .int .i64 0, .int .i64 0, .string .empty, .string .empty, .string .empty, .int .i64 0, .slice none 0 0] : List Value)) 3, (ofL ([.int .i64 8, .string .empty, .string .empty, .slice none 0 0, .slice none 0 0, .bool false, .slice none 0 0, .slice none 0 0, .int .i64 0, .int .i64 0, .int .i64 0, .string .empty, .string .empty, .string .empty, .int .i64 0, .slice none 0 0] : List Value)) 4, (ofL ([.int .i64 8, .string .empty, .string .empty, .slice none 0 0, .slice none 0 0, .bool false, .slice none 0 0, .slice none 0 0, .int .i64 0, .int .i64 0, .int .i64 0, .string .empty, .string .empty, .string .empty, .int .i64 0, .slice none 0 0] : List Value)) 5, (ofL ([.int .i64 8, .string .empty, .string .empty, .slice none 0 0, .slice none 0 0, .bool false, .slice none 0 0, .slice none 0 0, .int .i64 0, .int .i64 0, .int .i64 0, .string .empty, .string .empty, .string .empty, .int .i64 0, .slice none 0 0] : List Value)) 6, (ofL ([.int .i64 8, .string .empty, .string .empty, .slice none 0 0, .slice none 0 0, .bool false, .slice none 0 0, .slice none 0 0, .int .i64 0, .int .i64 0, .int .i64 0, .string .empty, .string .empty, .string .empty, .int .i64 0, .slice none 0 0] : List Value)) 7, (ofL ([.int .i64 8, .string .empty, .string .empty, .slice none 0 0, .slice none 0 0, .bool false, .slice none 0 0, .slice none 0 0, .int .i64 0, .int .i64 0, .int .i64 0, .string .empty, .string .empty, .string .empty, .int .i64 0, .slice none 0 0] : List Value)) 8, (ofL ([.int .i64 8, .string .empty, .string .empty, .slice none 0 0, .slice none 0 0, .bool false, .slice none 0 0, .slice none 0 0, .int .i64 0, .int .i64 0, .int .i64 0, .string .empty, .string .empty, .string .empty, .int .i64 0, .slice none 0 0] : List Value)) 9, (ofL ([.int .i64 8, .string .empty, .string .empty, .slice none 0 0, .slice none 0 0, .bool false, .slice none 0 0, .slice none 0 0, .int .i64 0, .int .i64 0, .int .i64 0, .string .empty, .string .empty, .string .empty, .int .i64 0, .slice none 0 0] : List Value)) 10, (ofL ([.int .i64 8, .string .empty, .string .empty, .slice none 0 0, .slice none 0 0, .bool false, .slice none 0 0, .slice none 0 0, .int .i64 0, .int .i64 0, .int .i64 0, .string .empty, .string .empty, .string .empty, .int .i64 0, .slice none 0 0] : List Value)) 11, (ofL ([.int .i64 8, .string .empty, .string .empty, .slice none 0 0, .slice none 0 0, .bool false, .slice none 0 0, .slice none 0 0, .int .i64 0, .int .i64 0, .int .i64 0, .string .empty, .string .empty, .string .empty, .int .i64 0, .slice none 0 0] : List Value)) 12, (ofL ([.int .i64 8, .string .empty, .string .empty, .slice none 0 0, .slice none 0 0, .bool false, .slice none 0 0, .slice none 0 0, .int .i64 0, .int .i64 0, .int .i64 0, .string .empty, .string .empty, .string .empty, .int .i64 0, .slice none 0 0] : List Value)) 13, (ofL ([.int .i64 8, .string .empty, .string .empty, .slice none 0 0, .slice none 0 0, .bool false, .slice none 0 0, .slice none 0 0, .int .i64 0, .int .i64 0, .int .i64 0, .string .empty, .string .empty, .string .empty, .int .i64 0, .slice none 0 0] : List Value)) 14, (ofL ([.int .i64 8, .string .empty, .string .empty, .slice none 0 0, .slice none 0 0, .bool false, .slice none 0 0, .slice none 0 0, .int .i64 0, .int .i64 0, .int .i64 0, .string .empty, .string .empty, .string .empty, .int .i64 0, .slice none 0 0] : List Value)) 15, .bool false, .bool false, .slice none 0 0, .slice none 0 0, .int .i64 0, .int .i64 0, .int .i64 0, .string .empty, .string .empty, .string .empty, .int .i64 0, .slice none 0 0, .slice none 0 0, .bool false, .int .i64 0]] [box b2 37 [.int .i64 0, .string .empty, .string .empty, .slice none 0 0, .slice none 0 0, .bool false, .slice none 0 0, .slice none 0 0, .int .i64 0, .int .i64 0, .int .i64 0, .string .empty, .string .empty, .string .empty, .int .i64 0, .slice none 0 0, .bool false, .bool false, .slice none 0 0, .slice none 0 0, .int .i64 0, .int .i64 0, .int .i64 0, .string .empty, .string .empty, .string .empty, .int .i64 0, .slice none 0 0, .slice none 0 0, .bool false, .int .i64 0], box b1 94 [.pointer (some ⟨pb, 0, none⟩)]] [pb, b3] rfl rfl rfl rfl Tryz.call101 (lendC1 lend_box) (lendC2 lend_box') (fun w1 h1 h2 => queryK f b3 (ofL ([.int .i64 8, .string .empty, .string .empty, .slice none 0 0, .slice none 0 0, .bool false, .slice none 0 0, .slice none 0 0, .int .i64 0, .int .i64 0, .int .i64 0, .string .empty, .string .empty, .string .empty, .int .i64 0, .slice none 0 0] : List Value)) pb a k0 T (ts.drop 1) d w1 (hA.sub h1.chg hcu hA.dep h2.sel1) h2 (notin_pbK h1 lend_box2 a.block hA.lt (by simpa using hA.env.ne)) (by omega)) (fun ch ⟨x, hx1, hx2⟩ => fin_panic ⟨x, (stmt_sel hsel).trans (sel_err hx1), hx2⟩) (fun j hj => ?_); refine triL_nil ?_; refine blockQ_normal ?_; refine thenQ_normal ?_; refine tri_seq ?_; refine tri_slots [(3, _), (2, _)] (.cons rfl (.cons rfl (.nil _))) ?_; refine Tri.know (fun w2 hw2 => (QK.ones (hw2.holds _ (Nth.mem (.s (.s .z)))).1)) (fun hone => ?_)
  have hlen : ([.int .i64 8, .string .empty, .string .empty, .slice none 0 0, .slice none 0 0, .bool false, .slice none 0 0, .slice none 0 0, .int .i64 0, .int .i64 0, .int .i64 0, .string .empty, .string .empty, .string .empty, .int .i64 0, .slice none 0 0] ++ qCs j.q j.vI j.vF j.vO j.ec : List Value).length = 31 := by rw [List.length_append, hone.1]; rfl
  have hall : allOne ([.int .i64 8, .string .empty, .string .empty, .slice none 0 0, .slice none 0 0, .bool false, .slice none 0 0, .slice none 0 0, .int .i64 0, .int .i64 0, .int .i64 0, .string .empty, .string .empty, .string .empty, .int .i64 0, .slice none 0 0] ++ qCs j.q j.vI j.vF j.vO j.ec : List Value) = true := by rw [allOne_append, hone.2]; rfl
  refine tri_region ?_; refine o_loadF hlen agg37 sz37 (.s .z) rfl rfl ?_; refine o_storeF (us := [.int .i64 0, .string .empty, .string .empty, .slice none 0 0, .slice none 0 0, .bool false, .slice none 0 0, .slice none 0 0, .int .i64 0, .int .i64 0, .int .i64 0, .string .empty, .string .empty, .string .empty, .int .i64 0, .slice none 0 0, .bool false, .bool false, .slice none 0 0, .slice none 0 0, .int .i64 0, .int .i64 0, .int .i64 0, .string .empty, .string .empty, .string .empty, .int .i64 0, .slice none 0 0, .slice none 0 0, .bool false, .int .i64 0]) rfl hlen hall sz37 (.s (.s (.s .z))) rfl rfl rfl ?_; refine triL_nilN ?_; refine tri_ret ?_; refine endC1 rfl agg37 sz37 (by repeat (first | exact Nth.z | apply Nth.s)) rfl hlen ?_
  exact fin_pturn (J := SR) ⟨{ StmtX.zero with k := 8, q := j.q }, j.us, j.bl, _⟩ rfl ⟨(stmt_sel hsel).trans (sel_ok hj.1), hlen, hall⟩ (fun w2 hw2 => (Sat.selSt (hw2.sel [2, 0] (by decide))).sel [1, 0] (by decide))
end Go.Proofs.YtjbpkcbefmpfgaaGreatDoor
namespace Go.Proofs.YtjbpkcbefmpfgaaGreatDoor
open Go.WK Go.RowKit Go
theorem built37 : Tryz.prog.built 37 [] = some ([.int .i64 0, .string .empty, .string .empty, .slice none 0 0, .slice none 0 0, .bool false, .slice none 0 0, .slice none 0 0, .int .i64 0, .int .i64 0, .int .i64 0, .string .empty, .string .empty, .string .empty, .int .i64 0, .slice none 0 0, .bool false, .bool false, .slice none 0 0, .slice none 0 0, .int .i64 0, .int .i64 0, .int .i64 0, .string .empty, .string .empty, .string .empty, .int .i64 0, .slice none 0 0, .slice none 0 0, .bool false, .int .i64 0] : List Value).toArray := by kernel_rfl
theorem assert92 : ∀ (v : Value) (w : World), (Instr.typeAssert (.iface 92 v) 20 92 true).run Tryz.prog w = .ok (.tuple #[v, .bool true]) w := by intros; kernel_rfl
theorem zero92 : (Tryz.prog.info? 92).map (·.zero) = some (some (.agg #[.int .i64 0, .int .i64 0])) := by kernel_rfl
theorem sz92 : szB Tryz.prog 92 = some 2 := by kernel_rfl
theorem fo92_0 : fieldB Tryz.prog 92 0 = some 0 := by kernel_rfl
theorem sz46 : szB Tryz.prog 46 = some 1 := by kernel_rfl
theorem agg46 : aggB Tryz.prog 46 = some false := by kernel_rfl
theorem zero46 : (Tryz.prog.info? 46).map (·.zero) = some (some (.nilIface)) := by kernel_rfl
theorem built96_0 (A0 : Option Addr) (n0 c0 : Nat) : Tryz.prog.built 96 [(0, .slice A0 n0 c0)] = some ([.slice A0 n0 c0, .int .i64 0] : List Value).toArray := by kernel_rfl
theorem catch_idle (b2 b3 : Nat) (w : World) : CallsD Tryz.prog 44 #[.pointer (some ⟨b2, 0, none⟩), .pointer (some ⟨b3, 0, none⟩)] .returning w fun e u' w' => e = .returned (.tuple #[]) ∧ u' = .returning ∧ w' = w := by
  have hn : ∀ w : World, (binOp BinOp.neq 20 .nilIface .nilIface).run Tryz.prog w = .ok (.bool false) w := fun _ => by kernel_rfl
  refine callsD_of_wpS Tryz.func44 rfl fun c₀ cs hu => ?_
  apply wpS_seq
  apply wpS_region
  simp [wpOpsS, go_sem, recoverD, hu, Tryz.ntmps44, Exit.thenS]
  apply wpS_seq
  apply wpS_region
  simp [wpOpsS, go_sem, Exit.thenS, hn]
  refine wpS_cond (t := false) (by simp [Act.eval, Array.replicate]) ?_
  simp only [Bool.false_eq_true, if_false]
  refine wpS_of_wp (wp_skip ?_)
  cases c₀
  simp_all [bodyPostS, results, Tryz.results44]
theorem catch_panic (b2 b3 : Nat) (x : Flt) (cs : List Value) (y : Value) (w : World) (hl : cs.length = 31) (hs : Sat ⟨default, 0, [], w, [b2, b3]⟩ [box b2 37 cs, box b3 46 [y]] w) : CallsD Tryz.prog 44 #[.pointer (some ⟨b2, 0, none⟩), .pointer (some ⟨b3, 0, none⟩)] (.panicking (stopCh x)) w fun e u' w' =>
    e = .returned (.tuple #[]) ∧ u' = .panicking [{ v := (.iface 92 (.agg #[.int .i64 x.1, .int .i64 x.2])), recovered := true }] ∧ Sat ⟨default, 0, [], w, [b2, b3]⟩ [box b2 37 [.int .i64 0, .string .empty, .string .empty, .slice none 0 0, .slice none 0 0, .bool false, .slice none 0 0, .slice none 0 0, .int .i64 0, .int .i64 0, .int .i64 0, .string .empty, .string .empty, .string .empty, .int .i64 0, .slice none 0 0, .bool false, .bool false, .slice none 0 0, .slice none 0 0, .int .i64 0, .int .i64 0, .int .i64 0, .string .empty, .string .empty, .string .empty, .int .i64 0, .slice none 0 0, .slice none 0 0, .bool false, .int .i64 0], box b3 46 [.iface 55 (.agg #[.int .i64 x.1, .int .i64 x.2])]] w' := by
  have hn : ∀ w : World, (binOp BinOp.neq 20 (.iface 92 (.agg #[.int .i64 x.1, .int .i64 x.2])) .nilIface).run Tryz.prog w = .ok (.bool true) w := fun _ => by kernel_rfl
  refine callsD_of_wpS Tryz.func44 rfl fun c₀ fr hu => ?_
  apply wpS_seq
  apply wpS_region
  simp [wpOpsS, go_sem, recoverD, hu, Tryz.ntmps44, Exit.thenS, stopCh]
  apply wpS_seq
  apply wpS_region
  simp [wpOpsS, go_sem, Exit.thenS, hn]
  refine wpS_cond (t := true) (by simp [Act.eval, Array.replicate]) ?_
  simp only [if_true]
  refine wpS_of_wp ?_
  refine (show TriG ⟨Tryz.prog, 20, [], w, [b2, b3]⟩ [(0, .pointer (some ⟨b2, 0, none⟩)), (1, .pointer (some ⟨b3, 0, none⟩)), (2, (.iface 92 (.agg #[.int .i64 x.1, .int .i64 x.2])))] [box b2 37 cs, box b3 46 [y]] _ _ from ?_) _ w ⟨rfl, by simp, fun d v hd => ?_⟩ hs.cx
  rotate_left
  · rcases d with _ | _ | _ | d
    · simpa [WK.look] using hd
    · have hd : some (Value.pointer (some ⟨b3, 0, none⟩)) = some v := hd
      simpa using hd
    · have hd : some (Value.iface 92 (.agg #[.int .i64 x.1, .int .i64 x.2])) = some v := hd
      simpa using hd
    · cases hd
  refine triG_cut (Q := fun e fs' H' => e = .normal ∧ ∀ w2, Sat ⟨Tryz.prog, 20, [], w, [b2, b3]⟩ H' w2 → Sat ⟨Tryz.prog, 20, [], w, [b2, b3]⟩ [box b2 37 [.int .i64 0, .string .empty, .string .empty, .slice none 0 0, .slice none 0 0, .bool false, .slice none 0 0, .slice none 0 0, .int .i64 0, .int .i64 0, .int .i64 0, .string .empty, .string .empty, .string .empty, .int .i64 0, .slice none 0 0, .bool false, .bool false, .slice none 0 0, .slice none 0 0, .int .i64 0, .int .i64 0, .int .i64 0, .string .empty, .string .empty, .string .empty, .int .i64 0, .slice none 0 0, .slice none 0 0, .bool false, .int .i64 0], box b3 46 [.iface 55 (.agg #[.int .i64 x.1, .int .i64 x.2])]] w2) ?_ (fun e fs' H' ⟨he, hq⟩ a w2 ha hw => ?_)
  · skip
    refine tri_seq (tri_region ?_); refine o_move rfl rfl ?_; refine o_assert (assert92 _) rfl rfl ?_; refine o_move rfl rfl ?_; refine o_extract rfl rfl rfl ?_; refine o_extract rfl rfl rfl ?_; refine o_alloc _ rfl zero92 rfl (fun b3 => ?_); refine o_store sz92 (by repeat (first | exact Nth.z | apply Nth.s)) rfl rfl rfl rfl rfl (Nat.le_of_ble_eq_true rfl) rfl ?_; refine o_assignN rfl rfl ?_; refine tri_seq ?_; refine tri_seq ?_; refine tri_slots [(4, _), (3, _), (0, _), (1, _), (2, _)] (.cons rfl (.cons rfl (.cons rfl (.cons rfl (.cons rfl (.nil _)))))) ?_; refine tri_region ?_; refine o_move rfl rfl ?_; refine o_not rfl rfl ?_; refine triL_nilN ?_; refine tri_cond_false rfl ?_; refine tri_skip ?_; refine thenQ_normal ?_; refine tri_slots [(3, _), (0, _), (1, _)] (.cons rfl (.cons rfl (.cons rfl (.nil _)))) ?_; refine tri_mix ([box b3 92 [.int .i64 x.1, .int .i64 x.2]]) [(0, true), (1, true), (2, true), (3, true), (4, false), (5, false)] [5] (by kernel_rfl) (by kernel_rfl) (fun _ h => h.sel [0] (by decide)) ?_; refine mix_fix rfl ?_; refine o_build built37 rfl rfl ?_; refine triL_nil ⟨rfl, mix_fix rfl ?_⟩; refine o_field fo92_0 rfl rfl ?_; refine triL_nil ⟨rfl, mix_fix rfl ?_⟩; refine o_loadA agg55 sz55 .z rfl rfl (vs := [.int .i64 x.1, .int .i64 x.2]) rfl rfl ?_; refine triL_nil ⟨rfl, mix_fix rfl ?_⟩; refine o_iface Tryz.underlying55 rfl rfl rfl ?_; refine triL_nil ⟨rfl, ?_⟩; refine mix_op rfl ?_; refine o_storeF (us := cs) (cs := [.int .i64 0, .string .empty, .string .empty, .slice none 0 0, .slice none 0 0, .bool false, .slice none 0 0, .slice none 0 0, .int .i64 0, .int .i64 0, .int .i64 0, .string .empty, .string .empty, .string .empty, .int .i64 0, .slice none 0 0, .bool false, .bool false, .slice none 0 0, .slice none 0 0, .int .i64 0, .int .i64 0, .int .i64 0, .string .empty, .string .empty, .string .empty, .int .i64 0, .slice none 0 0, .slice none 0 0, .bool false, .int .i64 0]) hl rfl rfl sz37 (.s .z) rfl rfl rfl ?_; refine triL_nil ⟨rfl, fun _ _ h => h.sel [0] (by decide), ?_⟩; refine mix_rest [5] [_] rfl rfl ?_; refine o_store sz46 (by repeat (first | exact Nth.z | apply Nth.s)) rfl rfl rfl rfl rfl (Nat.le_of_ble_eq_true rfl) rfl ?_; refine triL_nil ⟨rfl, ?_⟩
    exact ⟨rfl, fun w2 hw2 => hw2.sel [1, 2] (by decide)⟩
  · subst he
    refine ⟨ha.ds, .panicking [{ v := (.iface 92 (.agg #[.int .i64 x.1, .int .i64 x.2])), recovered := true }], rfl, .tuple #[], results_none rfl _ _ _, rfl, rfl, (hq w2 hw).cx⟩
set_option maxHeartbeats 1000000 in
theorem parseSel (s : List UInt8) (w : World) (hs : s.length ≤ 140737488355328) (hE : LE w) (hsel : ∀ ts, lexL s = .ok ts → atT 1 selectB ts = true) : Calls Tryz.prog 15 #[.string (B s)] w (ParsT w (parseL s)) := by
  refine calls_triD (args := [.string (B s)]) (lent := []) (H := []) Tryz.func15 rfl Tryz.ntmps15 rfl (Sat.start _ _ _ _) ?_; refine (show TriG _ [(0, _)] _ _ _ from ?_); refine triG_seq ?_; refine tri_region ?_; refine o_alloc _ rfl zero37 rfl (fun b2 => ?_); refine o_alloc _ rfl zero46 rfl (fun b3 => ?_); refine triL_nil ?_; refine gQ_normal ?_; refine triG_seq ?_; refine tri_region ?_; refine o_move rfl rfl ?_; refine o_callF (first := []) (cap := []) (fun v => .tuple #[v, errR 55 (lexL s)]) rfl rfl rfl Tryz.call43 (fun w1 h1 => lexK s w1 hs (hE.chg h1.chg)) (fun A9 c9 => ?_); refine o_move rfl rfl ?_; refine o_extract rfl rfl rfl ?_; refine o_extract rfl rfl rfl ?_; refine o_assign rfl rfl ?_; refine o_assign rfl rfl ?_; refine triL_nil ?_; refine gQ_normal ?_; refine triG_seq ?_; refine tri_seq ?_; refine tri_slots [(5, _), (4, _), (3, _), (2, _)] (.cons rfl (.cons rfl (.cons rfl (.cons rfl (.nil _))))) ?_; refine tri_region ?_; refine o_move rfl rfl ?_; refine o_neqErr ifE (errIs _ _) rfl rfl ?_; refine triL_nilN ?_; refine tri_cond rfl (fun h0 => ?_) (fun h0 => ?_)
  · skip
    obtain ⟨x, hx⟩ := okR_bad (not_true h0)
    rw [hx]
    refine tri_seq (tri_region ?_); refine o_build built37 rfl rfl ?_; refine o_move rfl rfl ?_; refine o_storeF (us := zSt) (cs := zSt) rfl rfl rfl sz37 (.s (.s .z)) rfl rfl rfl ?_; refine o_store sz46 (by repeat (first | exact Nth.z | apply Nth.s)) rfl rfl rfl rfl rfl (Nat.le_of_ble_eq_true rfl) rfl ?_; refine triL_nilN ?_; refine tri_ret ?_; refine gQ_ret ?_
    intro a1 w1 ha1 hw1
    show Leaves _ _ _ _ a1.defers _ _
    rw [ha1.ds]
    exact ⟨_, results_cc Tryz.results15 (ha1.get rfl) (ha1.get rfl) agg37 sz37 agg46 (hw1.holds _ (Nth.mem (.s (.s .z)))) rfl (hw1.holds _ (Nth.mem (.s .z))), ([], zSt), ⟨rfl, rfl⟩, by rw [parseL_lex hx]; rfl, by rw [parseL_lex hx]; exact (Sat.sel (Sat.zeroSt hw1) [0] (by decide)).cx⟩
  · skip
    obtain ⟨ts, hts⟩ := okR_ok (not_false h0)
    have hlg := lex_good hts
    rw [hts]
    refine tri_skip ?_; refine gQ_normal ?_; refine triG_defer rfl rfl ?_
    refine triG_cut (Q := (fun e fs' H' => match e with
        | .ret => WK.look fs' 2 = some (.pointer (some ⟨b2, 0, none⟩)) ∧ WK.look fs' 3 = some (.pointer (some ⟨b3, 0, none⟩)) ∧ ∃ j : SR, parseL s = .ok j.s ∧ (j.cs.length = 31 ∧ allOne j.cs = true) ∧ ∀ w2, Sat ⟨Tryz.prog, 35, [{ target := .fn (.func 44) #[.pointer (some ⟨b2, 0, none⟩), .pointer (some ⟨b3, 0, none⟩)], args := #[] }], w, []⟩ H' w2 → Sat ⟨Tryz.prog, 35, [{ target := .fn (.func 44) #[.pointer (some ⟨b2, 0, none⟩), .pointer (some ⟨b3, 0, none⟩)], args := #[] }], w, []⟩ [box b2 37 j.cs, box b3 46 [.nilIface], stC j.bl j.s j.cs] w2
        | .panic ch => WK.look fs' 2 = some (.pointer (some ⟨b2, 0, none⟩)) ∧ WK.look fs' 3 = some (.pointer (some ⟨b3, 0, none⟩)) ∧ ∃ x, parseL s = .error x ∧ ch = stopCh x ∧ ∀ w2, Sat ⟨Tryz.prog, 35, [{ target := .fn (.func 44) #[.pointer (some ⟨b2, 0, none⟩), .pointer (some ⟨b3, 0, none⟩)], args := #[] }], w, []⟩ H' w2 → ∃ cs y, cs.length = 31 ∧ Sat ⟨Tryz.prog, 35, [{ target := .fn (.func 44) #[.pointer (some ⟨b2, 0, none⟩), .pointer (some ⟨b3, 0, none⟩)], args := #[] }], w, []⟩ [box b2 37 cs, box b3 46 [y]] w2
        | _ => False)) ?_ (fun e fs' H' hq a2 w2 ha hw => by
        cases e with
        | ret =>
          obtain ⟨k2, k3, j, hj1, ⟨hj2, hj3⟩, hj4⟩ := hq
          have hs4 := hj4 w2 hw
          show Leaves _ _ _ _ a2.defers _ _
          rw [ha.ds]
          refine leaves_cons (by simp) (f := 44) (args := #[.pointer (some ⟨b2, 0, none⟩), .pointer (some ⟨b3, 0, none⟩)]) (by simp [go_sem]) ((catch_idle b2 b3 w2).mono ?_)
          rintro e u' w3 ⟨rfl, rfl, rfl⟩
          exact ⟨_, results_cc Tryz.results15 (ha.get k2) (ha.get k3) agg37 sz37 agg46 (hs4.holds _ (Nth.mem .z)) hj2 (hs4.holds _ (Nth.mem (.s .z))), (j.bl, j.cs), ⟨hj2, hj3⟩, by rw [hj1]; rfl, by rw [hj1]; exact (hs4.sel [2] (by decide)).cx⟩
        | panic ch =>
          obtain ⟨k2, k3, x, hx1, rfl, hx3⟩ := hq
          obtain ⟨cs, y, hl, hs4⟩ := hx3 w2 hw
          show Leaves _ _ _ _ a2.defers _ _
          rw [ha.ds]
          have hln : ∀ c ∈ [box b2 37 cs, box b3 46 [y]], ∀ k, c.fp k → k ∈ [b2, b3] := lendC1 lend_box
          have hln2 : ∀ k ∈ [b2, b3], ∃ c ∈ [box b2 37 cs, box b3 46 [y]], c.fp k := lendC2 lend_box'
          refine leaves_cons (by simp) (f := 44) (args := #[.pointer (some ⟨b2, 0, none⟩), .pointer (some ⟨b3, 0, none⟩)]) (by simp [go_sem]) ((catch_panic b2 b3 x cs y w2 hl (Sat.lend (F := []) hs4 hln)).mono ?_)
          rintro e u' w3 ⟨rfl, rfl, hs5⟩
          have hs6 := Sat.frame (F := []) hs4 hln2 hs5
          exact ⟨_, results_cc Tryz.results15 (ha.get k2) (ha.get k3) agg37 sz37 agg46 (hs6.holds _ (Nth.mem .z)) rfl (hs6.holds _ (Nth.mem (.s .z))), ([], zSt), ⟨rfl, rfl⟩, by rw [hx1]; rfl, by rw [hx1]; exact (Sat.sel (Sat.zeroSt hs6) [0] (by decide)).cx⟩
        | normal => exact hq.elim
        | exit i => exact hq.elim
        | goto l => exact hq.elim
        | outgrown => exact hq.elim)
    refine tri_seq ?_; refine Tri.know (fun w2 hw2 => row_some (hw2.holds _ (Nth.mem .z)) rfl (by show 0 < (toksV ts).length; rw [toksV_length]; have := hlg.1.ne; omega)) (fun ⟨g, hg, hlc⟩ => ?_)
    subst hg
    refine tri_region ?_; refine o_move rfl rfl ?_; refine o_build (built96_0 _ _ _) rfl rfl ?_; refine o_box _ rfl rfl rfl (fun b19 => ?_); refine o_assignN rfl rfl ?_; refine tri_seq ?_; refine tri_slots [(6, _), (2, _), (3, _)] (.cons rfl (.cons rfl (.cons rfl (.nil _)))) ?_; refine Tri.heap (H' := [pC b19 ⟨g, 0, none⟩ c9 ts ts 0, row (.slice (some ⟨g, 0, none⟩) ts.length c9) 62 3 ts.length (toksV ts), box b3 46 [.nilIface], box b2 37 zSt]) (fun w hw => (congrArg (fun v => Sat _ [box b19 96 [v, .int .i64 0], row (.slice (some ⟨g, 0, none⟩) ts.length c9) 62 3 ts.length (toksV ts), box b3 46 [.nilIface], box b2 37 zSt] w) (pS0 g c9 ts)).mpr hw) ?_; refine tri_region ?_; refine o_move rfl rfl ?_; refine o_callMP (first := []) (cap := []) [] [pC b19 ⟨g, 0, none⟩ c9 ts ts 0] [row (.slice (some ⟨g, 0, none⟩) ts.length c9) 62 3 ts.length (toksV ts), box b3 46 [.nilIface], box b2 37 zSt] [b19] rfl rfl rfl rfl Tryz.call45 lend_box lend_box' (fun w1 h1 h2 => selectK (8 * ts.length + 8) b19 ⟨g, 0, none⟩ c9 ts ts 0 w1 ⟨⟨RdS.row (.s .z) w1 h1, h1.neB (.s .z) .z (by decide) rfl, hlc, by have := hlg.2.2; omega, hlg.2.1⟩, List.suffix_refl _, hlg.1, Nat.zero_le _, h2⟩ (hsel ts hts) (by omega)) (fun ch ⟨x, hx1, hx2⟩ => ⟨rfl, rfl, x, parseL_err hts hx1, hx2, fun w2 hw2 => ⟨_, _, rfl, hw2.sel [2, 1] (by decide)⟩⟩) (fun j hj => ?_); refine o_storeF (us := zSt) rfl hj.2.1 hj.2.2 sz37 (.s (.s (.s (.s .z)))) rfl rfl rfl ?_; refine triL_nilN ?_; refine tri_seq ?_
    have hjc := stmt_cuts_sel hlg.1 (hsel ts hts) hj.1
    refine tri_region ?_; refine o_move rfl rfl ?_; refine o_callMP (first := []) (cap := []) [] [pC b19 ⟨g, 0, none⟩ c9 ts j.us 0] [stC j.bl j.s j.cs, row (.slice (some ⟨g, 0, none⟩) ts.length c9) 62 3 ts.length (toksV ts), box b3 46 [.nilIface], box b2 37 j.cs] [b19] rfl rfl rfl rfl Tryz.call46 lend_box lend_box' (fun w1 h1 h2 => signP [59] b19 ⟨g, 0, none⟩ c9 ts j.us 0 w1 ⟨⟨RdS.row (.s (.s .z)) w1 h1, h1.neB (.s (.s .z)) .z (by decide) rfl, hlc, by have := hlg.2.2; omega, hlg.2.1⟩, hjc.1, hjc.2, Nat.zero_le _, h2⟩) (fun ch hF => hF.elim) (fun u_ hu_ => ?_); refine triL_nilN ?_; refine tri_seq ?_; refine tri_seq ?_; refine tri_slots [(6, _), (2, _), (3, _)] (.cons rfl (.cons rfl (.cons rfl (.nil _)))) ?_
    have hend := parseL_end hts hj.1
    obtain ⟨V, hV⟩ : ∃ V, V = (if atT 4 [59] j.us = true then j.us.drop 1 else j.us) := ⟨_, rfl⟩
    have hVc : Cuts ts V := by
      rw [hV]
      by_cases hh : atT 4 [59] j.us = true
      · rw [if_pos hh]; exact cuts_one hjc (by decide) hh
      · rw [if_neg hh]; exact hjc
    rw [← hV] at hend ⊢
    have hle2 := hVc.1.length_le
    have hVn := hVc.2.ne
    have hRV : ∀ cx H i, Nth H i (row (.slice (some ⟨g, 0, none⟩) ts.length c9) 62 3 ts.length (toksV ts)) → RdS cx H (some ((⟨g, 0, none⟩ : Addr).add ((ts.length - V.length) * 3))) (toksV V) := fun cx H i hn w2 hs2 => row_suf (RdS.row hn w2 hs2) hVc.1
    refine tri_region ?_; refine o_move rfl rfl ?_; refine o_nilCheck rfl rfl ?_; refine o_field fo96_0 rfl rfl ?_; refine o_load agg58 (by repeat (first | exact Nth.z | apply Nth.s)) rfl rfl rfl ?_; refine o_idxS Tryz.underlying58 sz62 rfl rfl rfl (hRV _ _ _ (.s (.s .z))) (by omega) (by omega) (toksV_length _) (by decide) ?_; refine o_fieldAt fo62_0 rfl rfl (hRV _ _ _ (.s (.s .z))) (hd_k hVc.2) ?_; refine o_loadR agg3 rfl rfl (hRV _ _ _ (.s (.s .z))) (hd_k hVc.2) ?_; refine o_neqI rfl rfl rfl ?_; refine triL_nilN ?_; refine tri_if rfl (fun h5 => ?_) (fun h5 => ?_)
    · skip
      have h5 : ¬ (hd V).k = 5 := h5
      refine tri_slots [(6, _), (2, _), (3, _)] (.cons rfl (.cons rfl (.cons rfl (.nil _)))) ?_; refine tri_region ?_; refine o_move rfl rfl ?_
      refine o_callMP (first := []) (cap := []) [] [pC b19 ⟨g, 0, none⟩ c9 ts V 0] [stC j.bl j.s j.cs, row (.slice (some ⟨g, 0, none⟩) ts.length c9) 62 3 ts.length (toksV ts), box b3 46 [.nilIface], box b2 37 j.cs] [b19] rfl rfl rfl rfl Tryz.call47 lend_box lend_box' (fun w1 h1 h2 => failK 190 b19 ⟨g, 0, none⟩ c9 ts V 0 w1 ⟨⟨RdS.row (.s (.s .z)) w1 h1, h1.neB (.s (.s .z)) .z (by decide) rfl, hlc, by have := hlg.2.2; omega, hlg.2.1⟩, hVc.1, hVc.2, Nat.zero_le _, h2⟩) (fun ch hF => ⟨rfl, rfl, _, hend.trans (if_neg h5), hF, fun w2 hw2 => ⟨_, _, hj.2.1, hw2.sel [3, 2] (by decide)⟩⟩) (fun u hu => hu.elim)
    · skip
      have h5 : (hd V).k = 5 := Decidable.not_not.1 h5
      refine tri_skip ?_; refine thenQ_normal ?_; refine tri_seq ?_; refine tri_slots [(2, _), (3, _)] (.cons rfl (.cons rfl (.nil _))) ?_; refine tri_region ?_; refine o_loadF hj.2.1 agg37 sz37 (.s (.s (.s (.s .z)))) rfl rfl ?_; refine o_storeF hj.2.1 hj.2.1 hj.2.2 sz37 (.s (.s (.s (.s .z)))) rfl rfl rfl ?_; refine o_store sz46 (by repeat (first | exact Nth.z | apply Nth.s)) rfl rfl rfl rfl rfl (Nat.le_of_ble_eq_true rfl) rfl ?_; refine triL_nilN ?_; refine tri_ret ?_
      exact ⟨rfl, rfl, j, hend.trans (if_pos h5), hj.2, fun w2 hw2 => hw2.sel [4, 3, 1] (by decide)⟩
end Go.Proofs.YtjbpkcbefmpfgaaGreatDoor
namespace Go.Proofs.YtjbpkcbefmpfgaaGreatDoor
open Go.WK Go.RowKit 
theorem fo27_0 : fieldB Tryz.prog 27 0 = some 0 := by kernel_rfl
theorem flat27 : flatB Tryz.prog 27 = some valKs := by kernel_rfl
theorem fo27_2 : fieldB Tryz.prog 27 2 = some 2 := by kernel_rfl
theorem fo27_1 : fieldB Tryz.prog 27 1 = some 1 := by kernel_rfl
theorem agg2 : aggB Tryz.prog 2 = some false := by kernel_rfl
theorem sz5 : szB Tryz.prog 5 = some 1 := by kernel_rfl
theorem agg5 : aggB Tryz.prog 5 = some false := by kernel_rfl
def fit (v : Val) : Prop := v.ok ∧ v.s.length ≤ 140737488355328
theorem mayK (v : Val) (w : World) (f : fit v) : Calls Tryz.prog 71 #[aggV v] w (Pure w (.bool (may v))) := by
  refine calls_tri (args := [aggV v]) (lent := []) (H := []) Tryz.func71 rfl Tryz.ntmps71 rfl (Sat.start _ _ _ _) ?_; refine (show Tri _ [(0, _)] _ _ _ from ?_)
  have hs := f.2
  have e64 : decide ((v.s.length : Int) ≤ 64) = decide (v.s.length ≤ 64) := le_dec _ 64
  refine tri_seq (tri_region ?_); refine o_box (Val.cs _) rfl rfl rfl (fun b1 => ?_); refine o_assignN rfl rfl ?_; refine tri_seq ?_; refine tri_seq (tri_region ?_); refine o_field fo27_0 rfl rfl ?_; refine o_load agg3 (by repeat (first | exact Nth.z | apply Nth.s)) rfl rfl rfl ?_; refine triL_nilN ?_; refine tri_block ?_; refine tri_seq (tri_region ?_); refine o_eqlI rfl rfl rfl ?_; refine o_assignN rfl rfl ?_; refine tri_if rfl (fun h1 => ?_) (fun h1 => ?_)
  · skip
    refine tri_seq ?_; refine tri_slots [(1, _)] (.cons rfl (.nil _)) ?_; refine tri_region ?_; refine o_loadBV agg27 sz27 (by repeat (first | exact Nth.z | apply Nth.s)) rfl rfl ?_; refine o_build bval27 rfl rfl ?_; refine o_eqlV flat27 rfl rfl rfl ?_; refine o_assignN rfl rfl ?_; refine tri_ret ?_; refine blockQ_ret ?_; refine thenQ_ret ?_; refine end1 rfl rfl ?_
    exact fun w1 hw1 => ⟨congrArg (fun b => Ending.returned (.bool b)) (by simp [may, val_dec, *]), hw1.chg⟩
  · skip
    refine tri_seq ?_; refine tri_slots [(4, _), (1, _)] (.cons rfl (.cons rfl (.nil _))) ?_; refine tri_region ?_; refine o_eqlI rfl rfl rfl ?_; refine o_assignN rfl rfl ?_; refine tri_if rfl (fun h2 => ?_) (fun h2 => ?_)
    · skip
      refine tri_seq (tri_region ?_); refine o_field fo27_2 rfl rfl ?_; refine o_load agg9 (by repeat (first | exact Nth.z | apply Nth.s)) rfl rfl rfl ?_; refine o_eqlT rfl rfl rfl ?_; refine o_assignN rfl rfl ?_; refine tri_ret ?_; refine blockQ_ret ?_; refine thenQ_ret ?_; refine end1 rfl rfl ?_
      exact fun w1 hw1 => ⟨congrArg (fun b => Ending.returned (.bool b)) (by simp [may, *]), hw1.chg⟩
    · skip
      refine tri_seq (tri_region ?_); refine o_eqlI rfl rfl rfl ?_; refine o_assignN rfl rfl ?_; refine tri_if rfl (fun h3 => ?_) (fun h3 => ?_)
      · skip
        refine tri_seq ?_; refine tri_slots [(1, _)] (.cons rfl (.nil _)) ?_; refine tri_region ?_; refine o_field fo27_1 rfl rfl ?_; refine o_load agg2 (by repeat (first | exact Nth.z | apply Nth.s)) rfl rfl rfl ?_; refine o_eqlI rfl rfl rfl ?_; refine o_move rfl rfl ?_
        refine' triL_and [_, _, _, _] [] (dj := 20) (dr := 24) rfl rfl (fun g1 => ?_) ⟨_, rfl, rfl, rfl, (.nil _)⟩ rfl ?_
        rotate_left
        · skip
          have g1 := of_decide_eq_true g1
          refine o_field fo27_2 rfl rfl ?_; refine o_load agg9 (by repeat (first | exact Nth.z | apply Nth.s)) rfl rfl rfl ?_; refine o_lenB Tryz.underlying9 rfl rfl ?_; refine o_leq rfl rfl rfl ?_
          exact triL_nil (Piece.mk rfl rfl (.nil _) (fun _ h => h))
        refine o_assignN rfl rfl ?_; refine tri_ret ?_; refine blockQ_ret ?_; refine thenQ_ret ?_; refine end1 rfl rfl ?_
        exact fun w1 hw1 => ⟨congrArg (fun b => Ending.returned (.bool b)) (by simp [may, *]), hw1.chg⟩
      · skip
        refine tri_seq ?_; refine tri_slots [(4, _), (1, _)] (.cons rfl (.cons rfl (.nil _))) ?_; refine tri_region ?_; refine o_eqlI rfl rfl rfl ?_; refine o_assignN rfl rfl ?_; refine tri_if rfl (fun h4 => ?_) (fun h4 => ?_)
        · skip
          refine tri_seq (tri_region ?_); refine o_field fo27_2 rfl rfl ?_; refine o_load agg9 (by repeat (first | exact Nth.z | apply Nth.s)) rfl rfl rfl ?_; refine o_eqlT rfl rfl rfl ?_; refine o_move rfl rfl ?_
          refine' triL_and [_, _, _, _, _, _, _, _] [] (dj := 31) (dr := 39) rfl rfl (fun g2 => ?_) ⟨_, rfl, rfl, rfl, (.nil _)⟩ rfl ?_
          rotate_left
          · skip
            have g2 := of_decide_eq_true g2
            refine o_field fo27_1 rfl rfl ?_; refine o_load agg2 (by repeat (first | exact Nth.z | apply Nth.s)) rfl rfl rfl ?_; refine o_eqlI rfl rfl rfl ?_; refine o_move rfl rfl ?_
            refine' triL_or [_, _, _] [(31, _)] (dj := 35) (dr := 38) rfl rfl (fun g3 => ?_) ⟨_, rfl, rfl, rfl, (.cons rfl (.nil _))⟩ rfl ?_
            rotate_left
            · skip
              have g3 := of_decide_eq_false g3
              refine o_field fo27_1 rfl rfl ?_; refine o_load agg2 (by repeat (first | exact Nth.z | apply Nth.s)) rfl rfl rfl ?_; refine o_eqlI rfl rfl rfl ?_
              exact triL_nil (Piece.mk rfl rfl (.cons rfl (.nil _)) (fun _ h => h))
            exact triL_nil (Piece.mk rfl rfl (.nil _) (fun _ h => h))
          refine o_assignN rfl rfl ?_; refine tri_ret ?_; refine blockQ_ret ?_; refine thenQ_ret ?_; refine end1 rfl rfl ?_
          exact fun w1 hw1 => ⟨congrArg (fun b => Ending.returned (.bool b)) (by simp [may, *]), hw1.chg⟩
        · skip
          refine tri_skip ?_; refine blockQ_normal ?_; refine thenQ_normal ?_; refine tri_seq ?_; refine tri_slots [] (.nil _) ?_; refine tri_region ?_; refine o_assignN rfl rfl ?_; refine tri_ret ?_; refine end1 rfl rfl ?_
          exact fun w1 hw1 => ⟨congrArg (fun b => Ending.returned (.bool b)) (by simp [may, *]), hw1.chg⟩
theorem mayR (v : Val) (w : World) (f : fit v) : Calls Tryz.prog 75 #[aggV v] w (Pure w (.bool (may v))) := by
  refine calls_tri (args := [aggV v]) (lent := []) (H := []) Tryz.func75 rfl Tryz.ntmps75 rfl (Sat.start _ _ _ _) ?_; refine (show Tri _ [(0, _)] _ _ _ from ?_)
  have hs := f.2
  have e64 : decide ((v.s.length : Int) ≤ 64) = decide (v.s.length ≤ 64) := le_dec _ 64
  have e01 : (decide (0 ≤ v.n) && decide (v.n ≤ 1)) = (decide (v.n = 0) || decide (v.n = 1)) := by rw [← Bool.decide_and, ← Bool.decide_or]; exact decide_eq_decide.2 (by omega)
  refine tri_seq (tri_region ?_); refine o_box (Val.cs _) rfl rfl rfl (fun b1 => ?_); refine o_assignN rfl rfl ?_; refine tri_seq ?_; refine tri_seq (tri_region ?_); refine o_field fo27_0 rfl rfl ?_; refine o_load agg3 (by repeat (first | exact Nth.z | apply Nth.s)) rfl rfl rfl ?_; refine o_eqlI rfl rfl rfl ?_; refine triL_nilN ?_; refine tri_if rfl (fun h1 => ?_) (fun h1 => ?_)
  · skip
    refine tri_seq ?_; refine tri_slots [(1, _)] (.cons rfl (.nil _)) ?_; refine tri_region ?_; refine o_field fo27_1 rfl rfl ?_; refine o_load agg2 (by repeat (first | exact Nth.z | apply Nth.s)) rfl rfl rfl ?_; refine o_eqlI rfl rfl rfl ?_; refine o_move rfl rfl ?_
    refine' triL_and [_, _, _] [] (dj := 9) (dr := 12) rfl rfl (fun g1 => ?_) ⟨_, rfl, rfl, rfl, (.nil _)⟩ rfl ?_
    rotate_left
    · skip
      refine o_field fo27_2 rfl rfl ?_; refine o_load agg9 (by repeat (first | exact Nth.z | apply Nth.s)) rfl rfl rfl ?_; refine o_eqlT rfl rfl rfl ?_
      exact triL_nil (Piece.mk rfl rfl (.nil _) (fun _ h => h))
    refine o_assignN rfl rfl ?_; refine tri_ret ?_; refine thenQ_ret ?_; refine end1 rfl rfl ?_
    exact fun w1 hw1 => ⟨congrArg (fun b => Ending.returned (.bool b)) (by simp [may, *] <;> simp only [Bool.and_assoc, e01]), hw1.chg⟩
  · skip
    refine tri_skip ?_; refine thenQ_normal ?_; refine tri_seq ?_; refine tri_seq ?_; refine tri_slots [(1, _)] (.cons rfl (.nil _)) ?_; refine tri_region ?_; refine o_field fo27_0 rfl rfl ?_; refine o_load agg3 (by repeat (first | exact Nth.z | apply Nth.s)) rfl rfl rfl ?_; refine o_eqlI rfl rfl rfl ?_; refine triL_nilN ?_; refine tri_if rfl (fun h2 => ?_) (fun h2 => ?_)
    · skip
      refine tri_seq (tri_region ?_); refine o_field fo27_2 rfl rfl ?_; refine o_load agg9 (by repeat (first | exact Nth.z | apply Nth.s)) rfl rfl rfl ?_; refine o_eqlT rfl rfl rfl ?_; refine o_assignN rfl rfl ?_; refine tri_ret ?_; refine thenQ_ret ?_; refine end1 rfl rfl ?_
      exact fun w1 hw1 => ⟨congrArg (fun b => Ending.returned (.bool b)) (by simp [may, *] <;> simp only [Bool.and_assoc, e01]), hw1.chg⟩
    · skip
      refine tri_skip ?_; refine thenQ_normal ?_; refine tri_seq ?_; refine tri_seq (tri_region ?_); refine o_field fo27_0 rfl rfl ?_; refine o_load agg3 (by repeat (first | exact Nth.z | apply Nth.s)) rfl rfl rfl ?_; refine o_eqlI rfl rfl rfl ?_; refine triL_nilN ?_; refine tri_if rfl (fun h3 => ?_) (fun h3 => ?_)
      · skip
        refine tri_seq ?_; refine tri_slots [(1, _)] (.cons rfl (.nil _)) ?_; refine tri_region ?_; refine o_field fo27_1 rfl rfl ?_; refine o_load agg2 (by repeat (first | exact Nth.z | apply Nth.s)) rfl rfl rfl ?_; refine o_eqlI rfl rfl rfl ?_; refine o_move rfl rfl ?_
        refine' triL_and [_, _, _, _] [] (dj := 26) (dr := 30) rfl rfl (fun g2 => ?_) ⟨_, rfl, rfl, rfl, (.nil _)⟩ rfl ?_
        rotate_left
        · skip
          refine o_field fo27_2 rfl rfl ?_; refine o_load agg9 (by repeat (first | exact Nth.z | apply Nth.s)) rfl rfl rfl ?_; refine o_lenB Tryz.underlying9 rfl rfl ?_; refine o_leq rfl rfl rfl ?_
          exact triL_nil (Piece.mk rfl rfl (.nil _) (fun _ h => h))
        refine o_assignN rfl rfl ?_; refine tri_ret ?_; refine thenQ_ret ?_; refine end1 rfl rfl ?_
        exact fun w1 hw1 => ⟨congrArg (fun b => Ending.returned (.bool b)) (by simp [may, *] <;> simp only [Bool.and_assoc, e01]), hw1.chg⟩
      · skip
        refine tri_skip ?_; refine thenQ_normal ?_; refine tri_seq ?_; refine tri_slots [(1, _)] (.cons rfl (.nil _)) ?_; refine tri_region ?_; refine o_field fo27_0 rfl rfl ?_; refine o_load agg3 (by repeat (first | exact Nth.z | apply Nth.s)) rfl rfl rfl ?_; refine o_eqlI rfl rfl rfl ?_; refine o_move rfl rfl ?_
        refine' triL_and [_, _, _] [(1, _)] (dj := 35) (dr := 38) rfl rfl (fun g3 => ?_) ⟨_, rfl, rfl, rfl, (.cons rfl (.nil _))⟩ rfl ?_
        rotate_left
        · skip
          refine o_field fo27_2 rfl rfl ?_; refine o_load agg9 (by repeat (first | exact Nth.z | apply Nth.s)) rfl rfl rfl ?_; refine o_eqlT rfl rfl rfl ?_
          exact triL_nil (Piece.mk rfl rfl (.cons rfl (.nil _)) (fun _ h => h))
        refine o_move rfl rfl ?_
        refine' triL_and [_, _, _] [(1, _)] (dj := 40) (dr := 43) rfl rfl (fun g4 => ?_) ⟨_, rfl, rfl, rfl, (.cons rfl (.nil _))⟩ rfl ?_
        rotate_left
        · skip
          refine o_field fo27_1 rfl rfl ?_; refine o_load agg2 (by repeat (first | exact Nth.z | apply Nth.s)) rfl rfl rfl ?_; refine o_geq rfl rfl rfl ?_
          exact triL_nil (Piece.mk rfl rfl (.cons rfl (.nil _)) (fun _ h => h))
        refine o_move rfl rfl ?_
        refine' triL_and [_, _, _] [] (dj := 45) (dr := 48) rfl rfl (fun g5 => ?_) ⟨_, rfl, rfl, rfl, (.nil _)⟩ rfl ?_
        rotate_left
        · skip
          refine o_field fo27_1 rfl rfl ?_; refine o_load agg2 (by repeat (first | exact Nth.z | apply Nth.s)) rfl rfl rfl ?_; refine o_leq rfl rfl rfl ?_
          exact triL_nil (Piece.mk rfl rfl (.nil _) (fun _ h => h))
        refine o_assignN rfl rfl ?_; refine tri_ret ?_; refine end1 rfl rfl ?_
        exact fun w1 hw1 => ⟨congrArg (fun b => Ending.returned (.bool b)) (by simp [may, *] <;> simp only [Bool.and_assoc, e01]), hw1.chg⟩
theorem may_k {v : Val} (h : may v = true) : v.k = 0 ∨ v.k = 1 ∨ v.k = 2 ∨ v.k = 3 := by
  rcases may_cases h with rfl | rfl | rfl | ⟨n, rfl⟩ | ⟨s, rfl, _⟩ <;> simp
theorem nIn {v : Val} (h : fit v) : inR v.n = true := inR_iff.2 h.1.2
theorem sizeR (n : Int) (w : World) (h : inR n = true) : Calls Tryz.prog 154 #[.int .i64 n] w (Pure w (.int .u64 ((n.natAbs : Nat) : Int))) := by
  refine calls_tri (args := [.int .i64 n]) (lent := []) (H := []) Tryz.func154 rfl Tryz.ntmps154 rfl (Sat.start _ _ _ _) ?_; refine (show Tri _ [(0, _)] _ _ _ from ?_)
  obtain ⟨n1, n2⟩ := inR_iff.1 h
  refine tri_seq (tri_region ?_); refine o_assignN rfl rfl ?_; refine tri_seq ?_; refine tri_seq (tri_region ?_); refine o_move rfl rfl ?_; refine o_lss rfl rfl rfl ?_; refine triL_nilN ?_; refine tri_if rfl (fun h1 => ?_) (fun h1 => ?_)
  · skip
    refine tri_seq (tri_region ?_); refine o_move rfl rfl ?_; refine o_conv rfl rfl Tryz.underlying2 Tryz.underlying200 ?_; refine o_negI rfl rfl ?_; refine o_assignN rfl rfl ?_; refine tri_ret ?_; refine thenQ_ret ?_; refine end1 rfl rfl ?_
    exact fun w1 hw1 => ⟨congrArg (fun b : Int => Ending.returned (.int .u64 b)) (by simp only [IntKind.wrap_u64]; omega), hw1.chg⟩
  · skip
    refine tri_skip ?_; refine thenQ_normal ?_; refine tri_seq (tri_region ?_); refine o_move rfl rfl ?_; refine o_conv rfl rfl Tryz.underlying2 Tryz.underlying200 ?_; refine o_assignN rfl rfl ?_; refine tri_ret ?_; refine end1 rfl rfl ?_
    exact fun w1 hw1 => ⟨congrArg (fun b : Int => Ending.returned (.int .u64 b)) (by simp only [IntKind.wrap_u64]; omega), hw1.chg⟩
theorem printK (v : Val) (w : World) (f : fit v) (hL : LV w) : Calls Tryz.prog 58 #[aggV v] w (Pure w (.tuple #[.string (B (prV v).1), .int .i64 (prV v).2])) := by
  refine calls_tri (args := [aggV v]) (lent := []) (H := []) Tryz.func58 rfl Tryz.ntmps58 rfl (Sat.start _ _ _ _) ?_; refine (show Tri _ [(0, _)] _ _ _ from ?_)
  have fs := f.2
  refine tri_seq (tri_region ?_); refine o_box (Val.cs _) rfl rfl rfl (fun b1 => ?_); refine o_assign rfl rfl ?_; refine o_assignN rfl rfl ?_; refine tri_seq ?_; refine tri_seq (tri_region ?_); refine o_loadBV agg27 sz27 (by repeat (first | exact Nth.z | apply Nth.s)) rfl rfl ?_; refine o_callP (first := []) (cap := []) rfl rfl rfl Tryz.call71 (fun w_ hw_ => mayK _ w_ (by assumption)) ?_; refine o_not rfl rfl ?_; refine triL_nilN ?_; refine tri_cond rfl (fun h0 => ?_) (fun h0 => ?_)
  · skip
    have h0 : ¬ may v = true := by simpa using h0
    refine tri_seq ?_; refine tri_slots [] (.nil _) ?_; refine tri_region ?_; refine o_assign rfl rfl ?_; refine o_assignN rfl rfl ?_; refine tri_ret ?_; refine thenQ_ret ?_; refine end2 rfl rfl rfl ?_
    exact fun w1 hw1 => ⟨by have e : prV v = ([], 5) := (by rw [prV, if_neg h0]); rw [e] <;> rfl, hw1.chg⟩
  · skip
    have h0 : may v = true := by simpa using h0
    refine tri_skip ?_; refine thenQ_normal ?_; refine tri_seq ?_; refine tri_seq ?_; refine tri_slots [(1, _)] (.cons rfl (.nil _)) ?_; refine tri_region ?_; refine o_field fo27_0 rfl rfl ?_; refine o_load agg3 (by repeat (first | exact Nth.z | apply Nth.s)) rfl rfl rfl ?_; refine triL_nilN ?_; refine tri_block ?_; refine tri_seq (tri_region ?_); refine o_eqlI rfl rfl rfl ?_; refine o_assignN rfl rfl ?_; refine tri_if rfl (fun k1 => ?_) (fun k1 => ?_)
    · skip
      refine tri_seq ?_; refine tri_slots [(1, _)] (.cons rfl (.nil _)) ?_; refine tri_region ?_; refine o_field fo27_1 rfl rfl ?_; refine o_load agg2 (by repeat (first | exact Nth.z | apply Nth.s)) rfl rfl rfl ?_; refine o_callP (first := []) (cap := []) rfl rfl rfl Tryz.call115 (fun w1 h1 => lib_format v.n w1 (nIn f) (hL.chg h1.chg)) ?_; refine o_assign rfl rfl ?_; refine o_assignN rfl rfl ?_; refine tri_ret ?_; refine blockQ_ret ?_; refine thenQ_ret ?_; refine end2 rfl rfl rfl ?_
      exact fun w1 hw1 => ⟨by have e : prV v = (Lib.itoa v.n, 0) := (by rw [prV, if_pos h0, if_pos k1]); rw [e] <;> rfl, hw1.chg⟩
    · skip
      refine tri_seq (tri_region ?_); refine o_eqlI rfl rfl rfl ?_; refine o_assignN rfl rfl ?_; refine tri_if rfl (fun k2 => ?_) (fun k2 => ?_)
      · skip
        have ht := may_text h0 k2
        have hd := dbl_len v.s
        refine tri_seq ?_; refine tri_slots [(1, _)] (.cons rfl (.nil _)) ?_; refine tri_region ?_; refine o_field fo27_2 rfl rfl ?_; refine o_load agg9 (by repeat (first | exact Nth.z | apply Nth.s)) rfl rfl rfl ?_; refine o_callP (first := []) (cap := []) rfl rfl rfl Tryz.call116 (fun w1 h1 => lib_dbl v.s w1 (by omega) (hL.chg h1.chg)) ?_; refine o_cat rfl rfl rfl (by simp only [List.length_cons, List.length_nil]; omega) ?_; refine o_cat rfl rfl rfl (by simp only [List.length_append, List.length_cons, List.length_nil]; omega) ?_; refine o_assign rfl rfl ?_; refine o_assignN rfl rfl ?_; refine tri_ret ?_; refine blockQ_ret ?_; refine thenQ_ret ?_; refine end2 rfl rfl rfl ?_
        exact fun w1 hw1 => ⟨by have e : prV v = (39 :: (dbl v.s ++ [39]), 0) := (by rw [prV, if_pos h0, if_neg k1, if_pos k2]); rw [e] <;> rfl, hw1.chg⟩
      · skip
        refine tri_seq ?_; refine tri_slots [(8, _), (1, _)] (.cons rfl (.cons rfl (.nil _))) ?_; refine tri_region ?_; refine o_eqlI rfl rfl rfl ?_; refine o_assignN rfl rfl ?_; refine tri_if rfl (fun k3 => ?_) (fun k3 => ?_)
        · skip
          refine tri_seq ?_; refine tri_seq (tri_region ?_); refine o_field fo27_1 rfl rfl ?_; refine o_load agg2 (by repeat (first | exact Nth.z | apply Nth.s)) rfl rfl rfl ?_; refine o_eqlI rfl rfl rfl ?_; refine triL_nilN ?_; refine tri_if rfl (fun k4 => ?_) (fun k4 => ?_)
          · skip
            refine tri_seq ?_; refine tri_slots [] (.nil _) ?_; refine tri_region ?_; refine o_assign rfl rfl ?_; refine o_assignN rfl rfl ?_; refine tri_ret ?_; refine thenQ_ret ?_; refine blockQ_ret ?_; refine thenQ_ret ?_; refine end2 rfl rfl rfl ?_
            exact fun w1 hw1 => ⟨by have e : prV v = ([116, 114, 117, 101], 0) := (by rw [prV, if_pos h0, if_neg k1, if_neg k2, if_pos k3, if_pos k4]); rw [e] <;> rfl, hw1.chg⟩
          · skip
            refine tri_skip ?_; refine thenQ_normal ?_; refine tri_seq ?_; refine tri_slots [] (.nil _) ?_; refine tri_region ?_; refine o_assign rfl rfl ?_; refine o_assignN rfl rfl ?_; refine tri_ret ?_; refine blockQ_ret ?_; refine thenQ_ret ?_; refine end2 rfl rfl rfl ?_
            exact fun w1 hw1 => ⟨by have e : prV v = ([102, 97, 108, 115, 101], 0) := (by rw [prV, if_pos h0, if_neg k1, if_neg k2, if_pos k3, if_neg k4]); rw [e] <;> rfl, hw1.chg⟩
        · skip
          refine tri_skip ?_; refine blockQ_normal ?_; refine thenQ_normal ?_; refine tri_seq ?_; refine tri_slots [] (.nil _) ?_; refine tri_region ?_; refine o_assign rfl rfl ?_; refine o_assignN rfl rfl ?_; refine tri_ret ?_; refine end2 rfl rfl rfl ?_
          exact fun w1 hw1 => ⟨by have e : prV v = ([110, 117, 108, 108], 0) := (by rw [prV, if_pos h0, if_neg k1, if_neg k2, if_neg k3]); rw [e] <;> rfl, hw1.chg⟩
theorem digitsR (n : Int) (w : World) (h : inR n = true) : Calls Tryz.prog 123 #[.int .i64 n] w (Pure w (.string (B (Lib.itoa n)))) := by
  refine calls_tri (args := [.int .i64 n]) (lent := []) (H := []) Tryz.func123 rfl Tryz.ntmps123 rfl (Sat.start _ _ _ _) ?_; refine (show Tri _ [(0, _)] _ _ _ from ?_)
  obtain ⟨n1, n2⟩ := inR_iff.1 h
  have hu : n.natAbs ≤ 9223372036854775808 := by omega
  refine tri_seq (tri_region ?_); refine o_assignN rfl rfl ?_; refine tri_seq (tri_region ?_); refine o_assignN rfl rfl ?_; refine tri_seq ?_; refine tri_seq (tri_region ?_); refine o_move rfl rfl ?_; refine o_callP (first := []) (cap := []) rfl rfl rfl Tryz.call154 (fun w1 h1 => sizeR n w1 h) ?_; refine o_assignN rfl rfl ?_; refine tri_block ?_; refine tri_loop (ι := Nat × List UInt8 × Option Addr × Nat) (F := fun j => [(0, .int .i64 n), (3, .slice j.2.2.1 j.2.1.length j.2.2.2), (4, .int .u64 ((j.1 : Nat) : Int))]) (HH := fun j => [row (.slice j.2.2.1 j.2.1.length j.2.2.2) 5 1 j.2.1.length (bytesV j.2.1)]) (Pu := fun j => digInv n.natAbs j.1 j.2.1) (μ := fun j => 2 * j.1 + (if j.2.1.length = 0 then 1 else 0)) ((n.natAbs, [], none, 0)) (.cons rfl (.cons rfl (.cons rfl (.nil _)))) (fun _ h => h.nilRow _ _) (⟨Nat.le_refl _, .inl ⟨rfl, rfl⟩⟩) (fun j hi => ?_)
  have hl := digInv_len hi hu
  have hk := hi.1
  refine tri_seq ?_; refine tri_seq (tri_region ?_); refine o_move rfl rfl ?_; refine o_gtr rfl rfl rfl ?_; refine o_move rfl rfl ?_
  refine' triL_or [_, _, _] [(0, _), (3, _), (4, _)] (dj := 11) (dr := 14) rfl rfl (fun g1 => ?_) ⟨_, rfl, rfl, rfl, (.cons rfl (.cons rfl (.cons rfl (.nil _))))⟩ rfl ?_
  rotate_left
  · skip
    refine o_move rfl rfl ?_; refine o_lenS Tryz.underlying65 rfl rfl ?_; refine o_eqlI rfl rfl rfl ?_
    exact triL_nil (Piece.mk rfl rfl (.cons rfl (.cons rfl (.cons rfl (.nil _)))) (fun _ h => h))
  refine triL_nilN ?_; refine tri_cond rfl (fun h1 => ?_) (fun h1 => ?_)
  · skip
    have h1 : 0 < j.1 ∨ j.2.1.length = 0 := by simp only [Bool.or_eq_true, decide_eq_true_eq] at h1; omega
    refine tri_skip ?_; refine thenQ_normal ?_; refine tri_seq ?_; refine tri_block ?_; refine tri_region ?_; refine o_move rfl rfl ?_; refine o_move rfl rfl ?_; refine o_remU j.1 10 rfl rfl rfl (by decide) ?_; refine o_add rfl rfl rfl ?_; refine triL_num (v' := .int .u64 ((48 + j.1 % 10 : Nat) : Int)) (congrArg (Value.int .u64) (by rw [IntKind.wrap_u64]; omega)) ?_; refine o_toByte rfl rfl Tryz.underlying200 Tryz.underlying5 (Int.natCast_nonneg _) ?_; refine o_lit1 Tryz.underlying65 zs5 rfl rfl rfl rfl rfl (by decide) (by decide) (fun b23 => ?_); refine o_append Tryz.underlying65 zsb5 rfl (by decide) (by repeat (first | exact Nth.z | apply Nth.s)) rfl rfl rfl (news := bytesV [UInt8.ofNat (48 + j.1 % 10)]) (RdS.row .z) rfl (bytesV_one _) (by unfold maxLen; omega) (by omega) (fun A24 c24 => ?_); refine o_assign rfl rfl ?_; refine triL_nil ?_; refine blockQ_normal ?_; refine thenQ_normal ?_; refine tri_slots [(3, _), (0, _), (4, _)] (.cons rfl (.cons rfl (.cons rfl (.nil _)))) ?_; refine tri_region ?_; refine o_move rfl rfl ?_; refine o_quoU j.1 10 rfl rfl rfl (by omega) (by decide) ?_; refine o_assignN rfl rfl ?_
    have hnew := digInv_step hi h1
    have hlen : (j.2.1 ++ [UInt8.ofNat (48 + j.1 % 10)]).length = j.2.1.length + 1 := by simp
    exact ⟨(j.1 / 10, j.2.1 ++ [UInt8.ofNat (48 + j.1 % 10)], A24, c24), (.cons rfl (.cons (congrArg (fun k : Nat => some (Value.slice A24 k c24)) hlen.symm) (.cons rfl (.nil _)))), (fun w1 hw1 => by simp only [hlen, bytesV_append]; exact hw1.tail), hnew, (by simp only [hlen]; split <;> split <;> omega)⟩
  · skip
    have h1 : ¬ 0 < j.1 ∧ ¬ j.2.1.length = 0 := by simp only [Bool.or_eq_false_iff, decide_eq_false_iff_not] at h1; omega
    have hd := digInv_end hi h1.1 h1.2
    refine tri_exit ?_; refine thenQ_exit ?_; refine thenQ_exit ?_; refine blockQ_here ?_; refine thenQ_normal ?_; refine tri_join (ι := List UInt8 × Option Addr × Nat) (fun q => [(3, .slice q.2.1 q.1.length q.2.2)]) (fun q => [row (.slice q.2.1 q.1.length q.2.2) 5 1 q.1.length (bytesV q.1)]) (fun q => q.1.length ≤ 20 ∧ q.1.reverse = Lib.itoa n) ?_ (fun q hj => ?_)
    · skip
      refine tri_seq (tri_region ?_); refine o_move rfl rfl ?_; refine o_lss rfl rfl rfl ?_; refine triL_nilN ?_; refine tri_if rfl (fun h2 => ?_) (fun h2 => ?_)
      · skip
        refine tri_slots [(3, _)] (.cons rfl (.nil _)) ?_; refine tri_region ?_; refine o_move rfl rfl ?_; refine o_lit1 Tryz.underlying65 zs5 rfl rfl rfl rfl rfl (by decide) (by decide) (fun b28 => ?_); refine o_append Tryz.underlying65 zsb5 rfl (by decide) (by repeat (first | exact Nth.z | apply Nth.s)) rfl rfl rfl (news := bytesV [45]) (RdS.row .z) rfl (bytesV_one _) (by unfold maxLen; omega) (by omega) (fun A29 c29 => ?_); refine o_assignN rfl rfl ?_
        have hlen : (j.2.1 ++ [(45 : UInt8)]).length = j.2.1.length + 1 := by simp
        exact ⟨(j.2.1 ++ [45], A29, c29), (.cons (congrArg (fun k : Nat => some (Value.slice A29 k c29)) hlen.symm) (.nil _)), (fun w1 hw1 => by simp only [hlen, bytesV_append]; exact hw1.tail), ⟨by simp only [hlen]; omega, by rw [itoa_neg h2, hd]; simp⟩⟩
      · skip
        refine tri_skip ?_; refine thenQ_normal ?_
        exact ⟨(j.2.1, j.2.2.1, j.2.2.2), (.cons rfl (.nil _)), fun _ h => h, ⟨by simp only; omega, by rw [itoa_pos h2, show n.toNat = n.natAbs by omega, hd]⟩⟩
    refine tri_seq (tri_region ?_); refine o_assignN rfl rfl ?_; refine tri_seq ?_; refine tri_seq (tri_region ?_); refine o_move rfl rfl ?_; refine o_lenS Tryz.underlying65 rfl rfl ?_; refine o_subN rfl rfl rfl (by omega) ?_; refine o_assignN rfl rfl ?_; refine tri_block ?_; refine tri_loop (ι := Nat × Option Addr × Nat) (F := fun i => [(3, .slice q.2.1 q.1.length q.2.2), (5, .slice i.2.1 i.1 i.2.2), (6, .int .i64 ((q.1.length : Int) - 1 - (i.1 : Int)))]) (HH := fun i => [row (.slice i.2.1 i.1 i.2.2) 5 1 i.1 (bytesV (q.1.reverse.take i.1)), row (.slice q.2.1 q.1.length q.2.2) 5 1 q.1.length (bytesV q.1)]) (Pu := fun i => i.1 ≤ q.1.length) (μ := fun i => q.1.length - i.1) ((0, none, 0)) (.cons rfl (.cons rfl (.cons (congrArg (fun k : Int => some (Value.int .i64 k)) (by simp only; omega)) (.nil _)))) (fun _ h => h.nilRow _ _) (Nat.zero_le _) (fun i hi => ?_); refine tri_seq ?_; refine tri_seq (tri_region ?_); refine o_move rfl rfl ?_; refine o_geq rfl rfl rfl ?_; refine triL_nilN ?_; refine tri_if rfl (fun h3 => ?_) (fun h3 => ?_)
    · skip
      refine tri_skip ?_; refine thenQ_normal ?_; refine tri_seq ?_; refine tri_block ?_; refine tri_region ?_; refine o_move rfl rfl ?_; refine o_move rfl rfl ?_; refine o_move rfl rfl ?_; refine o_idxS Tryz.underlying65 sz5 rfl rfl rfl (RdS.row (.s .z)) (by omega) (by omega) (by rw [bytesV_length]; omega) (by decide) ?_; refine o_loadR agg5 rfl rfl (RdS.row (.s .z)) (rd_byte _ (q.1.length - 1 - i.1) (by omega) (by omega)) ?_; refine o_lit1 Tryz.underlying65 zs5 rfl rfl rfl rfl rfl (by decide) (by decide) (fun b42 => ?_); refine o_append Tryz.underlying65 zsb5 rfl (by decide) (by repeat (first | exact Nth.z | apply Nth.s)) rfl rfl rfl (news := bytesV [q.1.getD (q.1.length - 1 - i.1) 0]) (RdS.row .z) rfl (bytesV_one _) (by unfold maxLen; omega) (by omega) (fun A43 c43 => ?_); refine o_assign rfl rfl ?_; refine triL_nil ?_; refine blockQ_normal ?_; refine thenQ_normal ?_; refine tri_slots [(5, _), (3, _), (6, _)] (.cons rfl (.cons rfl (.cons rfl (.nil _)))) ?_; refine tri_region ?_; refine o_move rfl rfl ?_; refine o_subN rfl rfl rfl (by omega) ?_; refine o_assignN rfl rfl ?_
      exact ⟨(i.1 + 1, A43, c43), (.cons rfl (.cons rfl (.cons (congrArg (fun k : Int => some (Value.int .i64 k)) (by simp only; omega)) (.nil _)))), (fun w1 hw1 => by simp only [rev_snoc q.1 i.1 (by omega), bytesV_append]; exact hw1.tail), by simp only; omega, (by simp only; omega)⟩
    · skip
      refine tri_exit ?_; refine thenQ_exit ?_; refine thenQ_exit ?_; refine blockQ_here ?_; refine thenQ_normal ?_; refine tri_seq ?_; refine tri_slots [(5, _)] (.cons rfl (.nil _)) ?_; refine tri_region ?_; refine o_move rfl rfl ?_; refine o_toText Tryz.underlying65 Tryz.underlying5 Tryz.underlying9 rfl rfl (RdS.row .z) (by rw [List.length_take, List.length_reverse]; omega) ?_; refine o_assignN rfl rfl ?_; refine tri_ret ?_; refine end1 rfl rfl ?_
      have hz : i.1 = q.1.length := by omega
      exact fun w1 hw1 => ⟨congrArg (fun b : List UInt8 => Ending.returned (.string (B b))) (by rw [hz, List.take_of_length_le (by simp)]; exact hj.2), hw1.chg⟩
theorem printR (v : Val) (w : World) (f : fit v) : Calls Tryz.prog 77 #[aggV v] w (Pure w (.tuple #[.string (B (prV v).1), .int .i64 (prV v).2])) := by
  refine calls_tri (args := [aggV v]) (lent := []) (H := []) Tryz.func77 rfl Tryz.ntmps77 rfl (Sat.start _ _ _ _) ?_; refine (show Tri _ [(0, _)] _ _ _ from ?_)
  have fs := f.2
  refine tri_seq (tri_region ?_); refine o_box (Val.cs _) rfl rfl rfl (fun b1 => ?_); refine o_assign rfl rfl ?_; refine o_assignN rfl rfl ?_; refine tri_seq ?_; refine tri_seq (tri_region ?_); refine o_loadBV agg27 sz27 (by repeat (first | exact Nth.z | apply Nth.s)) rfl rfl ?_; refine o_callP (first := []) (cap := []) rfl rfl rfl Tryz.call75 (fun w_ hw_ => mayR _ w_ (by assumption)) ?_; refine o_not rfl rfl ?_; refine triL_nilN ?_; refine tri_cond rfl (fun h0 => ?_) (fun h0 => ?_)
  · skip
    have h0 : ¬ may v = true := by simpa using h0
    refine tri_seq ?_; refine tri_slots [] (.nil _) ?_; refine tri_region ?_; refine o_assign rfl rfl ?_; refine o_assignN rfl rfl ?_; refine tri_ret ?_; refine thenQ_ret ?_; refine end2 rfl rfl rfl ?_
    exact fun w1 hw1 => ⟨by have e : prV v = ([], 5) := (by rw [prV, if_neg h0]); rw [e] <;> rfl, hw1.chg⟩
  · skip
    have h0 : may v = true := by simpa using h0
    refine tri_skip ?_; refine thenQ_normal ?_; refine tri_seq ?_; refine tri_seq ?_; refine tri_slots [(1, _)] (.cons rfl (.nil _)) ?_; refine tri_region ?_; refine o_field fo27_0 rfl rfl ?_; refine o_load agg3 (by repeat (first | exact Nth.z | apply Nth.s)) rfl rfl rfl ?_; refine o_eqlI rfl rfl rfl ?_; refine triL_nilN ?_; refine tri_if rfl (fun k0 => ?_) (fun k0 => ?_)
    · skip
      refine tri_seq ?_; refine tri_slots [] (.nil _) ?_; refine tri_region ?_; refine o_assign rfl rfl ?_; refine o_assignN rfl rfl ?_; refine tri_ret ?_; refine thenQ_ret ?_; refine end2 rfl rfl rfl ?_
      exact fun w1 hw1 => ⟨by have e : prV v = ([110, 117, 108, 108], 0) := (by rw [prV, if_pos h0, if_neg (by omega), if_neg (by omega), if_neg (by omega)]); rw [e] <;> rfl, hw1.chg⟩
    · skip
      refine tri_skip ?_; refine thenQ_normal ?_; refine tri_seq ?_; refine tri_seq (tri_region ?_); refine o_field fo27_0 rfl rfl ?_; refine o_load agg3 (by repeat (first | exact Nth.z | apply Nth.s)) rfl rfl rfl ?_; refine o_eqlI rfl rfl rfl ?_; refine o_move rfl rfl ?_
      refine' triL_and [_, _, _] [(1, _)] (dj := 15) (dr := 18) rfl rfl (fun g1 => ?_) ⟨_, rfl, rfl, rfl, (.cons rfl (.nil _))⟩ rfl ?_
      rotate_left
      · skip
        refine o_field fo27_1 rfl rfl ?_; refine o_load agg2 (by repeat (first | exact Nth.z | apply Nth.s)) rfl rfl rfl ?_; refine o_eqlI rfl rfl rfl ?_
        exact triL_nil (Piece.mk rfl rfl (.cons rfl (.nil _)) (fun _ h => h))
      refine triL_nilN ?_; refine tri_cond rfl (fun k2 => ?_) (fun k2 => ?_)
      · skip
        simp only [Bool.and_eq_true, decide_eq_true_eq] at k2
        refine tri_seq (tri_region ?_); refine o_assign rfl rfl ?_; refine o_assignN rfl rfl ?_; refine tri_ret ?_; refine thenQ_ret ?_; refine end2 rfl rfl rfl ?_
        exact fun w1 hw1 => ⟨by have e : prV v = ([102, 97, 108, 115, 101], 0) := (by rw [prV, if_pos h0, if_neg (by omega), if_neg (by omega), if_pos k2.1, if_neg (by omega)]); rw [e] <;> rfl, hw1.chg⟩
      · skip
        simp only [Bool.and_eq_false_iff, decide_eq_false_iff_not] at k2
        refine tri_skip ?_; refine thenQ_normal ?_; refine tri_seq ?_; refine tri_seq (tri_region ?_); refine o_field fo27_0 rfl rfl ?_; refine o_load agg3 (by repeat (first | exact Nth.z | apply Nth.s)) rfl rfl rfl ?_; refine o_eqlI rfl rfl rfl ?_; refine triL_nilN ?_; refine tri_if rfl (fun k3 => ?_) (fun k3 => ?_)
        · skip
          have hb := may_bool h0 k3
          have hb1 : v.n = 1 := by omega
          refine tri_seq ?_; refine tri_slots [] (.nil _) ?_; refine tri_region ?_; refine o_assign rfl rfl ?_; refine o_assignN rfl rfl ?_; refine tri_ret ?_; refine thenQ_ret ?_; refine end2 rfl rfl rfl ?_
          exact fun w1 hw1 => ⟨by have e : prV v = ([116, 114, 117, 101], 0) := (by rw [prV, if_pos h0, if_neg (by omega), if_neg (by omega), if_pos k3, if_pos hb1]); rw [e] <;> rfl, hw1.chg⟩
        · skip
          refine tri_skip ?_; refine thenQ_normal ?_; refine tri_seq ?_; refine tri_seq ?_; refine tri_slots [(1, _)] (.cons rfl (.nil _)) ?_; refine tri_region ?_; refine o_field fo27_0 rfl rfl ?_; refine o_load agg3 (by repeat (first | exact Nth.z | apply Nth.s)) rfl rfl rfl ?_; refine o_eqlI rfl rfl rfl ?_; refine triL_nilN ?_; refine tri_if rfl (fun k1 => ?_) (fun k1 => ?_)
          · skip
            refine tri_seq (tri_region ?_); refine o_field fo27_1 rfl rfl ?_; refine o_load agg2 (by repeat (first | exact Nth.z | apply Nth.s)) rfl rfl rfl ?_; refine o_callP (first := []) (cap := []) rfl rfl rfl Tryz.call123 (fun w_ hw_ => digitsR _ w_ (nIn f)) ?_; refine o_assign rfl rfl ?_; refine o_assignN rfl rfl ?_; refine tri_ret ?_; refine thenQ_ret ?_; refine end2 rfl rfl rfl ?_
            exact fun w1 hw1 => ⟨by have e : prV v = (Lib.itoa v.n, 0) := (by rw [prV, if_pos h0, if_pos k1]); rw [e] <;> rfl, hw1.chg⟩
          · skip
            have kt : v.k = 2 := by have := may_k h0; omega
            have ht := may_text h0 kt
            refine tri_skip ?_; refine thenQ_normal ?_; refine tri_seq (tri_region ?_); refine o_lit1 Tryz.underlying65 zs5 rfl rfl rfl rfl rfl (by decide) (by decide) (fun b29 => ?_); refine o_assignN rfl rfl ?_; refine tri_seq ?_; refine tri_seq ?_; refine tri_slots [(4, _), (1, _)] (.cons rfl (.cons rfl (.nil _))) ?_; refine tri_region ?_; refine o_assignN rfl rfl ?_; refine tri_block ?_; refine tri_loop (ι := Nat × Option Addr × Nat) (F := fun i => [(1, .pointer (some ⟨b1, 0, none⟩)), (4, .slice i.2.1 (1 + (dbl (v.s.take i.1)).length) i.2.2), (5, .int .i64 ((i.1 : Nat) : Int))]) (HH := fun i => [row (.slice i.2.1 (1 + (dbl (v.s.take i.1)).length) i.2.2) 5 1 (1 + (dbl (v.s.take i.1)).length) (bytesV (39 :: dbl (v.s.take i.1))), box b1 27 v.cs]) (Pu := fun i => i.1 ≤ v.s.length) (μ := fun i => v.s.length - i.1) ((0, some ⟨b29, 0, none⟩, 1)) (.cons rfl (.cons rfl (.cons rfl (.nil _)))) (fun _ h => h) (Nat.zero_le _) (fun i hi => ?_)
            have hd := dbl_len (v.s.take i.1)
            have hd2 : (v.s.take i.1).length ≤ i.1 := by simp; omega
            refine tri_seq ?_; refine tri_seq (tri_region ?_); refine o_move rfl rfl ?_; refine o_field fo27_2 rfl rfl ?_; refine o_load agg9 (by repeat (first | exact Nth.z | apply Nth.s)) rfl rfl rfl ?_; refine o_lenB Tryz.underlying9 rfl rfl ?_; refine o_lss rfl rfl rfl ?_; refine triL_nilN ?_; refine tri_if rfl (fun h5 => ?_) (fun h5 => ?_)
            · skip
              refine tri_skip ?_; refine thenQ_normal ?_; refine tri_join (ι := Option Addr × Nat) (fun q => [(1, .pointer (some ⟨b1, 0, none⟩)), (4, .slice q.1 (1 + (dbl (v.s.take (i.1 + 1))).length) q.2), (5, .int .i64 ((i.1 : Nat) : Int))]) (fun q => [row (.slice q.1 (1 + (dbl (v.s.take (i.1 + 1))).length) q.2) 5 1 (1 + (dbl (v.s.take (i.1 + 1))).length) (bytesV (39 :: dbl (v.s.take (i.1 + 1)))), box b1 27 v.cs]) (fun q => True) ?_ (fun q hj => ?_)
              · skip
                refine tri_block ?_; refine tri_seq ?_; refine tri_slots [(1, _), (4, _), (5, _)] (.cons rfl (.cons rfl (.cons rfl (.nil _)))) ?_; refine tri_region ?_; refine o_move rfl rfl ?_; refine o_field fo27_2 rfl rfl ?_; refine o_load agg9 (by repeat (first | exact Nth.z | apply Nth.s)) rfl rfl rfl ?_; refine o_move rfl rfl ?_; refine o_idxB Tryz.underlying9 rfl rfl rfl (by omega) (by omega) ?_; refine o_lit1 Tryz.underlying65 zs5 rfl rfl rfl rfl rfl (by decide) (by decide) (fun b42 => ?_); refine o_append Tryz.underlying65 zsb5 rfl (by decide) (by repeat (first | exact Nth.z | apply Nth.s)) rfl rfl rfl (news := bytesV [v.s.getD i.1 0]) (RdS.row .z) rfl (bytesV_one _) (by unfold maxLen; omega) (by omega) (fun A43 c43 => ?_); refine o_assignN rfl rfl ?_; refine tri_seq ?_; refine tri_slots [(4, _), (1, _), (5, _)] (.cons rfl (.cons rfl (.cons rfl (.nil _)))) ?_; refine tri_region ?_; refine o_field fo27_2 rfl rfl ?_; refine o_load agg9 (by repeat (first | exact Nth.z | apply Nth.s)) rfl rfl rfl ?_; refine o_move rfl rfl ?_; refine o_idxB Tryz.underlying9 rfl rfl rfl (by omega) (by omega) ?_; refine o_eqlU8 _ 39 rfl rfl rfl ?_; refine triL_nilN ?_; refine tri_if rfl (fun h6 => ?_) (fun h6 => ?_)
                · skip
                  have h6 : v.s.getD i.1 0 = 39 := h6
                  refine tri_slots [(4, _), (1, _), (5, _)] (.cons rfl (.cons rfl (.cons rfl (.nil _)))) ?_; refine tri_region ?_; refine o_move rfl rfl ?_; refine o_lit1 Tryz.underlying65 zs5 rfl rfl rfl rfl rfl (by decide) (by decide) (fun b50 => ?_); refine o_append Tryz.underlying65 zsb5 rfl (by decide) (by repeat (first | exact Nth.z | apply Nth.s)) rfl rfl rfl (news := bytesV [39]) (RdS.row .z) rfl (bytesV_one _) (by unfold maxLen; omega) (by omega) (fun A51 c51 => ?_); refine o_assign rfl rfl ?_; refine triL_nil ?_; refine blockQ_normal ?_; refine thenQ_normal ?_
                  have es := dbl_snoc v.s i.1 (by omega)
                  rw [if_pos h6] at es
                  have el : (dbl (v.s.take (i.1 + 1))).length = (dbl (v.s.take i.1)).length + 2 := by rw [es]; simp
                  have ec : bytesV (39 :: dbl (v.s.take (i.1 + 1))) = bytesV (39 :: dbl (v.s.take i.1)) ++ bytesV [v.s.getD i.1 0] ++ bytesV [39] := by rw [es, h6]; simp [bytesV]
                  exact ⟨(A51, c51), (.cons rfl (.cons (congrArg (fun k : Nat => some (Value.slice A51 k c51)) (by rw [el]; omega)) (.cons rfl (.nil _)))), (fun w1 hw1 => by simp only [el, ec]; exact hw1.tail.tail), trivial⟩
                · skip
                  have h6 : ¬ v.s.getD i.1 0 = 39 := h6
                  refine tri_skip ?_; refine blockQ_normal ?_; refine thenQ_normal ?_
                  have es := dbl_snoc v.s i.1 (by omega)
                  rw [if_neg h6] at es
                  have el : (dbl (v.s.take (i.1 + 1))).length = (dbl (v.s.take i.1)).length + 1 := by rw [es]; simp
                  have ec : bytesV (39 :: dbl (v.s.take (i.1 + 1))) = bytesV (39 :: dbl (v.s.take i.1)) ++ bytesV [v.s.getD i.1 0] := by rw [es]; simp [bytesV]
                  exact ⟨(A43, c43), (.cons rfl (.cons (congrArg (fun k : Nat => some (Value.slice A43 k c43)) (by rw [el]; omega)) (.cons rfl (.nil _)))), (fun w1 hw1 => by simp only [el, ec]; exact hw1.tail), trivial⟩
              refine tri_region ?_; refine o_move rfl rfl ?_; refine o_addN rfl rfl rfl (by omega) ?_; refine o_assignN rfl rfl ?_
              exact ⟨(i.1 + 1, q.1, q.2), (.cons rfl (.cons rfl (.cons rfl (.nil _)))), fun _ h => h, by simp only; omega, (by simp only; omega)⟩
            · skip
              have hz : v.s.take i.1 = v.s := List.take_of_length_le (by omega)
              refine tri_exit ?_; refine thenQ_exit ?_; refine thenQ_exit ?_; refine blockQ_here ?_; refine thenQ_normal ?_; refine tri_seq ?_; refine tri_slots [(4, _)] (.cons rfl (.nil _)) ?_; refine tri_region ?_; refine o_move rfl rfl ?_; refine o_lit1 Tryz.underlying65 zs5 rfl rfl rfl rfl rfl (by decide) (by decide) (fun b53 => ?_); refine o_append Tryz.underlying65 zsb5 rfl (by decide) (by repeat (first | exact Nth.z | apply Nth.s)) rfl rfl rfl (news := bytesV [39]) (RdS.row .z) rfl (bytesV_one _) (by unfold maxLen; omega) (by omega) (fun A54 c54 => ?_); refine o_toText (l := 39 :: (dbl (v.s.take i.1) ++ [39])) Tryz.underlying65 Tryz.underlying5 Tryz.underlying9 rfl rfl (by rw [show bytesV (39 :: (dbl (v.s.take i.1) ++ [39])) = bytesV (39 :: dbl (v.s.take i.1)) ++ bytesV [39] by simp [bytesV]]; exact RdS.row (.s .z)) (by simp; omega) ?_; refine o_assign rfl rfl ?_; refine o_assignN rfl rfl ?_; refine tri_ret ?_; refine end2 rfl rfl rfl ?_
              exact fun w1 hw1 => ⟨by have e : prV v = (39 :: (dbl (v.s.take i.1) ++ [39]), 0) := (by rw [prV, if_pos h0, if_neg k1, if_pos kt, hz]); rw [e] <;> rfl, hw1.chg⟩
end Go.Proofs.YtjbpkcbefmpfgaaGreatDoor
namespace Go.Proofs.YtjbpkcbefmpfgaaGreatDoor
open Go.WK Go.RowKit 
theorem fo67_0 : fieldB Tryz.prog 67 0 = some 0 := by kernel_rfl
theorem agg65 : aggB Tryz.prog 65 = some false := by kernel_rfl
theorem sz65 : szB Tryz.prog 65 = some 1 := by kernel_rfl
theorem fo67_1 : fieldB Tryz.prog 67 1 = some 1 := by kernel_rfl
theorem fo67_2 : fieldB Tryz.prog 67 2 = some 2 := by kernel_rfl
theorem zsb176 : (Tryz.prog.info? 176).map (fun i => (i.zero, i.size, i.bytes)) = some (some (.agg #[.int .i64 0, .string .empty, .int .i64 0]), 3, 32) := by kernel_rfl
theorem addK (ss : List (List UInt8)) (X : Option Addr) (cx0 : Nat) (pb : Nat) (A : Option Addr) (c : Nat) (l : List UInt8) (d m : Int) (w : World) (hP : PrAt w pb A c l d m) (hx : Rd w X (strsV ss)) (hxn : ∀ a, X = some a → a.block ∉ prL pb A) (hb : l.length + ss.flatten.length ≤ 70368744177664) (hs : ss.length ≤ 1000) : Calls Tryz.prog 20 #[.pointer (some ⟨pb, 0, none⟩), .slice X ss.length cx0] w (PrT w pb A (l ++ ss.flatten) (d) (m)) := by
  refine calls_tri (args := [.pointer (some ⟨pb, 0, none⟩), .slice X ss.length cx0]) (lent := prL pb A) (H := prD pb A c l d m) Tryz.func20 rfl Tryz.ntmps20 rfl (Sat.cx hP) ?_; refine (show Tri _ [(0, _), (1, _)] _ _ _ from ?_)
  have hX : ∀ cx H, cx.w0 = w → cx.lent = prL pb A → RdS cx H X (strsV ss) := fun cx H q1 q2 => RdS.lent (by rw [q1]; exact hx) (fun b hb => by rw [q2]; exact hxn b hb)
  refine tri_seq (tri_region ?_); refine o_move rfl rfl ?_; refine o_lenS Tryz.underlying23 rfl rfl ?_; refine o_move rfl rfl ?_; refine triL_nilN ?_; refine tri_block ?_; refine tri_loop (ι := Nat × Option Addr × Nat) (F := fun i => [(0, .pointer (some ⟨pb, 0, none⟩)), (6, .slice X ss.length cx0), (7, .int .i64 (ss.length : Int)), (8, .int .i64 (i.1 : Int))]) (HH := fun i => prD pb i.2.1 i.2.2 (l ++ (ss.take i.1).flatten) d m) (Pu := fun i => i.1 ≤ ss.length) (μ := fun i => ss.length - i.1) ((0, A, c)) (.cons rfl (.cons rfl (.cons rfl (.cons rfl (.nil _))))) (fun w2 hw2 => by simpa using hw2) (Nat.zero_le _) (fun i hi => ?_); refine tri_seq (tri_region ?_); refine o_lss rfl rfl rfl ?_; refine triL_nilN ?_; refine tri_seq ?_; refine tri_if rfl (fun h0 => ?_) (fun h0 => ?_)
  · skip
    have hil : i.1 < ss.length := by omega
    refine tri_skip ?_; refine thenQ_normal ?_; refine tri_seq ?_; refine tri_block ?_; refine tri_seq (tri_region ?_); refine o_idxS Tryz.underlying23 sz9 rfl rfl rfl (hX _ _ rfl rfl) (by omega) (by omega) (by rw [strsV_length]; omega) (by decide) ?_; refine o_loadR agg9 rfl rfl (hX _ _ rfl rfl) (strsV_get ss i.1 _ (by omega) hil) ?_; refine o_assignN rfl rfl ?_
    have hfl := flat_le ss i.1 hil
    refine tri_region ?_; refine o_move rfl rfl ?_; refine o_move rfl rfl ?_; refine o_nilCheck rfl rfl ?_; refine o_field fo67_0 rfl rfl ?_; refine o_load agg65 (by repeat (first | exact Nth.z | apply Nth.s)) rfl rfl rfl ?_; refine o_move rfl rfl ?_; refine o_appendT Tryz.underlying65 Tryz.underlying9 zsb5 (.s .z) rfl rfl rfl (by simp only [List.length_append]; omega) (fun A18 c18 => ?_); refine o_nilCheck rfl rfl ?_; refine o_field fo67_0 rfl rfl ?_; refine o_store sz65 (by repeat (first | exact Nth.z | apply Nth.s)) rfl rfl rfl rfl rfl (Nat.le_of_ble_eq_true rfl) rfl ?_; refine triL_nil ?_; refine blockQ_normal ?_; refine thenQ_normal ?_; refine tri_slots [(0, _), (6, _), (7, _), (8, _)] (.cons rfl (.cons rfl (.cons rfl (.cons rfl (.nil _))))) ?_; refine tri_region ?_; refine o_addN rfl rfl rfl (by omega) ?_; refine o_move rfl rfl ?_; refine triL_nilN ?_
    exact ⟨(i.1 + 1, A18, c18), (.cons rfl (.cons rfl (.cons rfl (.cons rfl (.nil _))))), (fun w2 hw2 => by
  show Sat _ (prD pb A18 c18 (l ++ (ss.take (i.1 + 1)).flatten) d m) w2
  rw [flat_snoc ss i.1 hil, ← List.append_assoc]
  have e := prD_app (H := []) hw2
  simpa using e), by simp only; omega, (by simp only; omega)⟩
  · skip
    refine tri_exit ?_; refine thenQ_exit ?_; refine thenQ_exit ?_; refine blockQ_here ?_; refine end0n rfl ?_
    exact fin_turn (J := Option Addr × Nat) ((i.2.1, i.2.2)) rfl trivial (fun w2 hw2 => prD_eq (by rw [List.take_of_length_le (by omega)]) rfl rfl hw2)
theorem openK (n : Int) (pb : Nat) (A : Option Addr) (c : Nat) (l : List UInt8) (d m : Int) (w : World) (hP : PrAt w pb A c l d m) (hn : -1 ≤ n ∧ n ≤ 1) (hd : 0 ≤ d ∧ d ≤ 140737488355328) : Calls Tryz.prog 57 #[.pointer (some ⟨pb, 0, none⟩), .int .i64 n] w (PrT w pb A (l) (d + n) (max m (d + n))) := by
  refine calls_tri (args := [.pointer (some ⟨pb, 0, none⟩), .int .i64 n]) (lent := prL pb A) (H := prD pb A c l d m) Tryz.func57 rfl Tryz.ntmps57 rfl (Sat.cx hP) ?_; refine (show Tri _ [(0, _), (1, _)] _ _ _ from ?_); refine tri_seq (tri_region ?_); refine o_move rfl rfl ?_; refine o_nilCheck rfl rfl ?_; refine o_field fo67_1 rfl rfl ?_; refine o_load agg3 (by repeat (first | exact Nth.z | apply Nth.s)) rfl rfl rfl ?_; refine o_move rfl rfl ?_; refine o_addN rfl rfl rfl (by omega) ?_; refine o_nilCheck rfl rfl ?_; refine o_field fo67_1 rfl rfl ?_; refine o_store sz3 (by repeat (first | exact Nth.z | apply Nth.s)) rfl rfl rfl rfl rfl (Nat.le_of_ble_eq_true rfl) rfl ?_; refine triL_nilN ?_; refine tri_slots [(0, _)] (.cons rfl (.nil _)) ?_; refine tri_mix (_) [(0, true), (1, true), (2, true), (3, true), (4, true), (5, true), (6, true), (7, true), (8, true), (9, true), (10, false), (11, false), (12, false)] [10, 11, 12] (by kernel_rfl) (by kernel_rfl) (fun _ h => h) ?_; refine mix_fix rfl ?_; refine o_move rfl rfl ?_; refine triL_nil ⟨rfl, mix_fix rfl ?_⟩; refine o_move rfl rfl ?_; refine triL_nil ⟨rfl, mix_fix rfl ?_⟩; refine o_nilCheck rfl rfl ?_; refine triL_nil ⟨rfl, mix_fix rfl ?_⟩; refine o_field fo67_2 rfl rfl ?_; refine triL_nil ⟨rfl, mix_fix rfl ?_⟩; refine o_load agg3 (by repeat (first | exact Nth.z | apply Nth.s)) rfl rfl rfl ?_; refine triL_nil ⟨rfl, mix_fix rfl ?_⟩; refine o_move rfl rfl ?_; refine triL_nil ⟨rfl, mix_fix rfl ?_⟩; refine o_nilCheck rfl rfl ?_; refine triL_nil ⟨rfl, mix_fix rfl ?_⟩; refine o_field fo67_1 rfl rfl ?_; refine triL_nil ⟨rfl, mix_fix rfl ?_⟩; refine o_load agg3 (by repeat (first | exact Nth.z | apply Nth.s)) rfl rfl rfl ?_; refine triL_nil ⟨rfl, mix_fix rfl ?_⟩; refine o_max rfl rfl rfl ?_; refine triL_nil ⟨rfl, ?_⟩; refine mix_rest [10, 11, 12] [_, _, _] rfl rfl ?_; refine o_nilCheck rfl rfl ?_; refine o_field fo67_2 rfl rfl ?_; refine o_store sz3 (by repeat (first | exact Nth.z | apply Nth.s)) rfl rfl rfl rfl rfl (Nat.le_of_ble_eq_true rfl) rfl ?_; refine triL_nil ⟨rfl, ?_⟩; refine end0n rfl ?_
  exact fin_turn (J := Option Addr × Nat) ((A, c)) rfl trivial (fun w2 hw2 => hw2)
set_option maxHeartbeats 2000000 in
theorem levelK (o : Int) (w : World)  : Calls Tryz.prog 56 #[.int .i64 o] w (Pure w (.int .i64 (lvl o))) := by
  refine calls_tri (args := [.int .i64 o]) (lent := []) (H := []) Tryz.func56 rfl Tryz.ntmps56 rfl (Sat.start _ _ _ _) ?_; refine (show Tri _ [(0, _)] _ _ _ from ?_); refine tri_seq (tri_region ?_); refine o_assignN rfl rfl ?_; refine tri_seq ?_; refine tri_seq (tri_region ?_); refine o_move rfl rfl ?_; refine triL_nilN ?_; refine tri_block ?_; refine tri_seq (tri_region ?_); refine o_eqlI rfl rfl rfl ?_; refine o_assignN rfl rfl ?_; refine tri_if rfl (fun h1 => ?_) (fun h1 => ?_)
  · skip
    refine tri_seq ?_; refine tri_slots [] (.nil _) ?_; refine tri_region ?_; refine o_assignN rfl rfl ?_; refine tri_ret ?_; refine blockQ_ret ?_; refine thenQ_ret ?_; refine end1 rfl rfl ?_
    exact fun w1 hw1 => ⟨congrArg (fun b => Ending.returned (.int .i64 b)) (by unfold lvl; (repeat' split) <;> omega), hw1.chg⟩
  · skip
    refine tri_seq ?_; refine tri_slots [(3, _)] (.cons rfl (.nil _)) ?_; refine tri_region ?_; refine o_eqlI rfl rfl rfl ?_; refine o_assignN rfl rfl ?_; refine tri_if rfl (fun h2 => ?_) (fun h2 => ?_)
    · skip
      refine tri_seq (tri_region ?_); refine o_assignN rfl rfl ?_; refine tri_ret ?_; refine blockQ_ret ?_; refine thenQ_ret ?_; refine end1 rfl rfl ?_
      exact fun w1 hw1 => ⟨congrArg (fun b => Ending.returned (.int .i64 b)) (by unfold lvl; (repeat' split) <;> omega), hw1.chg⟩
    · skip
      refine tri_seq (tri_region ?_); refine o_eqlI rfl rfl rfl ?_; refine o_assignN rfl rfl ?_; refine tri_if rfl (fun h3 => ?_) (fun h3 => ?_)
      · skip
        refine tri_seq ?_; refine tri_slots [] (.nil _) ?_; refine tri_region ?_; refine o_assignN rfl rfl ?_; refine tri_ret ?_; refine blockQ_ret ?_; refine thenQ_ret ?_; refine end1 rfl rfl ?_
        exact fun w1 hw1 => ⟨congrArg (fun b => Ending.returned (.int .i64 b)) (by unfold lvl; (repeat' split) <;> omega), hw1.chg⟩
      · skip
        refine tri_seq ?_; refine tri_seq ?_; refine tri_slots [(3, _)] (.cons rfl (.nil _)) ?_; refine tri_region ?_; refine o_eqlI rfl rfl rfl ?_; refine o_assignN rfl rfl ?_; refine tri_if rfl (fun h4 => ?_) (fun h4 => ?_)
        · skip
          refine tri_skip ?_; refine thenQ_normal ?_; refine tri_if rfl (fun h5 => ?_) (fun h5 => ?_)
          · skip
            refine tri_seq (tri_region ?_); refine o_assignN rfl rfl ?_; refine tri_ret ?_; refine blockQ_ret ?_; refine thenQ_ret ?_; refine end1 rfl rfl ?_
            exact fun w1 hw1 => ⟨congrArg (fun b => Ending.returned (.int .i64 b)) (by unfold lvl; (repeat' split) <;> omega), hw1.chg⟩
          · skip
            refine tri_seq ?_; refine tri_seq (tri_region ?_); refine o_eqlI rfl rfl rfl ?_; refine o_assignN rfl rfl ?_; refine tri_if rfl (fun h6 => ?_) (fun h6 => ?_)
            · skip
              refine tri_skip ?_; refine thenQ_normal ?_; refine tri_if rfl (fun h7 => ?_) (fun h7 => ?_)
              · skip
                refine tri_seq ?_; refine tri_slots [] (.nil _) ?_; refine tri_region ?_; refine o_assignN rfl rfl ?_; refine tri_ret ?_; refine blockQ_ret ?_; refine thenQ_ret ?_; refine end1 rfl rfl ?_
                exact fun w1 hw1 => ⟨congrArg (fun b => Ending.returned (.int .i64 b)) (by unfold lvl; (repeat' split) <;> omega), hw1.chg⟩
              · skip
                refine tri_seq ?_; refine tri_slots [(3, _)] (.cons rfl (.nil _)) ?_; refine tri_region ?_; refine o_eqlI rfl rfl rfl ?_; refine o_assignN rfl rfl ?_; refine tri_if rfl (fun h8 => ?_) (fun h8 => ?_)
                · skip
                  refine tri_seq (tri_region ?_); refine o_assignN rfl rfl ?_; refine tri_ret ?_; refine blockQ_ret ?_; refine thenQ_ret ?_; refine end1 rfl rfl ?_
                  exact fun w1 hw1 => ⟨congrArg (fun b => Ending.returned (.int .i64 b)) (by unfold lvl; (repeat' split) <;> omega), hw1.chg⟩
                · skip
                  refine tri_seq ?_; refine tri_seq (tri_region ?_); refine o_eqlI rfl rfl rfl ?_; refine o_assignN rfl rfl ?_; refine tri_if rfl (fun h9 => ?_) (fun h9 => ?_)
                  · skip
                    refine tri_skip ?_; refine thenQ_normal ?_; refine tri_if rfl (fun h10 => ?_) (fun h10 => ?_)
                    · skip
                      refine tri_seq ?_; refine tri_slots [] (.nil _) ?_; refine tri_region ?_; refine o_assignN rfl rfl ?_; refine tri_ret ?_; refine blockQ_ret ?_; refine thenQ_ret ?_; refine end1 rfl rfl ?_
                      exact fun w1 hw1 => ⟨congrArg (fun b => Ending.returned (.int .i64 b)) (by unfold lvl; (repeat' split) <;> omega), hw1.chg⟩
                    · skip
                      refine tri_skip ?_; refine blockQ_normal ?_; refine thenQ_normal ?_; refine tri_seq ?_; refine tri_slots [] (.nil _) ?_; refine tri_region ?_; refine o_assignN rfl rfl ?_; refine tri_ret ?_; refine end1 rfl rfl ?_
                      exact fun w1 hw1 => ⟨congrArg (fun b => Ending.returned (.int .i64 b)) (by unfold lvl; (repeat' split) <;> omega), hw1.chg⟩
                  · skip
                    refine tri_slots [(3, _)] (.cons rfl (.nil _)) ?_; refine tri_region ?_; refine o_eqlI rfl rfl rfl ?_; refine o_assignN rfl rfl ?_; refine tri_if rfl (fun h11 => ?_) (fun h11 => ?_)
                    · skip
                      refine tri_seq (tri_region ?_); refine o_assignN rfl rfl ?_; refine tri_ret ?_; refine blockQ_ret ?_; refine thenQ_ret ?_; refine end1 rfl rfl ?_
                      exact fun w1 hw1 => ⟨congrArg (fun b => Ending.returned (.int .i64 b)) (by unfold lvl; (repeat' split) <;> omega), hw1.chg⟩
                    · skip
                      refine tri_skip ?_; refine blockQ_normal ?_; refine thenQ_normal ?_; refine tri_seq (tri_region ?_); refine o_assignN rfl rfl ?_; refine tri_ret ?_; refine end1 rfl rfl ?_
                      exact fun w1 hw1 => ⟨congrArg (fun b => Ending.returned (.int .i64 b)) (by unfold lvl; (repeat' split) <;> omega), hw1.chg⟩
            · skip
              refine tri_seq ?_; refine tri_slots [(3, _)] (.cons rfl (.nil _)) ?_; refine tri_region ?_; refine o_eqlI rfl rfl rfl ?_; refine o_assignN rfl rfl ?_; refine tri_if rfl (fun h12 => ?_) (fun h12 => ?_)
              · skip
                refine tri_skip ?_; refine thenQ_normal ?_; refine tri_if rfl (fun h13 => ?_) (fun h13 => ?_)
                · skip
                  refine tri_seq (tri_region ?_); refine o_assignN rfl rfl ?_; refine tri_ret ?_; refine blockQ_ret ?_; refine thenQ_ret ?_; refine end1 rfl rfl ?_
                  exact fun w1 hw1 => ⟨congrArg (fun b => Ending.returned (.int .i64 b)) (by unfold lvl; (repeat' split) <;> omega), hw1.chg⟩
                · skip
                  refine tri_seq (tri_region ?_); refine o_eqlI rfl rfl rfl ?_; refine o_assignN rfl rfl ?_; refine tri_if rfl (fun h14 => ?_) (fun h14 => ?_)
                  · skip
                    refine tri_seq ?_; refine tri_slots [] (.nil _) ?_; refine tri_region ?_; refine o_assignN rfl rfl ?_; refine tri_ret ?_; refine blockQ_ret ?_; refine thenQ_ret ?_; refine end1 rfl rfl ?_
                    exact fun w1 hw1 => ⟨congrArg (fun b => Ending.returned (.int .i64 b)) (by unfold lvl; (repeat' split) <;> omega), hw1.chg⟩
                  · skip
                    refine tri_seq ?_; refine tri_seq ?_; refine tri_slots [(3, _)] (.cons rfl (.nil _)) ?_; refine tri_region ?_; refine o_eqlI rfl rfl rfl ?_; refine o_assignN rfl rfl ?_; refine tri_if rfl (fun h15 => ?_) (fun h15 => ?_)
                    · skip
                      refine tri_skip ?_; refine thenQ_normal ?_; refine tri_if rfl (fun h16 => ?_) (fun h16 => ?_)
                      · skip
                        refine tri_seq (tri_region ?_); refine o_assignN rfl rfl ?_; refine tri_ret ?_; refine blockQ_ret ?_; refine thenQ_ret ?_; refine end1 rfl rfl ?_
                        exact fun w1 hw1 => ⟨congrArg (fun b => Ending.returned (.int .i64 b)) (by unfold lvl; (repeat' split) <;> omega), hw1.chg⟩
                      · skip
                        refine tri_skip ?_; refine blockQ_normal ?_; refine thenQ_normal ?_; refine tri_seq (tri_region ?_); refine o_assignN rfl rfl ?_; refine tri_ret ?_; refine end1 rfl rfl ?_
                        exact fun w1 hw1 => ⟨congrArg (fun b => Ending.returned (.int .i64 b)) (by unfold lvl; (repeat' split) <;> omega), hw1.chg⟩
                    · skip
                      refine tri_region ?_; refine o_eqlI rfl rfl rfl ?_; refine o_assignN rfl rfl ?_; refine tri_if rfl (fun h17 => ?_) (fun h17 => ?_)
                      · skip
                        refine tri_seq ?_; refine tri_slots [] (.nil _) ?_; refine tri_region ?_; refine o_assignN rfl rfl ?_; refine tri_ret ?_; refine blockQ_ret ?_; refine thenQ_ret ?_; refine end1 rfl rfl ?_
                        exact fun w1 hw1 => ⟨congrArg (fun b => Ending.returned (.int .i64 b)) (by unfold lvl; (repeat' split) <;> omega), hw1.chg⟩
                      · skip
                        refine tri_skip ?_; refine blockQ_normal ?_; refine thenQ_normal ?_; refine tri_seq ?_; refine tri_slots [] (.nil _) ?_; refine tri_region ?_; refine o_assignN rfl rfl ?_; refine tri_ret ?_; refine end1 rfl rfl ?_
                        exact fun w1 hw1 => ⟨congrArg (fun b => Ending.returned (.int .i64 b)) (by unfold lvl; (repeat' split) <;> omega), hw1.chg⟩
              · skip
                refine tri_region ?_; refine o_eqlI rfl rfl rfl ?_; refine o_assignN rfl rfl ?_; refine tri_if rfl (fun h18 => ?_) (fun h18 => ?_)
                · skip
                  refine tri_seq ?_; refine tri_slots [] (.nil _) ?_; refine tri_region ?_; refine o_assignN rfl rfl ?_; refine tri_ret ?_; refine blockQ_ret ?_; refine thenQ_ret ?_; refine end1 rfl rfl ?_
                  exact fun w1 hw1 => ⟨congrArg (fun b => Ending.returned (.int .i64 b)) (by unfold lvl; (repeat' split) <;> omega), hw1.chg⟩
                · skip
                  refine tri_seq (tri_region ?_); refine o_eqlI rfl rfl rfl ?_; refine o_assignN rfl rfl ?_; refine tri_if rfl (fun h19 => ?_) (fun h19 => ?_)
                  · skip
                    refine tri_seq ?_; refine tri_slots [] (.nil _) ?_; refine tri_region ?_; refine o_assignN rfl rfl ?_; refine tri_ret ?_; refine blockQ_ret ?_; refine thenQ_ret ?_; refine end1 rfl rfl ?_
                    exact fun w1 hw1 => ⟨congrArg (fun b => Ending.returned (.int .i64 b)) (by unfold lvl; (repeat' split) <;> omega), hw1.chg⟩
                  · skip
                    refine tri_seq ?_; refine tri_seq ?_; refine tri_slots [(3, _)] (.cons rfl (.nil _)) ?_; refine tri_region ?_; refine o_eqlI rfl rfl rfl ?_; refine o_assignN rfl rfl ?_; refine tri_if rfl (fun h20 => ?_) (fun h20 => ?_)
                    · skip
                      refine tri_skip ?_; refine thenQ_normal ?_; refine tri_if rfl (fun h21 => ?_) (fun h21 => ?_)
                      · skip
                        refine tri_seq (tri_region ?_); refine o_assignN rfl rfl ?_; refine tri_ret ?_; refine blockQ_ret ?_; refine thenQ_ret ?_; refine end1 rfl rfl ?_
                        exact fun w1 hw1 => ⟨congrArg (fun b => Ending.returned (.int .i64 b)) (by unfold lvl; (repeat' split) <;> omega), hw1.chg⟩
                      · skip
                        refine tri_skip ?_; refine blockQ_normal ?_; refine thenQ_normal ?_; refine tri_seq (tri_region ?_); refine o_assignN rfl rfl ?_; refine tri_ret ?_; refine end1 rfl rfl ?_
                        exact fun w1 hw1 => ⟨congrArg (fun b => Ending.returned (.int .i64 b)) (by unfold lvl; (repeat' split) <;> omega), hw1.chg⟩
                    · skip
                      refine tri_region ?_; refine o_eqlI rfl rfl rfl ?_; refine o_assignN rfl rfl ?_; refine tri_if rfl (fun h22 => ?_) (fun h22 => ?_)
                      · skip
                        refine tri_seq ?_; refine tri_slots [] (.nil _) ?_; refine tri_region ?_; refine o_assignN rfl rfl ?_; refine tri_ret ?_; refine blockQ_ret ?_; refine thenQ_ret ?_; refine end1 rfl rfl ?_
                        exact fun w1 hw1 => ⟨congrArg (fun b => Ending.returned (.int .i64 b)) (by unfold lvl; (repeat' split) <;> omega), hw1.chg⟩
                      · skip
                        refine tri_skip ?_; refine blockQ_normal ?_; refine thenQ_normal ?_; refine tri_seq ?_; refine tri_slots [] (.nil _) ?_; refine tri_region ?_; refine o_assignN rfl rfl ?_; refine tri_ret ?_; refine end1 rfl rfl ?_
                        exact fun w1 hw1 => ⟨congrArg (fun b => Ending.returned (.int .i64 b)) (by unfold lvl; (repeat' split) <;> omega), hw1.chg⟩
        · skip
          refine tri_seq (tri_region ?_); refine o_eqlI rfl rfl rfl ?_; refine o_assignN rfl rfl ?_; refine tri_if rfl (fun h23 => ?_) (fun h23 => ?_)
          · skip
            refine tri_skip ?_; refine thenQ_normal ?_; refine tri_if rfl (fun h24 => ?_) (fun h24 => ?_)
            · skip
              refine tri_seq ?_; refine tri_slots [] (.nil _) ?_; refine tri_region ?_; refine o_assignN rfl rfl ?_; refine tri_ret ?_; refine blockQ_ret ?_; refine thenQ_ret ?_; refine end1 rfl rfl ?_
              exact fun w1 hw1 => ⟨congrArg (fun b => Ending.returned (.int .i64 b)) (by unfold lvl; (repeat' split) <;> omega), hw1.chg⟩
            · skip
              refine tri_seq ?_; refine tri_seq (tri_region ?_); refine o_eqlI rfl rfl rfl ?_; refine o_assignN rfl rfl ?_; refine tri_if rfl (fun h25 => ?_) (fun h25 => ?_)
              · skip
                refine tri_skip ?_; refine thenQ_normal ?_; refine tri_if rfl (fun h26 => ?_) (fun h26 => ?_)
                · skip
                  refine tri_seq ?_; refine tri_slots [] (.nil _) ?_; refine tri_region ?_; refine o_assignN rfl rfl ?_; refine tri_ret ?_; refine blockQ_ret ?_; refine thenQ_ret ?_; refine end1 rfl rfl ?_
                  exact fun w1 hw1 => ⟨congrArg (fun b => Ending.returned (.int .i64 b)) (by unfold lvl; (repeat' split) <;> omega), hw1.chg⟩
                · skip
                  refine tri_seq ?_; refine tri_slots [(3, _)] (.cons rfl (.nil _)) ?_; refine tri_region ?_; refine o_eqlI rfl rfl rfl ?_; refine o_assignN rfl rfl ?_; refine tri_if rfl (fun h27 => ?_) (fun h27 => ?_)
                  · skip
                    refine tri_seq (tri_region ?_); refine o_assignN rfl rfl ?_; refine tri_ret ?_; refine blockQ_ret ?_; refine thenQ_ret ?_; refine end1 rfl rfl ?_
                    exact fun w1 hw1 => ⟨congrArg (fun b => Ending.returned (.int .i64 b)) (by unfold lvl; (repeat' split) <;> omega), hw1.chg⟩
                  · skip
                    refine tri_seq ?_; refine tri_seq (tri_region ?_); refine o_eqlI rfl rfl rfl ?_; refine o_assignN rfl rfl ?_; refine tri_if rfl (fun h28 => ?_) (fun h28 => ?_)
                    · skip
                      refine tri_skip ?_; refine thenQ_normal ?_; refine tri_if rfl (fun h29 => ?_) (fun h29 => ?_)
                      · skip
                        refine tri_seq ?_; refine tri_slots [] (.nil _) ?_; refine tri_region ?_; refine o_assignN rfl rfl ?_; refine tri_ret ?_; refine blockQ_ret ?_; refine thenQ_ret ?_; refine end1 rfl rfl ?_
                        exact fun w1 hw1 => ⟨congrArg (fun b => Ending.returned (.int .i64 b)) (by unfold lvl; (repeat' split) <;> omega), hw1.chg⟩
                      · skip
                        refine tri_skip ?_; refine blockQ_normal ?_; refine thenQ_normal ?_; refine tri_seq ?_; refine tri_slots [] (.nil _) ?_; refine tri_region ?_; refine o_assignN rfl rfl ?_; refine tri_ret ?_; refine end1 rfl rfl ?_
                        exact fun w1 hw1 => ⟨congrArg (fun b => Ending.returned (.int .i64 b)) (by unfold lvl; (repeat' split) <;> omega), hw1.chg⟩
                    · skip
                      refine tri_slots [(3, _)] (.cons rfl (.nil _)) ?_; refine tri_region ?_; refine o_eqlI rfl rfl rfl ?_; refine o_assignN rfl rfl ?_; refine tri_if rfl (fun h30 => ?_) (fun h30 => ?_)
                      · skip
                        refine tri_seq (tri_region ?_); refine o_assignN rfl rfl ?_; refine tri_ret ?_; refine blockQ_ret ?_; refine thenQ_ret ?_; refine end1 rfl rfl ?_
                        exact fun w1 hw1 => ⟨congrArg (fun b => Ending.returned (.int .i64 b)) (by unfold lvl; (repeat' split) <;> omega), hw1.chg⟩
                      · skip
                        refine tri_skip ?_; refine blockQ_normal ?_; refine thenQ_normal ?_; refine tri_seq (tri_region ?_); refine o_assignN rfl rfl ?_; refine tri_ret ?_; refine end1 rfl rfl ?_
                        exact fun w1 hw1 => ⟨congrArg (fun b => Ending.returned (.int .i64 b)) (by unfold lvl; (repeat' split) <;> omega), hw1.chg⟩
              · skip
                refine tri_seq ?_; refine tri_slots [(3, _)] (.cons rfl (.nil _)) ?_; refine tri_region ?_; refine o_eqlI rfl rfl rfl ?_; refine o_assignN rfl rfl ?_; refine tri_if rfl (fun h31 => ?_) (fun h31 => ?_)
                · skip
                  refine tri_skip ?_; refine thenQ_normal ?_; refine tri_if rfl (fun h32 => ?_) (fun h32 => ?_)
                  · skip
                    refine tri_seq (tri_region ?_); refine o_assignN rfl rfl ?_; refine tri_ret ?_; refine blockQ_ret ?_; refine thenQ_ret ?_; refine end1 rfl rfl ?_
                    exact fun w1 hw1 => ⟨congrArg (fun b => Ending.returned (.int .i64 b)) (by unfold lvl; (repeat' split) <;> omega), hw1.chg⟩
                  · skip
                    refine tri_seq (tri_region ?_); refine o_eqlI rfl rfl rfl ?_; refine o_assignN rfl rfl ?_; refine tri_if rfl (fun h33 => ?_) (fun h33 => ?_)
                    · skip
                      refine tri_seq ?_; refine tri_slots [] (.nil _) ?_; refine tri_region ?_; refine o_assignN rfl rfl ?_; refine tri_ret ?_; refine blockQ_ret ?_; refine thenQ_ret ?_; refine end1 rfl rfl ?_
                      exact fun w1 hw1 => ⟨congrArg (fun b => Ending.returned (.int .i64 b)) (by unfold lvl; (repeat' split) <;> omega), hw1.chg⟩
                    · skip
                      refine tri_seq ?_; refine tri_seq ?_; refine tri_slots [(3, _)] (.cons rfl (.nil _)) ?_; refine tri_region ?_; refine o_eqlI rfl rfl rfl ?_; refine o_assignN rfl rfl ?_; refine tri_if rfl (fun h34 => ?_) (fun h34 => ?_)
                      · skip
                        refine tri_skip ?_; refine thenQ_normal ?_; refine tri_if rfl (fun h35 => ?_) (fun h35 => ?_)
                        · skip
                          refine tri_seq (tri_region ?_); refine o_assignN rfl rfl ?_; refine tri_ret ?_; refine blockQ_ret ?_; refine thenQ_ret ?_; refine end1 rfl rfl ?_
                          exact fun w1 hw1 => ⟨congrArg (fun b => Ending.returned (.int .i64 b)) (by unfold lvl; (repeat' split) <;> omega), hw1.chg⟩
                        · skip
                          refine tri_skip ?_; refine blockQ_normal ?_; refine thenQ_normal ?_; refine tri_seq (tri_region ?_); refine o_assignN rfl rfl ?_; refine tri_ret ?_; refine end1 rfl rfl ?_
                          exact fun w1 hw1 => ⟨congrArg (fun b => Ending.returned (.int .i64 b)) (by unfold lvl; (repeat' split) <;> omega), hw1.chg⟩
                      · skip
                        refine tri_region ?_; refine o_eqlI rfl rfl rfl ?_; refine o_assignN rfl rfl ?_; refine tri_if rfl (fun h36 => ?_) (fun h36 => ?_)
                        · skip
                          refine tri_seq ?_; refine tri_slots [] (.nil _) ?_; refine tri_region ?_; refine o_assignN rfl rfl ?_; refine tri_ret ?_; refine blockQ_ret ?_; refine thenQ_ret ?_; refine end1 rfl rfl ?_
                          exact fun w1 hw1 => ⟨congrArg (fun b => Ending.returned (.int .i64 b)) (by unfold lvl; (repeat' split) <;> omega), hw1.chg⟩
                        · skip
                          refine tri_skip ?_; refine blockQ_normal ?_; refine thenQ_normal ?_; refine tri_seq ?_; refine tri_slots [] (.nil _) ?_; refine tri_region ?_; refine o_assignN rfl rfl ?_; refine tri_ret ?_; refine end1 rfl rfl ?_
                          exact fun w1 hw1 => ⟨congrArg (fun b => Ending.returned (.int .i64 b)) (by unfold lvl; (repeat' split) <;> omega), hw1.chg⟩
                · skip
                  refine tri_region ?_; refine o_eqlI rfl rfl rfl ?_; refine o_assignN rfl rfl ?_; refine tri_if rfl (fun h37 => ?_) (fun h37 => ?_)
                  · skip
                    refine tri_seq ?_; refine tri_slots [] (.nil _) ?_; refine tri_region ?_; refine o_assignN rfl rfl ?_; refine tri_ret ?_; refine blockQ_ret ?_; refine thenQ_ret ?_; refine end1 rfl rfl ?_
                    exact fun w1 hw1 => ⟨congrArg (fun b => Ending.returned (.int .i64 b)) (by unfold lvl; (repeat' split) <;> omega), hw1.chg⟩
                  · skip
                    refine tri_seq (tri_region ?_); refine o_eqlI rfl rfl rfl ?_; refine o_assignN rfl rfl ?_; refine tri_if rfl (fun h38 => ?_) (fun h38 => ?_)
                    · skip
                      refine tri_seq ?_; refine tri_slots [] (.nil _) ?_; refine tri_region ?_; refine o_assignN rfl rfl ?_; refine tri_ret ?_; refine blockQ_ret ?_; refine thenQ_ret ?_; refine end1 rfl rfl ?_
                      exact fun w1 hw1 => ⟨congrArg (fun b => Ending.returned (.int .i64 b)) (by unfold lvl; (repeat' split) <;> omega), hw1.chg⟩
                    · skip
                      refine tri_seq ?_; refine tri_seq ?_; refine tri_slots [(3, _)] (.cons rfl (.nil _)) ?_; refine tri_region ?_; refine o_eqlI rfl rfl rfl ?_; refine o_assignN rfl rfl ?_; refine tri_if rfl (fun h39 => ?_) (fun h39 => ?_)
                      · skip
                        refine tri_skip ?_; refine thenQ_normal ?_; refine tri_if rfl (fun h40 => ?_) (fun h40 => ?_)
                        · skip
                          refine tri_seq (tri_region ?_); refine o_assignN rfl rfl ?_; refine tri_ret ?_; refine blockQ_ret ?_; refine thenQ_ret ?_; refine end1 rfl rfl ?_
                          exact fun w1 hw1 => ⟨congrArg (fun b => Ending.returned (.int .i64 b)) (by unfold lvl; (repeat' split) <;> omega), hw1.chg⟩
                        · skip
                          refine tri_skip ?_; refine blockQ_normal ?_; refine thenQ_normal ?_; refine tri_seq (tri_region ?_); refine o_assignN rfl rfl ?_; refine tri_ret ?_; refine end1 rfl rfl ?_
                          exact fun w1 hw1 => ⟨congrArg (fun b => Ending.returned (.int .i64 b)) (by unfold lvl; (repeat' split) <;> omega), hw1.chg⟩
                      · skip
                        refine tri_region ?_; refine o_eqlI rfl rfl rfl ?_; refine o_assignN rfl rfl ?_; refine tri_if rfl (fun h41 => ?_) (fun h41 => ?_)
                        · skip
                          refine tri_seq ?_; refine tri_slots [] (.nil _) ?_; refine tri_region ?_; refine o_assignN rfl rfl ?_; refine tri_ret ?_; refine blockQ_ret ?_; refine thenQ_ret ?_; refine end1 rfl rfl ?_
                          exact fun w1 hw1 => ⟨congrArg (fun b => Ending.returned (.int .i64 b)) (by unfold lvl; (repeat' split) <;> omega), hw1.chg⟩
                        · skip
                          refine tri_skip ?_; refine blockQ_normal ?_; refine thenQ_normal ?_; refine tri_seq ?_; refine tri_slots [] (.nil _) ?_; refine tri_region ?_; refine o_assignN rfl rfl ?_; refine tri_ret ?_; refine end1 rfl rfl ?_
                          exact fun w1 hw1 => ⟨congrArg (fun b => Ending.returned (.int .i64 b)) (by unfold lvl; (repeat' split) <;> omega), hw1.chg⟩
          · skip
            refine tri_region ?_; refine o_eqlI rfl rfl rfl ?_; refine o_assignN rfl rfl ?_; refine tri_if rfl (fun h42 => ?_) (fun h42 => ?_)
            · skip
              refine tri_seq ?_; refine tri_slots [] (.nil _) ?_; refine tri_region ?_; refine o_assignN rfl rfl ?_; refine tri_ret ?_; refine blockQ_ret ?_; refine thenQ_ret ?_; refine end1 rfl rfl ?_
              exact fun w1 hw1 => ⟨congrArg (fun b => Ending.returned (.int .i64 b)) (by unfold lvl; (repeat' split) <;> omega), hw1.chg⟩
            · skip
              refine tri_seq ?_; refine tri_seq ?_; refine tri_slots [(3, _)] (.cons rfl (.nil _)) ?_; refine tri_region ?_; refine o_eqlI rfl rfl rfl ?_; refine o_assignN rfl rfl ?_; refine tri_if rfl (fun h43 => ?_) (fun h43 => ?_)
              · skip
                refine tri_skip ?_; refine thenQ_normal ?_; refine tri_if rfl (fun h44 => ?_) (fun h44 => ?_)
                · skip
                  refine tri_seq (tri_region ?_); refine o_assignN rfl rfl ?_; refine tri_ret ?_; refine blockQ_ret ?_; refine thenQ_ret ?_; refine end1 rfl rfl ?_
                  exact fun w1 hw1 => ⟨congrArg (fun b => Ending.returned (.int .i64 b)) (by unfold lvl; (repeat' split) <;> omega), hw1.chg⟩
                · skip
                  refine tri_seq (tri_region ?_); refine o_eqlI rfl rfl rfl ?_; refine o_assignN rfl rfl ?_; refine tri_if rfl (fun h45 => ?_) (fun h45 => ?_)
                  · skip
                    refine tri_seq ?_; refine tri_slots [] (.nil _) ?_; refine tri_region ?_; refine o_assignN rfl rfl ?_; refine tri_ret ?_; refine blockQ_ret ?_; refine thenQ_ret ?_; refine end1 rfl rfl ?_
                    exact fun w1 hw1 => ⟨congrArg (fun b => Ending.returned (.int .i64 b)) (by unfold lvl; (repeat' split) <;> omega), hw1.chg⟩
                  · skip
                    refine tri_seq ?_; refine tri_seq ?_; refine tri_slots [(3, _)] (.cons rfl (.nil _)) ?_; refine tri_region ?_; refine o_eqlI rfl rfl rfl ?_; refine o_assignN rfl rfl ?_; refine tri_if rfl (fun h46 => ?_) (fun h46 => ?_)
                    · skip
                      refine tri_skip ?_; refine thenQ_normal ?_; refine tri_if rfl (fun h47 => ?_) (fun h47 => ?_)
                      · skip
                        refine tri_seq (tri_region ?_); refine o_assignN rfl rfl ?_; refine tri_ret ?_; refine blockQ_ret ?_; refine thenQ_ret ?_; refine end1 rfl rfl ?_
                        exact fun w1 hw1 => ⟨congrArg (fun b => Ending.returned (.int .i64 b)) (by unfold lvl; (repeat' split) <;> omega), hw1.chg⟩
                      · skip
                        refine tri_skip ?_; refine blockQ_normal ?_; refine thenQ_normal ?_; refine tri_seq (tri_region ?_); refine o_assignN rfl rfl ?_; refine tri_ret ?_; refine end1 rfl rfl ?_
                        exact fun w1 hw1 => ⟨congrArg (fun b => Ending.returned (.int .i64 b)) (by unfold lvl; (repeat' split) <;> omega), hw1.chg⟩
                    · skip
                      refine tri_region ?_; refine o_eqlI rfl rfl rfl ?_; refine o_assignN rfl rfl ?_; refine tri_if rfl (fun h48 => ?_) (fun h48 => ?_)
                      · skip
                        refine tri_seq ?_; refine tri_slots [] (.nil _) ?_; refine tri_region ?_; refine o_assignN rfl rfl ?_; refine tri_ret ?_; refine blockQ_ret ?_; refine thenQ_ret ?_; refine end1 rfl rfl ?_
                        exact fun w1 hw1 => ⟨congrArg (fun b => Ending.returned (.int .i64 b)) (by unfold lvl; (repeat' split) <;> omega), hw1.chg⟩
                      · skip
                        refine tri_skip ?_; refine blockQ_normal ?_; refine thenQ_normal ?_; refine tri_seq ?_; refine tri_slots [] (.nil _) ?_; refine tri_region ?_; refine o_assignN rfl rfl ?_; refine tri_ret ?_; refine end1 rfl rfl ?_
                        exact fun w1 hw1 => ⟨congrArg (fun b => Ending.returned (.int .i64 b)) (by unfold lvl; (repeat' split) <;> omega), hw1.chg⟩
              · skip
                refine tri_seq (tri_region ?_); refine o_eqlI rfl rfl rfl ?_; refine o_assignN rfl rfl ?_; refine tri_if rfl (fun h49 => ?_) (fun h49 => ?_)
                · skip
                  refine tri_skip ?_; refine thenQ_normal ?_; refine tri_if rfl (fun h50 => ?_) (fun h50 => ?_)
                  · skip
                    refine tri_seq ?_; refine tri_slots [] (.nil _) ?_; refine tri_region ?_; refine o_assignN rfl rfl ?_; refine tri_ret ?_; refine blockQ_ret ?_; refine thenQ_ret ?_; refine end1 rfl rfl ?_
                    exact fun w1 hw1 => ⟨congrArg (fun b => Ending.returned (.int .i64 b)) (by unfold lvl; (repeat' split) <;> omega), hw1.chg⟩
                  · skip
                    refine tri_seq (tri_region ?_); refine o_eqlI rfl rfl rfl ?_; refine o_assignN rfl rfl ?_; refine tri_if rfl (fun h51 => ?_) (fun h51 => ?_)
                    · skip
                      refine tri_seq ?_; refine tri_slots [] (.nil _) ?_; refine tri_region ?_; refine o_assignN rfl rfl ?_; refine tri_ret ?_; refine blockQ_ret ?_; refine thenQ_ret ?_; refine end1 rfl rfl ?_
                      exact fun w1 hw1 => ⟨congrArg (fun b => Ending.returned (.int .i64 b)) (by unfold lvl; (repeat' split) <;> omega), hw1.chg⟩
                    · skip
                      refine tri_seq ?_; refine tri_seq ?_; refine tri_slots [(3, _)] (.cons rfl (.nil _)) ?_; refine tri_region ?_; refine o_eqlI rfl rfl rfl ?_; refine o_assignN rfl rfl ?_; refine tri_if rfl (fun h52 => ?_) (fun h52 => ?_)
                      · skip
                        refine tri_skip ?_; refine thenQ_normal ?_; refine tri_if rfl (fun h53 => ?_) (fun h53 => ?_)
                        · skip
                          refine tri_seq (tri_region ?_); refine o_assignN rfl rfl ?_; refine tri_ret ?_; refine blockQ_ret ?_; refine thenQ_ret ?_; refine end1 rfl rfl ?_
                          exact fun w1 hw1 => ⟨congrArg (fun b => Ending.returned (.int .i64 b)) (by unfold lvl; (repeat' split) <;> omega), hw1.chg⟩
                        · skip
                          refine tri_skip ?_; refine blockQ_normal ?_; refine thenQ_normal ?_; refine tri_seq (tri_region ?_); refine o_assignN rfl rfl ?_; refine tri_ret ?_; refine end1 rfl rfl ?_
                          exact fun w1 hw1 => ⟨congrArg (fun b => Ending.returned (.int .i64 b)) (by unfold lvl; (repeat' split) <;> omega), hw1.chg⟩
                      · skip
                        refine tri_region ?_; refine o_eqlI rfl rfl rfl ?_; refine o_assignN rfl rfl ?_; refine tri_if rfl (fun h54 => ?_) (fun h54 => ?_)
                        · skip
                          refine tri_seq ?_; refine tri_slots [] (.nil _) ?_; refine tri_region ?_; refine o_assignN rfl rfl ?_; refine tri_ret ?_; refine blockQ_ret ?_; refine thenQ_ret ?_; refine end1 rfl rfl ?_
                          exact fun w1 hw1 => ⟨congrArg (fun b => Ending.returned (.int .i64 b)) (by unfold lvl; (repeat' split) <;> omega), hw1.chg⟩
                        · skip
                          refine tri_skip ?_; refine blockQ_normal ?_; refine thenQ_normal ?_; refine tri_seq ?_; refine tri_slots [] (.nil _) ?_; refine tri_region ?_; refine o_assignN rfl rfl ?_; refine tri_ret ?_; refine end1 rfl rfl ?_
                          exact fun w1 hw1 => ⟨congrArg (fun b => Ending.returned (.int .i64 b)) (by unfold lvl; (repeat' split) <;> omega), hw1.chg⟩
                · skip
                  refine tri_region ?_; refine o_eqlI rfl rfl rfl ?_; refine o_assignN rfl rfl ?_; refine tri_if rfl (fun h55 => ?_) (fun h55 => ?_)
                  · skip
                    refine tri_seq ?_; refine tri_slots [] (.nil _) ?_; refine tri_region ?_; refine o_assignN rfl rfl ?_; refine tri_ret ?_; refine blockQ_ret ?_; refine thenQ_ret ?_; refine end1 rfl rfl ?_
                    exact fun w1 hw1 => ⟨congrArg (fun b => Ending.returned (.int .i64 b)) (by unfold lvl; (repeat' split) <;> omega), hw1.chg⟩
                  · skip
                    refine tri_seq ?_; refine tri_slots [(3, _)] (.cons rfl (.nil _)) ?_; refine tri_region ?_; refine o_eqlI rfl rfl rfl ?_; refine o_assignN rfl rfl ?_; refine tri_if rfl (fun h56 => ?_) (fun h56 => ?_)
                    · skip
                      refine tri_seq (tri_region ?_); refine o_assignN rfl rfl ?_; refine tri_ret ?_; refine blockQ_ret ?_; refine thenQ_ret ?_; refine end1 rfl rfl ?_
                      exact fun w1 hw1 => ⟨congrArg (fun b => Ending.returned (.int .i64 b)) (by unfold lvl; (repeat' split) <;> omega), hw1.chg⟩
                    · skip
                      refine tri_seq ?_; refine tri_seq (tri_region ?_); refine o_eqlI rfl rfl rfl ?_; refine o_assignN rfl rfl ?_; refine tri_if rfl (fun h57 => ?_) (fun h57 => ?_)
                      · skip
                        refine tri_skip ?_; refine thenQ_normal ?_; refine tri_if rfl (fun h58 => ?_) (fun h58 => ?_)
                        · skip
                          refine tri_seq ?_; refine tri_slots [] (.nil _) ?_; refine tri_region ?_; refine o_assignN rfl rfl ?_; refine tri_ret ?_; refine blockQ_ret ?_; refine thenQ_ret ?_; refine end1 rfl rfl ?_
                          exact fun w1 hw1 => ⟨congrArg (fun b => Ending.returned (.int .i64 b)) (by unfold lvl; (repeat' split) <;> omega), hw1.chg⟩
                        · skip
                          refine tri_skip ?_; refine blockQ_normal ?_; refine thenQ_normal ?_; refine tri_seq ?_; refine tri_slots [] (.nil _) ?_; refine tri_region ?_; refine o_assignN rfl rfl ?_; refine tri_ret ?_; refine end1 rfl rfl ?_
                          exact fun w1 hw1 => ⟨congrArg (fun b => Ending.returned (.int .i64 b)) (by unfold lvl; (repeat' split) <;> omega), hw1.chg⟩
                      · skip
                        refine tri_slots [(3, _)] (.cons rfl (.nil _)) ?_; refine tri_region ?_; refine o_eqlI rfl rfl rfl ?_; refine o_assignN rfl rfl ?_; refine tri_if rfl (fun h59 => ?_) (fun h59 => ?_)
                        · skip
                          refine tri_seq (tri_region ?_); refine o_assignN rfl rfl ?_; refine tri_ret ?_; refine blockQ_ret ?_; refine thenQ_ret ?_; refine end1 rfl rfl ?_
                          exact fun w1 hw1 => ⟨congrArg (fun b => Ending.returned (.int .i64 b)) (by unfold lvl; (repeat' split) <;> omega), hw1.chg⟩
                        · skip
                          refine tri_skip ?_; refine blockQ_normal ?_; refine thenQ_normal ?_; refine tri_seq (tri_region ?_); refine o_assignN rfl rfl ?_; refine tri_ret ?_; refine end1 rfl rfl ?_
                          exact fun w1 hw1 => ⟨congrArg (fun b => Ending.returned (.int .i64 b)) (by unfold lvl; (repeat' split) <;> omega), hw1.chg⟩
theorem textK (o : Int) (w : World)  : Calls Tryz.prog 117 #[.int .i64 o] w (Pure w (.string (B (opTxt o)))) := by
  refine calls_tri (args := [.int .i64 o]) (lent := []) (H := []) Tryz.func117 rfl Tryz.ntmps117 rfl (Sat.start _ _ _ _) ?_; refine (show Tri _ [(0, _)] _ _ _ from ?_); refine tri_seq (tri_region ?_); refine o_assignN rfl rfl ?_; refine tri_seq (tri_region ?_); refine o_callP (first := []) (cap := []) rfl rfl rfl Tryz.call150 (fun w1 h1 => comparisonsP w1) ?_; refine o_callP (first := []) (cap := []) rfl rfl rfl Tryz.call151 (fun w1 h1 => sumsP w1) ?_; refine o_callP (first := []) (cap := []) rfl rfl rfl Tryz.call152 (fun w1 h1 => productsP w1) ?_; refine o_alloc _ rfl zero196 rfl (fun b3 => ?_); refine o_alloc _ rfl zero198 rfl (fun b4 => ?_); refine o_alloc _ rfl zero198 rfl (fun b5 => ?_); refine o_store sz196 (by repeat (first | exact Nth.z | apply Nth.s)) rfl rfl rfl rfl rfl (Nat.le_of_ble_eq_true rfl) rfl ?_; refine o_store sz198 (by repeat (first | exact Nth.z | apply Nth.s)) rfl rfl rfl rfl rfl (Nat.le_of_ble_eq_true rfl) rfl ?_; refine o_store sz198 (by repeat (first | exact Nth.z | apply Nth.s)) rfl rfl rfl rfl rfl (Nat.le_of_ble_eq_true rfl) rfl ?_; refine triL_nilN ?_; refine tri_seq ?_; refine tri_slots [(5, _), (4, _), (3, _), (0, _)] (.cons rfl (.cons rfl (.cons rfl (.cons rfl (.nil _))))) ?_; refine MP.tri_mix ([]) [(0, true), (1, true), (3, true), (5, true), (7, true), (2, false), (4, false), (6, false), (8, false), (9, false)] [8, 9] (by kernel_rfl) (by kernel_rfl) (fun _ h => h.sel [] (by decide)) ?_; refine MP.mix_fix rfl ?_; refine o_build (bval176_0_1_2 _ _ _) rfl rfl ?_; refine triL_nil ⟨rfl, ?_⟩; refine MP.mix_fix rfl ?_; refine o_build (bval176_0_1_2 _ _ _) rfl rfl ?_; refine triL_nil ⟨rfl, ?_⟩; refine MP.mix_fix rfl ?_; refine o_sliceArrZ Tryz.underlying196 sz176 rfl rfl ?_; refine triL_nil ⟨rfl, ?_⟩; refine MP.mix_fix rfl ?_; refine o_sliceArrZ Tryz.underlying198 sz176 rfl rfl ?_; refine triL_nil ⟨rfl, ?_⟩; refine MP.mix_fix rfl ?_; refine o_sliceArrZ Tryz.underlying198 sz176 rfl rfl ?_; refine triL_nil ⟨rfl, ?_⟩; refine MP.mix_op rfl ?_; refine o_lit (parts := [_, _]) (toksV (orO ++ andO)) Tryz.underlying177 zs176 rfl rfl rfl rfl (by decide) (by decide) (fun b14 => ?_); refine triL_nil (show _ ∧ _ from ⟨fun _ _ h => h.sel [] (by decide), ?_⟩); refine MP.mix_op rfl ?_; refine o_append Tryz.underlying177 zsb176 rfl (by decide) (by repeat (first | exact Nth.z | apply Nth.s)) rfl rfl rfl (news := toksV cmpO) (RdS.box (.s (.s (.s .z)))) rfl (toksV_one _) (by unfold maxLen; omega) (by omega) (fun A16 c16 => ?_); refine triL_nil (show _ ∧ _ from ⟨fun _ _ h => h.sel [] (by decide), ?_⟩); refine MP.mix_op rfl ?_; refine o_append Tryz.underlying177 zsb176 rfl (by decide) (by repeat (first | exact Nth.z | apply Nth.s)) rfl rfl rfl (news := toksV sumO) (RdS.box (.s (.s .z))) rfl (toksV_one _) (by unfold maxLen; omega) (by omega) (fun A18 c18 => ?_); refine triL_nil (show _ ∧ _ from ⟨fun _ _ h => h.sel [] (by decide), ?_⟩); refine MP.mix_op rfl ?_; refine o_append Tryz.underlying177 zsb176 rfl (by decide) (by repeat (first | exact Nth.z | apply Nth.s)) rfl rfl rfl (news := toksV mulO) (RdS.box (.s .z)) rfl (toksV_one _) (by unfold maxLen; omega) (by omega) (fun A20 c20 => ?_); refine triL_nil (show _ ∧ _ from ⟨fun hh => absurd hh (by decide), ?_⟩); refine MP.mix_op rfl ?_; refine o_assign rfl rfl ?_; refine triL_nil (show _ ∧ _ from ⟨fun hh => absurd hh (by decide), ?_⟩); refine MP.mix_nil ?_; refine thenQ_normal ?_; refine tri_seq ?_; refine tri_seq ?_; refine tri_slots [(6, _), (0, _)] (.cons rfl (.cons rfl (.nil _))) ?_; refine tri_region ?_; refine o_move rfl rfl ?_; refine o_lenS Tryz.underlying177 rfl rfl ?_; refine o_move rfl rfl ?_; refine triL_nilN ?_; refine tri_block ?_; refine tri_loop (ι := Nat) (F := fun i => [(0, .int .i64 o), (21, .slice A20 14 c20), (22, .int .i64 14), (23, .int .i64 (i : Int))]) (HH := fun i => [row (.slice A20 14 c20) 176 3 14 (toksV allO)]) (Pu := fun i => i ≤ 14 ∧ ∀ j, j < i → (allO.getD j Tok.zero).a ≠ o) (μ := fun i => 14 - i) (0) (.cons rfl (.cons rfl (.cons rfl (.cons rfl (.nil _))))) (fun w2 hw2 => hw2.sel [0] (by decide)) (⟨by omega, fun j hj => absurd hj (by omega)⟩) (fun i hi => ?_); refine tri_seq (tri_region ?_); refine o_lss rfl rfl rfl ?_; refine triL_nilN ?_; refine tri_seq ?_; refine tri_if rfl (fun h0 => ?_) (fun h0 => ?_)
  · skip
    have hil : i < allO.length := by show i < 14; omega
    refine tri_skip ?_; refine thenQ_normal ?_; refine tri_seq ?_; refine tri_block ?_; refine tri_seq (tri_region ?_); refine o_idxS Tryz.underlying177 sz176 rfl rfl rfl (RdS.row .z) (by omega) (by omega) rfl (by decide) ?_; refine o_loadTk i agg176 sz176 rfl rfl (RdS.row .z) (by omega) (by omega) ?_; refine o_alloc (Tok.cs Tok.zero) rfl zero176 rfl (fun b8 => ?_); refine o_storeBTk sz176 (by repeat (first | exact Nth.z | apply Nth.s)) rfl rfl rfl ?_; refine triL_nilN ?_; refine tri_seq (tri_region ?_); refine o_field fo176_2 rfl rfl ?_; refine o_load agg3 (by repeat (first | exact Nth.z | apply Nth.s)) rfl rfl rfl ?_; refine o_move rfl rfl ?_; refine o_eqlI rfl rfl rfl ?_; refine triL_nilN ?_; refine tri_if rfl (fun h1 => ?_) (fun h1 => ?_)
    · skip
      have h1 : (allO.getD i Tok.zero).a = o := h1
      refine tri_seq ?_; refine tri_slots [(8, _)] (.cons rfl (.nil _)) ?_; refine tri_region ?_; refine o_field fo176_1 rfl rfl ?_; refine o_load agg9 (by repeat (first | exact Nth.z | apply Nth.s)) rfl rfl rfl ?_; refine o_assignN rfl rfl ?_; refine tri_ret ?_; refine blockQ_ret ?_; refine thenQ_ret ?_; refine thenQ_ret ?_; refine blockQ_ret ?_; refine thenQ_ret ?_; refine end1 rfl rfl ?_
      exact fun w1 hw1 => ⟨congrArg (fun s => Ending.returned (.string (B s))) (by rw [← h1]; exact (op_hit i (by omega)).symm), hw1.chg⟩
    · skip
      have h1 : (allO.getD i Tok.zero).a ≠ o := h1
      refine tri_skip ?_; refine blockQ_normal ?_; refine thenQ_normal ?_; refine tri_slots [(0, _), (21, _), (22, _), (23, _)] (.cons rfl (.cons rfl (.cons rfl (.cons rfl (.nil _))))) ?_; refine tri_region ?_; refine o_addN rfl rfl rfl (by omega) ?_; refine o_move rfl rfl ?_; refine triL_nilN ?_
      exact ⟨i + 1, (.cons rfl (.cons rfl (.cons rfl (.cons rfl (.nil _))))), (fun w2 hw2 => hw2.tail), ⟨by omega, miss_step hi.2 h1⟩, by omega⟩
  · skip
    refine tri_exit ?_; refine thenQ_exit ?_; refine thenQ_exit ?_; refine blockQ_here ?_; refine thenQ_normal ?_; refine tri_seq ?_; refine tri_slots [] (.nil _) ?_; refine tri_region ?_; refine o_assignN rfl rfl ?_; refine tri_ret ?_; refine end1 rfl rfl ?_
    exact fun w1 hw1 => ⟨congrArg (fun s => Ending.returned (.string (B s))) (op_miss (fun j hj => hi.2 j (by omega))).symm, hw1.chg⟩
theorem toldK (pb : Nat) (A : Option Addr) (c : Nat) (l : List UInt8) (d m : Int) (w : World) (hP : PrAt w pb A c l d m) (hb : l.length ≤ 70368744177664) : Calls Tryz.prog 28 #[.pointer (some ⟨pb, 0, none⟩)] w (Turn w (prL pb A) (fun _ : Unit => .tuple #[.string (B (toldX l m).1), .int .i64 (toldX l m).2]) (fun _ => prD pb A c l d m) (fun _ => True)) := by
  refine calls_tri (args := [.pointer (some ⟨pb, 0, none⟩)]) (lent := prL pb A) (H := prD pb A c l d m) Tryz.func28 rfl Tryz.ntmps28 rfl (Sat.cx hP) ?_; refine (show Tri _ [(0, _)] _ _ _ from ?_); refine tri_seq (tri_region ?_); refine o_assign rfl rfl ?_; refine o_assignN rfl rfl ?_; refine tri_seq ?_; refine tri_seq (tri_region ?_); refine o_move rfl rfl ?_; refine o_nilCheck rfl rfl ?_; refine o_field fo67_2 rfl rfl ?_; refine o_load agg3 (by repeat (first | exact Nth.z | apply Nth.s)) rfl rfl rfl ?_; refine o_gtr rfl rfl rfl ?_; refine triL_nilN ?_; refine tri_if rfl (fun h0 => ?_) (fun h0 => ?_)
  · skip
    refine tri_seq ?_; refine tri_slots [] (.nil _) ?_; refine tri_region ?_; refine o_assign rfl rfl ?_; refine o_assignN rfl rfl ?_; refine tri_ret ?_; refine thenQ_ret ?_; refine end2 rfl rfl rfl ?_
    exact fin_turn () (by rw [toldX, if_pos h0]) trivial (fun w2 hw2 => hw2)
  · skip
    refine tri_skip ?_; refine thenQ_normal ?_; refine tri_seq ?_; refine tri_seq ?_; refine tri_slots [(0, _)] (.cons rfl (.nil _)) ?_; refine tri_region ?_; refine o_move rfl rfl ?_; refine o_nilCheck rfl rfl ?_; refine o_field fo67_0 rfl rfl ?_; refine o_load agg65 (by repeat (first | exact Nth.z | apply Nth.s)) rfl rfl rfl ?_; refine o_lenS Tryz.underlying65 rfl rfl ?_; refine o_gtr rfl rfl rfl ?_; refine triL_nilN ?_; refine tri_if rfl (fun h1 => ?_) (fun h1 => ?_)
    · skip
      refine tri_seq ?_; refine tri_slots [] (.nil _) ?_; refine tri_region ?_; refine o_assign rfl rfl ?_; refine o_assignN rfl rfl ?_; refine tri_ret ?_; refine thenQ_ret ?_; refine end2 rfl rfl rfl ?_
      exact fin_turn () (by rw [toldX, if_neg h0, if_pos (by omega)]) trivial (fun w2 hw2 => hw2)
    · skip
      refine tri_skip ?_; refine thenQ_normal ?_; refine tri_seq ?_; refine tri_slots [(0, _)] (.cons rfl (.nil _)) ?_; refine tri_region ?_; refine o_move rfl rfl ?_; refine o_nilCheck rfl rfl ?_; refine o_field fo67_0 rfl rfl ?_; refine o_load agg65 (by repeat (first | exact Nth.z | apply Nth.s)) rfl rfl rfl ?_; refine o_toText Tryz.underlying65 Tryz.underlying5 Tryz.underlying9 rfl rfl (RdS.row (.s .z)) rfl ?_; refine o_assign rfl rfl ?_; refine o_assignN rfl rfl ?_; refine tri_ret ?_; refine end2 rfl rfl rfl ?_
      exact fin_turn () (by rw [toldX, if_neg h0, if_neg (by omega)]) trivial (fun w2 hw2 => hw2)
end Go.Proofs.YtjbpkcbefmpfgaaGreatDoor
namespace Go.Proofs.YtjbpkcbefmpfgaaGreatDoor
open Go.WK Go.RowKit 
theorem fo30_5 : fieldB Tryz.prog 30 5 = some 7 := by kernel_rfl
theorem agg28 : aggB Tryz.prog 28 = some false := by kernel_rfl
theorem fo30_0 : fieldB Tryz.prog 30 0 = some 0 := by kernel_rfl
theorem fo30_1 : fieldB Tryz.prog 30 1 = some 1 := by kernel_rfl
/-- What stays while the printer grows: blocks, and what the library reads. -/
structure PV (w : World) (L bl : List Nat) : Prop where
  pe : PE w L bl
  lv : LV w
theorem PV.sub {w w1 : World} {L L1 bl : List Nat} (h : PV w L bl) (s : PSub w L w1 L1) : PV w1 L1 bl := ⟨h.pe.sub s, h.lv.chgL s.chg (fun k hk => (h.pe.g k hk).2)⟩
def PX (e : Ex) : Prop := ∀ (low : Int) (bl : List Nat) (cs : List Value) (pb : Nat) (A : Option Addr) (c : Nat) (l : List UInt8) (d m : Int) (w : World), PrAt w pb A c l d m → PV w (prL pb A) bl → ExK bl w e cs → 0 ≤ d ∧ d ≤ m → d + ((e.txt low).2 : Int) ≤ 140737488355328 → l.length + (e.txt low).1.length ≤ 70368744177664 →
  Calls Tryz.prog 26 #[.pointer (some ⟨pb, 0, none⟩), .agg cs.toArray, .int .i64 low] w (PrT w pb A (l ++ (e.txt low).1) d (max m (d + ((e.txt low).2 : Int))))
theorem fit_of {v : Val} (hm : may v = true) (ho : v.ok) : fit v := by
  refine ⟨ho, ?_⟩
  unfold may at hm
  by_cases h0 : v.k = 0
  · simp [h0] at hm; rw [hm.2]; simp
  · by_cases h1 : v.k = 1
    · simp [h1] at hm; rw [hm]; simp
    · by_cases h2 : v.k = 2
      · simp [h2] at hm; omega
      · simp [h0, h1, h2] at hm; rw [hm.2.1]; simp
theorem binK (o cc : Int) (v : Val) (t n : List UInt8) (al : List Ex) (Ax : Option Addr) (kx : Nat) (xs : List Value) (low : Int) (bl : List Nat) (pb : Nat) (A : Option Addr) (c : Nat) (l : List UInt8) (d m : Int) (w : World) (hP : PrAt w pb A c l d m) (hV : PV w (prL pb A) bl) (_ : al.length ≤ kx) (hxr : Rd w Ax xs) (hxb : ∀ a, Ax = some a → al ≠ [] → a.block ∈ bl) (hxs : ExsK bl w al xs) (hdm : 0 ≤ d ∧ d ≤ m) (hd : d + ((Ex.txt (.mk o v t n cc al) low).2 : Int) ≤ 140737488355328) (hb : l.length + (Ex.txt (.mk o v t n cc al) low).1.length ≤ 70368744177664) (ho : 8 ≤ o ∧ o ≤ 21) (hal : al.length = 2) (hlow : ¬ lvl o < low) (ih : ∀ i, i < al.length → PX (al.getD i Ex.zero)) : Calls Tryz.prog 59 #[.pointer (some ⟨pb, 0, none⟩), .agg ([.int .i64 o, .int .i64 v.k, .int .i64 v.n, .string (B v.s), .string (B t), .string (B n), .int .i64 cc, .slice Ax al.length kx] : List Value).toArray, .int .i64 (lvl o)] w (PrT w pb A (l ++ (Ex.txt (.mk o v t n cc al) low).1) (d) (max m (d + ((Ex.txt (.mk o v t n cc al) low).2 : Int)))) := by
  refine calls_tri (args := [.pointer (some ⟨pb, 0, none⟩), .agg ([.int .i64 o, .int .i64 v.k, .int .i64 v.n, .string (B v.s), .string (B t), .string (B n), .int .i64 cc, .slice Ax al.length kx] : List Value).toArray, .int .i64 (lvl o)]) (lent := prL pb A) (H := prD pb A c l d m) Tryz.func59 rfl Tryz.ntmps59 rfl (Sat.cx hP) ?_; refine (show Tri _ [(0, _), (1, _), (2, _)] _ _ _ from ?_)
  have hl8 := lvl_le o
  have hR := hV.pe.rd hxr (fun a ha hx => hxb a ha (hxs.nil hx))
  have hxl := (ExsK.c _ _ hxs).len
  obtain ⟨cs0, hc0, hk0⟩ := ExsK.at 0 hxs (by omega)
  obtain ⟨cs1, hc1, hk1⟩ := ExsK.at 1 hxs (by omega)
  rw [txt_low hlow, core_b (by omega) (by omega) (by omega) (by omega) (by omega) (by omega) (by omega)] at hd hb ⊢
  simp only at hd hb ⊢
  refine tri_seq (tri_region ?_); refine o_box _ rfl rfl rfl (fun b4 => ?_); refine triL_nilN ?_; refine tri_seq (tri_region ?_); refine o_move rfl rfl ?_; refine o_assignN rfl rfl ?_; refine tri_join (ι := Nat) (fun i => [(0, .pointer (some ⟨pb, 0, none⟩)), (2, .int .i64 (lvl o)), (4, .pointer (some ⟨b4, 0, none⟩)), (6, .int .i64 (if lvl o = 4 then 5 else lvl o))]) (fun i => [box b4 30 ([.int .i64 o, .int .i64 v.k, .int .i64 v.n, .string (B v.s), .string (B t), .string (B n), .int .i64 cc, .slice Ax al.length kx] : List Value)] ++ prD pb A c l d m) (fun i => True) ?_ (fun i hj => ?_)
  · skip
    refine tri_seq (tri_region ?_); refine o_move rfl rfl ?_; refine o_eqlI rfl rfl rfl ?_; refine triL_nilN ?_; refine tri_if rfl (fun h0 => ?_) (fun h0 => ?_)
    · skip
      refine tri_slots [(4, _), (0, _), (2, _)] (.cons rfl (.cons rfl (.cons rfl (.nil _)))) ?_; refine tri_region ?_; refine o_assignN rfl rfl ?_
      exact ⟨0, (.cons rfl (.cons rfl (.cons rfl (.cons (by rw [if_pos h0]; rfl) (.nil _))))), fun _ h => h, trivial⟩
    · skip
      refine tri_skip ?_; refine thenQ_normal ?_
      exact ⟨0, (.cons rfl (.cons rfl (.cons rfl (.cons (by rw [if_neg h0]; rfl) (.nil _))))), fun _ h => h, trivial⟩
  refine tri_seq (tri_region ?_); refine o_move rfl rfl ?_; refine o_field fo30_5 rfl rfl ?_; refine o_load agg28 (by repeat (first | exact Nth.z | apply Nth.s)) rfl rfl rfl ?_; refine o_idxS Tryz.underlying28 sz30 rfl rfl rfl (hR _ _ rfl rfl) (by omega) (by omega) (by omega) (by decide) ?_; refine o_loadRA agg30 sz30 rfl rfl (hR _ _ rfl rfl) (vs := cs0) hc0 hk0.len (by decide) ?_; refine o_move rfl rfl ?_; refine o_callPr [_] rfl rfl rfl rfl Tryz.call26 (fun w1 h1 h2 h3 => ih 0 (by omega) (if lvl o = 4 then 5 else lvl o) bl _ pb _ _ _ _ _ w1 h2 (hV.sub (PSub.of h1 h3)) (hk0.psub hV.pe (PSub.of h1 h3)) (by omega) (by omega) (by simp only [List.length_append, List.length_cons, List.length_nil] at hb ⊢; omega)) (fun A16 c16 => ?_); refine triL_nilN ?_; refine tri_seq ?_; refine tri_slots [(0, _), (2, _), (4, _)] (.cons rfl (.cons rfl (.cons rfl (.nil _)))) ?_; refine tri_region ?_; refine o_move rfl rfl ?_; refine o_field fo30_0 rfl rfl ?_; refine o_load agg3 (by repeat (first | exact Nth.z | apply Nth.s)) rfl rfl rfl ?_; refine o_callP (first := []) (cap := []) rfl rfl rfl Tryz.call117 (fun w1 h1 => textK o w1) ?_; refine o_lit (parts := [_, _, _]) (strsV [[32], opTxt o, [32]]) Tryz.underlying23 zs9 rfl rfl rfl rfl (by decide) (by decide) (fun b21 => ?_); refine o_callPr [_, _] rfl rfl rfl rfl Tryz.call20 (fun w1 h1 h2 h3 => addK [[32], opTxt o, [32]] _ _ pb _ _ _ _ _ w1 h2 (RdS.row .z w1 h1) (fun a ha => by cases ha; exact pr_apart h1 (fun x hx => (List.mem_cons_of_mem _ hx)) rfl) (by simp only [List.length_append, List.length_cons, List.length_nil, List.flatten_cons, List.flatten_nil] at hb ⊢; omega) (by simp)) (fun A22 c22 => ?_); refine triL_nilN ?_; refine tri_slots [(0, _), (2, _), (4, _)] (.cons rfl (.cons rfl (.cons rfl (.nil _)))) ?_; refine tri_region ?_; refine o_move rfl rfl ?_; refine o_field fo30_5 rfl rfl ?_; refine o_load agg28 (by repeat (first | exact Nth.z | apply Nth.s)) rfl rfl rfl ?_; refine o_idxS Tryz.underlying28 sz30 rfl rfl rfl (hR _ _ rfl rfl) (by omega) (by omega) (by omega) (by decide) ?_; refine o_loadRA agg30 sz30 rfl rfl (hR _ _ rfl rfl) (vs := cs1) hc1 hk1.len (by decide) ?_; refine o_move rfl rfl ?_; refine o_addN rfl rfl rfl (by omega) ?_; refine o_callPr [_, _] rfl rfl rfl rfl Tryz.call26 (fun w1 h1 h2 h3 => ih 1 (by omega) (lvl o + 1) bl _ pb _ _ _ _ _ w1 h2 (hV.sub (PSub.of h1 h3)) (hk1.psub hV.pe (PSub.of h1 h3)) (by omega) (by omega) (by simp only [List.length_append, List.length_cons, List.length_nil, List.flatten_cons, List.flatten_nil] at hb ⊢; omega)) (fun A30 c30 => ?_); refine triL_nil ?_; refine end0n rfl ?_
  exact fin_turn (J := Option Addr × Nat) (A30, c30) rfl trivial (fun w2 hw2 => prD_eq (by simp) (by omega) (by omega) (hw2.sel [2, 3] (by decide)))
set_option maxHeartbeats 1000000 in
theorem coreK_ (o cc : Int) (v : Val) (t n : List UInt8) (al : List Ex) (Ax : Option Addr) (kx : Nat) (xs : List Value) (low : Int) (bl : List Nat) (pb : Nat) (A : Option Addr) (c : Nat) (l : List UInt8) (d m : Int) (w : World) (hP : PrAt w pb A c l d m) (hV : PV w (prL pb A) bl) (hkx : al.length ≤ kx) (hxr : Rd w Ax xs) (hxb : ∀ a, Ax = some a → al ≠ [] → a.block ∈ bl) (hxs : ExsK bl w al xs) (hdm : 0 ≤ d ∧ d ≤ m) (hd : d + ((Ex.txt (.mk o v t n cc al) low).2 : Int) ≤ 140737488355328) (hb : l.length + (Ex.txt (.mk o v t n cc al) low).1.length ≤ 70368744177664) (hlow : ¬ lvl o < low) (hof : o = 1 → fit v) (har : 4 ≤ o → o ≤ 7 → al.length = 1) (har2 : 8 ≤ o → al.length = 2) (hor : 1 ≤ o ∧ o ≤ 21 ∧ o ≠ 3) (ih : ∀ i, i < al.length → PX (al.getD i Ex.zero)) : Calls Tryz.prog 26 #[.pointer (some ⟨pb, 0, none⟩), .agg ([.int .i64 o, .int .i64 v.k, .int .i64 v.n, .string (B v.s), .string (B t), .string (B n), .int .i64 cc, .slice Ax al.length kx] : List Value).toArray, .int .i64 low] w (PrT w pb A (l ++ (Ex.txt (.mk o v t n cc al) low).1) (d) (max m (d + ((Ex.txt (.mk o v t n cc al) low).2 : Int)))) := by
  refine calls_tri (args := [.pointer (some ⟨pb, 0, none⟩), .agg ([.int .i64 o, .int .i64 v.k, .int .i64 v.n, .string (B v.s), .string (B t), .string (B n), .int .i64 cc, .slice Ax al.length kx] : List Value).toArray, .int .i64 low]) (lent := prL pb A) (H := prD pb A c l d m) Tryz.func26 rfl Tryz.ntmps26 rfl (Sat.cx hP) ?_; refine (show Tri _ [(0, _), (1, _), (2, _)] _ _ _ from ?_)
  have hl8 := lvl_le o
  have hR := hV.pe.rd hxr (fun a ha hx => hxb a ha (hxs.nil hx))
  have hxl := (ExsK.c _ _ hxs).len
  refine tri_seq (tri_region ?_); refine o_box _ rfl rfl rfl (fun b4 => ?_); refine triL_nilN ?_; refine tri_seq (tri_region ?_); refine o_field fo30_0 rfl rfl ?_; refine o_load agg3 (by repeat (first | exact Nth.z | apply Nth.s)) rfl rfl rfl ?_; refine o_callP (first := []) (cap := []) rfl rfl rfl Tryz.call56 (fun w1 h1 => levelK o w1) ?_; refine o_assignN rfl rfl ?_; refine tri_seq ?_; refine tri_seq ?_; refine tri_slots [(6, _), (4, _), (0, _), (2, _)] (.cons rfl (.cons rfl (.cons rfl (.cons rfl (.nil _))))) ?_; refine tri_region ?_; refine o_move rfl rfl ?_; refine o_move rfl rfl ?_; refine o_lss rfl rfl rfl ?_; refine triL_nilN ?_; refine tri_if rfl (fun q0 => ?_) (fun q0 => ?_)
  · skip
    exact absurd q0 hlow
  · skip
    refine tri_skip ?_; refine thenQ_normal ?_; refine tri_seq ?_; refine tri_slots [(6, _), (4, _), (0, _)] (.cons rfl (.cons rfl (.cons rfl (.nil _)))) ?_; refine tri_region ?_; refine o_field fo30_0 rfl rfl ?_; refine o_load agg3 (by repeat (first | exact Nth.z | apply Nth.s)) rfl rfl rfl ?_; refine triL_nilN ?_; refine tri_block ?_; refine tri_seq (tri_region ?_); refine o_eqlI rfl rfl rfl ?_; refine o_assignN rfl rfl ?_; refine tri_if rfl (fun q1 => ?_) (fun q1 => ?_)
    · skip
      rw [txt_low hlow, core_1 q1] at hd hb ⊢
      simp only at hd hb ⊢
      refine tri_seq ?_; refine tri_slots [(4, _), (0, _)] (.cons rfl (.cons rfl (.nil _))) ?_; refine tri_region ?_; refine o_field fo30_1 rfl rfl ?_; refine o_loadA agg27 sz27 .z rfl rfl (vs := Val.cs v) rfl rfl ?_; refine o_callP (first := []) (cap := []) rfl rfl rfl Tryz.call58 (fun w1 h1 => printK v w1 (hof q1) (hV.lv.chgL h1.chg (fun k hk => (hV.pe.g k hk).2))) ?_; refine o_move rfl rfl ?_; refine o_extract rfl rfl rfl ?_; refine o_extract rfl rfl rfl ?_; refine o_assign rfl rfl ?_; refine o_assignN rfl rfl ?_; refine tri_slots [(7, _), (0, _)] (.cons rfl (.cons rfl (.nil _))) ?_; refine tri_region ?_; refine o_move rfl rfl ?_; refine o_move rfl rfl ?_; refine o_lit1 Tryz.underlying23 zs9 rfl rfl rfl rfl rfl (by decide) (by decide) (fun b44 => ?_); refine o_callPr [_, _] rfl rfl rfl rfl Tryz.call20 (fun w1 h1 h2 h3 => addK [(prV v).1] _ _ pb _ _ _ _ _ w1 h2 (RdS.row .z w1 h1) (fun a ha => by cases ha; exact pr_apart h1 (fun x hx => (List.mem_cons_of_mem _ hx)) rfl) (by simp only [List.length_append, List.length_nil, List.flatten_cons, List.flatten_nil] at hb ⊢; omega) (by simp)) (fun A45 c45 => ?_); refine triL_nil ?_; refine blockQ_normal ?_; refine end0n rfl ?_
      exact fin_turn (J := Option Addr × Nat) (A45, c45) rfl trivial (fun w2 hw2 => prD_eq (by simp) (by omega) (by omega) (hw2.sel [2, 3] (by decide)))
    · skip
      refine tri_seq (tri_region ?_); refine o_eqlI rfl rfl rfl ?_; refine o_assignN rfl rfl ?_; refine tri_if rfl (fun q2 => ?_) (fun q2 => ?_)
      · skip
        rw [txt_low hlow, core_2 q2] at hd hb ⊢
        simp only at hd hb ⊢
        refine tri_seq ?_; refine tri_seq ?_; refine tri_slots [(4, _), (0, _)] (.cons rfl (.cons rfl (.nil _))) ?_; refine tri_region ?_; refine o_field fo30_2 rfl rfl ?_; refine o_load agg9 (by repeat (first | exact Nth.z | apply Nth.s)) rfl rfl rfl ?_; refine o_neqT rfl rfl rfl ?_; refine triL_nilN ?_; refine tri_cond rfl (fun q3 => ?_) (fun q3 => ?_)
        · skip
          have q3 := of_decide_eq_true q3
          rw [if_neg q3] at hb ⊢
          refine tri_region ?_; refine o_move rfl rfl ?_; refine o_field fo30_2 rfl rfl ?_; refine o_load agg9 (by repeat (first | exact Nth.z | apply Nth.s)) rfl rfl rfl ?_; refine o_lit (parts := [_, _]) (strsV [t, [46]]) Tryz.underlying23 zs9 rfl rfl rfl rfl (by decide) (by decide) (fun b54 => ?_); refine o_callPr [_, _] rfl rfl rfl rfl Tryz.call20 (fun w1 h1 h2 h3 => addK [t, [46]] _ _ pb _ _ _ _ _ w1 h2 (RdS.row .z w1 h1) (fun a ha => by cases ha; exact pr_apart h1 (fun x hx => (List.mem_cons_of_mem _ hx)) rfl) (by simp only [List.length_append, List.length_cons, List.length_nil, List.flatten_cons, List.flatten_nil] at hb ⊢; omega) (by simp)) (fun A55 c55 => ?_); refine triL_nilN ?_; refine tri_slots [(4, _), (0, _)] (.cons rfl (.cons rfl (.nil _))) ?_; refine tri_region ?_; refine o_move rfl rfl ?_; refine o_field fo30_3 rfl rfl ?_; refine o_load agg9 (by repeat (first | exact Nth.z | apply Nth.s)) rfl rfl rfl ?_; refine o_lit1 Tryz.underlying23 zs9 rfl rfl rfl rfl rfl (by decide) (by decide) (fun b59 => ?_); refine o_callPr [_, _, _] rfl rfl rfl rfl Tryz.call20 (fun w1 h1 h2 h3 => addK [n] _ _ pb _ _ _ _ _ w1 h2 (RdS.row .z w1 h1) (fun a ha => by cases ha; exact pr_apart h1 (fun x hx => (List.mem_cons_of_mem _ (List.mem_cons_of_mem _ hx))) rfl) (by simp only [List.length_append, List.length_cons, List.length_nil, List.flatten_cons, List.flatten_nil] at hb ⊢; omega) (by simp)) (fun A60 c60 => ?_); refine triL_nil ?_; refine blockQ_normal ?_; refine end0n rfl ?_
          exact fin_turn (J := Option Addr × Nat) (A60, c60) rfl trivial (fun w2 hw2 => prD_eq (by simp) (by omega) (by omega) (hw2.sel [3, 4] (by decide)))
        · skip
          have q3 := Decidable.not_not.1 (of_decide_eq_false q3)
          rw [if_pos q3] at hb ⊢
          refine tri_skip ?_; refine thenQ_normal ?_; refine tri_region ?_; refine o_move rfl rfl ?_; refine o_field fo30_3 rfl rfl ?_; refine o_load agg9 (by repeat (first | exact Nth.z | apply Nth.s)) rfl rfl rfl ?_; refine o_lit1 Tryz.underlying23 zs9 rfl rfl rfl rfl rfl (by decide) (by decide) (fun b59 => ?_); refine o_callPr [_, _] rfl rfl rfl rfl Tryz.call20 (fun w1 h1 h2 h3 => addK [n] _ _ pb _ _ _ _ _ w1 h2 (RdS.row .z w1 h1) (fun a ha => by cases ha; exact pr_apart h1 (fun x hx => (List.mem_cons_of_mem _ hx)) rfl) (by simp only [List.length_append, List.length_nil, List.flatten_cons, List.flatten_nil] at hb ⊢; omega) (by simp)) (fun A60 c60 => ?_); refine triL_nil ?_; refine blockQ_normal ?_; refine end0n rfl ?_
          exact fin_turn (J := Option Addr × Nat) (A60, c60) rfl trivial (fun w2 hw2 => prD_eq (by simp) (by omega) (by omega) (hw2.sel [2, 3] (by decide)))
      · skip
        refine tri_seq ?_; refine tri_slots [(29, _), (6, _), (4, _), (0, _)] (.cons rfl (.cons rfl (.cons rfl (.cons rfl (.nil _))))) ?_; refine tri_region ?_; refine o_eqlI rfl rfl rfl ?_; refine o_assignN rfl rfl ?_; refine tri_if rfl (fun q4 => ?_) (fun q4 => ?_)
        · skip
          have hal : al.length = 1 := har (by omega) (by omega)
          obtain ⟨cs0, hc0, hk0⟩ := ExsK.at 0 hxs (by omega)
          rw [txt_low hlow, core_5 q4 (by omega)] at hd hb ⊢
          simp only at hd hb ⊢
          refine tri_seq ?_; refine tri_slots [(4, _), (0, _)] (.cons rfl (.cons rfl (.nil _))) ?_; refine tri_region ?_; refine o_move rfl rfl ?_; refine o_callPr [_] rfl rfl rfl rfl Tryz.call57 (fun w1 h1 h2 h3 => openK (1) pb _ _ _ _ _ w1 h2 (by omega) (by omega)) (fun A64 c64 => ?_); refine triL_nilN ?_; refine tri_seq (tri_region ?_); refine o_move rfl rfl ?_; refine o_lit1 Tryz.underlying23 zs9 rfl rfl rfl rfl rfl (by decide) (by decide) (fun b66 => ?_); refine o_callPr [_, _] rfl rfl rfl rfl Tryz.call20 (fun w1 h1 h2 h3 => addK [[110, 111, 116, 32]] _ _ pb _ _ _ _ _ w1 h2 (RdS.row .z w1 h1) (fun a ha => by cases ha; exact pr_apart h1 (fun x hx => (List.mem_cons_of_mem _ hx)) rfl) (by simp only [List.length_append, List.length_cons, List.length_nil, List.flatten_cons, List.flatten_nil] at hb ⊢; omega) (by simp)) (fun A67 c67 => ?_); refine triL_nilN ?_; refine tri_seq ?_; refine tri_slots [(4, _), (0, _)] (.cons rfl (.cons rfl (.nil _))) ?_; refine tri_region ?_; refine o_move rfl rfl ?_; refine o_field fo30_5 rfl rfl ?_; refine o_load agg28 (by repeat (first | exact Nth.z | apply Nth.s)) rfl rfl rfl ?_; refine o_idxS Tryz.underlying28 sz30 rfl rfl rfl (hR _ _ rfl rfl) (by omega) (by omega) (by omega) (by decide) ?_; refine o_loadRA agg30 sz30 rfl rfl (hR _ _ rfl rfl) (vs := cs0) hc0 hk0.len (by decide) ?_; refine o_callPr [_, _] rfl rfl rfl rfl Tryz.call26 (fun w1 h1 h2 h3 => ih 0 (by omega) 3 bl _ pb _ _ _ _ _ w1 h2 (hV.sub (PSub.of h1 h3)) (hk0.psub hV.pe (PSub.of h1 h3)) (by omega) (by omega) (by simp only [List.length_append, List.length_cons, List.length_nil, List.flatten_cons, List.flatten_nil] at hb ⊢; omega)) (fun A73 c73 => ?_); refine triL_nilN ?_; refine tri_slots [(0, _)] (.cons rfl (.nil _)) ?_; refine tri_region ?_; refine o_move rfl rfl ?_; refine o_callPr [_, _] rfl rfl rfl rfl Tryz.call57 (fun w1 h1 h2 h3 => openK (-1) pb _ _ _ _ _ w1 h2 (by omega) (by omega)) (fun A75 c75 => ?_); refine triL_nil ?_; refine blockQ_normal ?_; refine end0n rfl ?_
          exact fin_turn (J := Option Addr × Nat) (A75, c75) rfl trivial (fun w2 hw2 => prD_eq (by simp) (by omega) (by omega) (hw2.sel [2, 3] (by decide)))
        · skip
          refine tri_seq (tri_region ?_); refine o_eqlI rfl rfl rfl ?_; refine o_assignN rfl rfl ?_; refine tri_if rfl (fun q5 => ?_) (fun q5 => ?_)
          · skip
            have hal : al.length = 1 := har (by omega) (by omega)
            obtain ⟨cs0, hc0, hk0⟩ := ExsK.at 0 hxs (by omega)
            rw [txt_low hlow, core_4 q5 (by omega)] at hd hb ⊢
            simp only at hd hb ⊢
            refine tri_seq ?_; refine tri_slots [(4, _), (0, _)] (.cons rfl (.cons rfl (.nil _))) ?_; refine tri_region ?_; refine o_move rfl rfl ?_; refine o_callPr [_] rfl rfl rfl rfl Tryz.call57 (fun w1 h1 h2 h3 => openK (1) pb _ _ _ _ _ w1 h2 (by omega) (by omega)) (fun A79 c79 => ?_); refine triL_nilN ?_; refine tri_seq (tri_region ?_); refine o_move rfl rfl ?_; refine o_lit1 Tryz.underlying23 zs9 rfl rfl rfl rfl rfl (by decide) (by decide) (fun b81 => ?_); refine o_callPr [_, _] rfl rfl rfl rfl Tryz.call20 (fun w1 h1 h2 h3 => addK [[45]] _ _ pb _ _ _ _ _ w1 h2 (RdS.row .z w1 h1) (fun a ha => by cases ha; exact pr_apart h1 (fun x hx => (List.mem_cons_of_mem _ hx)) rfl) (by simp only [List.length_append, List.length_cons, List.length_nil, List.flatten_cons, List.flatten_nil] at hb ⊢; omega) (by simp)) (fun A82 c82 => ?_); refine triL_nilN ?_; refine tri_seq ?_; refine tri_seq ?_; refine tri_slots [(4, _), (0, _)] (.cons rfl (.cons rfl (.nil _))) ?_; refine tri_region ?_; refine o_field fo30_5 rfl rfl ?_; refine o_load agg28 (by repeat (first | exact Nth.z | apply Nth.s)) rfl rfl rfl ?_; refine o_idxS Tryz.underlying28 sz30 rfl rfl rfl (hR _ _ rfl rfl) (by omega) (by omega) (by omega) (by decide) ?_; refine o_fieldAt fo30_0 rfl rfl (hR _ _ rfl rfl) (getD_drop_take hc0 hk0.op) ?_; refine o_loadR agg3 rfl rfl (hR _ _ rfl rfl) (getD_drop_take hc0 hk0.op) ?_; refine o_eqlI rfl rfl rfl ?_; refine triL_nilN ?_; refine tri_if rfl (fun q6 => ?_) (fun q6 => ?_)
            · skip
              rw [if_pos q6] at hb ⊢
              refine tri_slots [(4, _), (0, _)] (.cons rfl (.cons rfl (.nil _))) ?_; refine tri_region ?_; refine o_move rfl rfl ?_; refine o_lit1 Tryz.underlying23 zs9 rfl rfl rfl rfl rfl (by decide) (by decide) (fun b90 => ?_); refine o_callPr [_, _, _] rfl rfl rfl rfl Tryz.call20 (fun w1 h1 h2 h3 => addK [[32]] _ _ pb _ _ _ _ _ w1 h2 (RdS.row .z w1 h1) (fun a ha => by cases ha; exact pr_apart h1 (fun x hx => (List.mem_cons_of_mem _ (List.mem_cons_of_mem _ hx))) rfl) (by simp only [List.length_append, List.length_cons, List.length_nil, List.flatten_cons, List.flatten_nil] at hb ⊢; omega) (by simp)) (fun A91 c91 => ?_); refine triL_nilN ?_; refine tri_seq (tri_region ?_); refine o_move rfl rfl ?_; refine o_field fo30_5 rfl rfl ?_; refine o_load agg28 (by repeat (first | exact Nth.z | apply Nth.s)) rfl rfl rfl ?_; refine o_idxS Tryz.underlying28 sz30 rfl rfl rfl (hR _ _ rfl rfl) (by omega) (by omega) (by omega) (by decide) ?_; refine o_loadRA agg30 sz30 rfl rfl (hR _ _ rfl rfl) (vs := cs0) hc0 hk0.len (by decide) ?_; refine o_callPr [_, _, _] rfl rfl rfl rfl Tryz.call26 (fun w1 h1 h2 h3 => ih 0 (by omega) 7 bl _ pb _ _ _ _ _ w1 h2 (hV.sub (PSub.of h1 h3)) (hk0.psub hV.pe (PSub.of h1 h3)) (by omega) (by omega) (by simp only [List.length_append, List.length_cons, List.length_nil, List.flatten_cons, List.flatten_nil] at hb ⊢; omega)) (fun A97 c97 => ?_); refine triL_nilN ?_; refine tri_slots [(0, _)] (.cons rfl (.nil _)) ?_; refine tri_region ?_; refine o_move rfl rfl ?_; refine o_callPr [_, _, _] rfl rfl rfl rfl Tryz.call57 (fun w1 h1 h2 h3 => openK (-1) pb _ _ _ _ _ w1 h2 (by omega) (by omega)) (fun A99 c99 => ?_); refine triL_nil ?_; refine blockQ_normal ?_; refine end0n rfl ?_
              exact fin_turn (J := Option Addr × Nat) (A99, c99) rfl trivial (fun w2 hw2 => prD_eq (by simp) (by omega) (by omega) (hw2.sel [3, 4] (by decide)))
            · skip
              rw [if_neg q6] at hb ⊢
              refine tri_skip ?_; refine thenQ_normal ?_; refine tri_seq ?_; refine tri_slots [(4, _), (0, _)] (.cons rfl (.cons rfl (.nil _))) ?_; refine tri_region ?_; refine o_move rfl rfl ?_; refine o_field fo30_5 rfl rfl ?_; refine o_load agg28 (by repeat (first | exact Nth.z | apply Nth.s)) rfl rfl rfl ?_; refine o_idxS Tryz.underlying28 sz30 rfl rfl rfl (hR _ _ rfl rfl) (by omega) (by omega) (by omega) (by decide) ?_; refine o_loadRA agg30 sz30 rfl rfl (hR _ _ rfl rfl) (vs := cs0) hc0 hk0.len (by decide) ?_; refine o_callPr [_, _] rfl rfl rfl rfl Tryz.call26 (fun w1 h1 h2 h3 => ih 0 (by omega) 7 bl _ pb _ _ _ _ _ w1 h2 (hV.sub (PSub.of h1 h3)) (hk0.psub hV.pe (PSub.of h1 h3)) (by omega) (by omega) (by simp only [List.length_append, List.length_cons, List.length_nil, List.flatten_cons, List.flatten_nil] at hb ⊢; omega)) (fun A97 c97 => ?_); refine triL_nilN ?_; refine tri_slots [(0, _)] (.cons rfl (.nil _)) ?_; refine tri_region ?_; refine o_move rfl rfl ?_; refine o_callPr [_, _] rfl rfl rfl rfl Tryz.call57 (fun w1 h1 h2 h3 => openK (-1) pb _ _ _ _ _ w1 h2 (by omega) (by omega)) (fun A99 c99 => ?_); refine triL_nil ?_; refine blockQ_normal ?_; refine end0n rfl ?_
              exact fin_turn (J := Option Addr × Nat) (A99, c99) rfl trivial (fun w2 hw2 => prD_eq (by simp) (by omega) (by omega) (hw2.sel [2, 3] (by decide)))
          · skip
            refine tri_seq ?_; refine tri_seq ?_; refine tri_slots [(29, _), (6, _), (4, _), (0, _)] (.cons rfl (.cons rfl (.cons rfl (.cons rfl (.nil _))))) ?_; refine tri_region ?_; refine o_eqlI rfl rfl rfl ?_; refine o_assignN rfl rfl ?_; refine tri_if rfl (fun q7 => ?_) (fun q7 => ?_)
            · skip
              have hal : al.length = 1 := har (by omega) (by omega)
              obtain ⟨cs0, hc0, hk0⟩ := ExsK.at 0 hxs (by omega)
              rw [txt_low hlow, core_6 q7 (by omega)] at hd hb ⊢
              simp only at hd hb ⊢
              refine tri_skip ?_; refine thenQ_normal ?_; refine tri_if rfl (fun q8 => ?_) (fun q8 => ?_)
              · skip
                skip
                refine tri_seq ?_; refine tri_slots [(4, _), (0, _)] (.cons rfl (.cons rfl (.nil _))) ?_; refine tri_region ?_; refine o_move rfl rfl ?_; refine o_field fo30_5 rfl rfl ?_; refine o_load agg28 (by repeat (first | exact Nth.z | apply Nth.s)) rfl rfl rfl ?_; refine o_idxS Tryz.underlying28 sz30 rfl rfl rfl (hR _ _ rfl rfl) (by omega) (by omega) (by omega) (by decide) ?_; refine o_loadRA agg30 sz30 rfl rfl (hR _ _ rfl rfl) (vs := cs0) hc0 hk0.len (by decide) ?_; refine o_callPr [_] rfl rfl rfl rfl Tryz.call26 (fun w1 h1 h2 h3 => ih 0 (by omega) 5 bl _ pb _ _ _ _ _ w1 h2 (hV.sub (PSub.of h1 h3)) (hk0.psub hV.pe (PSub.of h1 h3)) (by omega) (by omega) (by simp only [List.length_append, List.length_cons, List.length_nil] at hb ⊢; omega)) (fun A108 c108 => ?_); refine triL_nilN ?_; refine tri_seq ?_; refine tri_slots [(4, _), (0, _)] (.cons rfl (.cons rfl (.nil _))) ?_; refine tri_region ?_; refine o_field fo30_0 rfl rfl ?_; refine o_load agg3 (by repeat (first | exact Nth.z | apply Nth.s)) rfl rfl rfl ?_; refine o_eqlI rfl rfl rfl ?_; refine triL_nilN ?_; refine tri_if rfl (fun q9 => ?_) (fun q9 => ?_)
                · skip
                  exact absurd q9 (by omega)
                · skip
                  refine tri_slots [(0, _)] (.cons rfl (.nil _)) ?_; refine tri_region ?_; refine o_move rfl rfl ?_; refine o_lit1 Tryz.underlying23 zs9 rfl rfl rfl rfl rfl (by decide) (by decide) (fun b116 => ?_); refine o_callPr [_, _] rfl rfl rfl rfl Tryz.call20 (fun w1 h1 h2 h3 => addK [[32, 105, 115, 32, 110, 117, 108, 108]] _ _ pb _ _ _ _ _ w1 h2 (RdS.row .z w1 h1) (fun a ha => by cases ha; exact pr_apart h1 (fun x hx => (List.mem_cons_of_mem _ hx)) rfl) (by simp only [List.length_append, List.length_cons, List.length_nil, List.flatten_cons, List.flatten_nil] at hb ⊢; omega) (by simp)) (fun A117 c117 => ?_); refine triL_nil ?_; refine blockQ_normal ?_; refine end0n rfl ?_
                  exact fin_turn (J := Option Addr × Nat) (A117, c117) rfl trivial (fun w2 hw2 => prD_eq (by simp) (by omega) (by omega) (hw2.sel [2, 3] (by decide)))
              · skip
                exact absurd q7 (by omega)
            · skip
              refine tri_region ?_; refine o_eqlI rfl rfl rfl ?_; refine o_assignN rfl rfl ?_; refine tri_if rfl (fun q8 => ?_) (fun q8 => ?_)
              · skip
                have hal : al.length = 1 := har (by omega) (by omega)
                obtain ⟨cs0, hc0, hk0⟩ := ExsK.at 0 hxs (by omega)
                rw [txt_low hlow, core_7 q8 (by omega)] at hd hb ⊢
                simp only at hd hb ⊢
                refine tri_seq ?_; refine tri_slots [(4, _), (0, _)] (.cons rfl (.cons rfl (.nil _))) ?_; refine tri_region ?_; refine o_move rfl rfl ?_; refine o_field fo30_5 rfl rfl ?_; refine o_load agg28 (by repeat (first | exact Nth.z | apply Nth.s)) rfl rfl rfl ?_; refine o_idxS Tryz.underlying28 sz30 rfl rfl rfl (hR _ _ rfl rfl) (by omega) (by omega) (by omega) (by decide) ?_; refine o_loadRA agg30 sz30 rfl rfl (hR _ _ rfl rfl) (vs := cs0) hc0 hk0.len (by decide) ?_; refine o_callPr [_] rfl rfl rfl rfl Tryz.call26 (fun w1 h1 h2 h3 => ih 0 (by omega) 5 bl _ pb _ _ _ _ _ w1 h2 (hV.sub (PSub.of h1 h3)) (hk0.psub hV.pe (PSub.of h1 h3)) (by omega) (by omega) (by simp only [List.length_append, List.length_cons, List.length_nil] at hb ⊢; omega)) (fun A108 c108 => ?_); refine triL_nilN ?_; refine tri_seq ?_; refine tri_slots [(4, _), (0, _)] (.cons rfl (.cons rfl (.nil _))) ?_; refine tri_region ?_; refine o_field fo30_0 rfl rfl ?_; refine o_load agg3 (by repeat (first | exact Nth.z | apply Nth.s)) rfl rfl rfl ?_; refine o_eqlI rfl rfl rfl ?_; refine triL_nilN ?_; refine tri_if rfl (fun q9 => ?_) (fun q9 => ?_)
                · skip
                  refine tri_slots [(0, _)] (.cons rfl (.nil _)) ?_; refine tri_region ?_; refine o_move rfl rfl ?_; refine o_lit1 Tryz.underlying23 zs9 rfl rfl rfl rfl rfl (by decide) (by decide) (fun b113 => ?_); refine o_callPr [_, _] rfl rfl rfl rfl Tryz.call20 (fun w1 h1 h2 h3 => addK [[32, 105, 115, 32, 110, 111, 116, 32, 110, 117, 108, 108]] _ _ pb _ _ _ _ _ w1 h2 (RdS.row .z w1 h1) (fun a ha => by cases ha; exact pr_apart h1 (fun x hx => (List.mem_cons_of_mem _ hx)) rfl) (by simp only [List.length_append, List.length_cons, List.length_nil, List.flatten_cons, List.flatten_nil] at hb ⊢; omega) (by simp)) (fun A114 c114 => ?_); refine triL_nil ?_; refine blockQ_normal ?_; refine end0n rfl ?_
                  exact fin_turn (J := Option Addr × Nat) (A114, c114) rfl trivial (fun w2 hw2 => prD_eq (by simp) (by omega) (by omega) (hw2.sel [2, 3] (by decide)))
                · skip
                  exact absurd q8 (by omega)
              · skip
                refine tri_slots [(6, _), (4, _), (0, _)] (.cons rfl (.cons rfl (.cons rfl (.nil _)))) ?_; refine tri_region ?_; refine o_move rfl rfl ?_; refine o_loadA agg30 sz30 .z rfl rfl (vs := ([.int .i64 o, .int .i64 v.k, .int .i64 v.n, .string (B v.s), .string (B t), .string (B n), .int .i64 cc, .slice Ax al.length kx] : List Value)) rfl rfl ?_; refine o_move rfl rfl ?_; refine o_callPr [_] rfl rfl rfl rfl Tryz.call59 (fun w1 h1 h2 h3 => binK o cc v t n al Ax kx xs low bl pb _ _ _ _ _ w1 h2 (hV.sub (PSub.of h1 h3)) hkx (hR _ _ rfl rfl w1 h1) hxb (ExsK.stab (hV.pe.st (PSub.of h1 h3)) _ _ hxs) hdm hd hb (by omega) (har2 (by omega)) hlow ih) (fun A33 c33 => ?_); refine triL_nil ?_; refine blockQ_normal ?_; refine end0n rfl ?_
                exact fin_turn (J := Option Addr × Nat) (A33, c33) rfl trivial (fun w2 hw2 => prD_eq (by simp) (by omega) (by omega) (hw2.sel [1, 2] (by decide)))
end Go.Proofs.YtjbpkcbefmpfgaaGreatDoor
namespace Go.Proofs.YtjbpkcbefmpfgaaGreatDoor
open Go.WK Go.RowKit 
theorem fo30_4 : fieldB Tryz.prog 30 4 = some 6 := by kernel_rfl
theorem zero27 : (Tryz.prog.info? 27).map (·.zero) = some (some (.agg #[.int .i64 0, .int .i64 0, .string .empty])) := by kernel_rfl
theorem wrapK_ (o cc : Int) (v : Val) (t n : List UInt8) (al : List Ex) (Ax : Option Addr) (kx : Nat) (_ : List Value) (low : Int) (bl : List Nat) (pb : Nat) (A : Option Addr) (c : Nat) (l : List UInt8) (d m : Int) (w : World) (hP : PrAt w pb A c l d m) (hV : PV w (prL pb A) bl) (hK : ExK bl w (.mk o v t n cc al) ([.int .i64 o, .int .i64 v.k, .int .i64 v.n, .string (B v.s), .string (B t), .string (B n), .int .i64 cc, .slice Ax al.length kx] : List Value)) (hdm : 0 ≤ d ∧ d ≤ m) (hd : d + ((Ex.txt (.mk o v t n cc al) low).2 : Int) ≤ 140737488355328) (hb : l.length + (Ex.txt (.mk o v t n cc al) low).1.length ≤ 70368744177664) (hlow : lvl o < low) (ih : ∀ (cs : List Value) (pb : Nat) (A : Option Addr) (c : Nat) (l : List UInt8) (d m : Int) (w : World), PrAt w pb A c l d m → PV w (prL pb A) bl → ExK bl w (.mk o v t n cc al) cs → 0 ≤ d ∧ d ≤ m → d + ((Ex.txt (.mk o v t n cc al) 1).2 : Int) ≤ 140737488355328 → l.length + (Ex.txt (.mk o v t n cc al) 1).1.length ≤ 70368744177664 → Calls Tryz.prog 26 #[.pointer (some ⟨pb, 0, none⟩), .agg cs.toArray, .int .i64 1] w (PrT w pb A (l ++ (Ex.txt (.mk o v t n cc al) 1).1) d (max m (d + ((Ex.txt (.mk o v t n cc al) 1).2 : Int))))) : Calls Tryz.prog 26 #[.pointer (some ⟨pb, 0, none⟩), .agg ([.int .i64 o, .int .i64 v.k, .int .i64 v.n, .string (B v.s), .string (B t), .string (B n), .int .i64 cc, .slice Ax al.length kx] : List Value).toArray, .int .i64 low] w (PrT w pb A (l ++ (Ex.txt (.mk o v t n cc al) low).1) (d) (max m (d + ((Ex.txt (.mk o v t n cc al) low).2 : Int)))) := by
  refine calls_tri (args := [.pointer (some ⟨pb, 0, none⟩), .agg ([.int .i64 o, .int .i64 v.k, .int .i64 v.n, .string (B v.s), .string (B t), .string (B n), .int .i64 cc, .slice Ax al.length kx] : List Value).toArray, .int .i64 low]) (lent := prL pb A) (H := prD pb A c l d m) Tryz.func26 rfl Tryz.ntmps26 rfl (Sat.cx hP) ?_; refine (show Tri _ [(0, _), (1, _), (2, _)] _ _ _ from ?_)
  have hl8 := lvl_le o
  have e1 : Ex.txt (.mk o v t n cc al) 1 = Ex.core (.mk o v t n cc al) := txt_low (by show ¬ lvl o < 1; omega)
  rw [txt_wrap hlow, ← e1] at hd hb ⊢
  simp only at hd hb ⊢
  refine tri_seq (tri_region ?_); refine o_box _ rfl rfl rfl (fun b4 => ?_); refine triL_nilN ?_; refine tri_seq (tri_region ?_); refine o_field fo30_0 rfl rfl ?_; refine o_load agg3 (by repeat (first | exact Nth.z | apply Nth.s)) rfl rfl rfl ?_; refine o_callP (first := []) (cap := []) rfl rfl rfl Tryz.call56 (fun w1 h1 => levelK o w1) ?_; refine o_assignN rfl rfl ?_; refine tri_seq ?_; refine tri_seq ?_; refine tri_slots [(6, _), (4, _), (0, _), (2, _)] (.cons rfl (.cons rfl (.cons rfl (.cons rfl (.nil _))))) ?_; refine tri_region ?_; refine o_move rfl rfl ?_; refine o_move rfl rfl ?_; refine o_lss rfl rfl rfl ?_; refine triL_nilN ?_; refine tri_if rfl (fun q0 => ?_) (fun q0 => ?_)
  · skip
    refine tri_seq ?_; refine tri_slots [(4, _), (0, _)] (.cons rfl (.cons rfl (.nil _))) ?_; refine tri_region ?_; refine o_move rfl rfl ?_; refine o_callPr [_] rfl rfl rfl rfl Tryz.call57 (fun w1 h1 h2 h3 => openK (1) pb _ _ _ _ _ w1 h2 (by omega) (by omega)) (fun A16 c16 => ?_); refine triL_nilN ?_; refine tri_seq (tri_region ?_); refine o_move rfl rfl ?_; refine o_lit1 Tryz.underlying23 zs9 rfl rfl rfl rfl rfl (by decide) (by decide) (fun b18 => ?_); refine o_callPr [_, _] rfl rfl rfl rfl Tryz.call20 (fun w1 h1 h2 h3 => addK [[40]] _ _ pb _ _ _ _ _ w1 h2 (RdS.row .z w1 h1) (fun a ha => by cases ha; exact pr_apart h1 (fun x hx => (List.mem_cons_of_mem _ hx)) rfl) (by simp only [List.length_append, List.length_cons, List.length_nil, List.flatten_cons, List.flatten_nil] at hb ⊢; omega) (by simp)) (fun A19 c19 => ?_); refine triL_nilN ?_; refine tri_seq ?_; refine tri_slots [(4, _), (0, _)] (.cons rfl (.cons rfl (.nil _))) ?_; refine tri_region ?_; refine o_move rfl rfl ?_; refine o_loadA agg30 sz30 (.s .z) rfl rfl (vs := ([.int .i64 o, .int .i64 v.k, .int .i64 v.n, .string (B v.s), .string (B t), .string (B n), .int .i64 cc, .slice Ax al.length kx] : List Value)) rfl rfl ?_; refine o_callPr [_, _] rfl rfl rfl rfl Tryz.call26 (fun w1 h1 h2 h3 => ih _ pb _ _ _ _ _ w1 h2 (hV.sub (PSub.of h1 h3)) (hK.psub hV.pe (PSub.of h1 h3)) (by omega) (by omega) (by simp only [List.length_append, List.length_cons, List.length_nil, List.flatten_cons, List.flatten_nil] at hb ⊢; omega)) (fun A22 c22 => ?_); refine triL_nilN ?_; refine tri_seq ?_; refine tri_slots [(0, _)] (.cons rfl (.nil _)) ?_; refine tri_region ?_; refine o_move rfl rfl ?_; refine o_lit1 Tryz.underlying23 zs9 rfl rfl rfl rfl rfl (by decide) (by decide) (fun b24 => ?_); refine o_callPr [_, _, _] rfl rfl rfl rfl Tryz.call20 (fun w1 h1 h2 h3 => addK [[41]] _ _ pb _ _ _ _ _ w1 h2 (RdS.row .z w1 h1) (fun a ha => by cases ha; exact pr_apart h1 (fun x hx => (List.mem_cons_of_mem _ (List.mem_cons_of_mem _ hx))) rfl) (by simp only [List.length_append, List.length_cons, List.length_nil, List.flatten_cons, List.flatten_nil] at hb ⊢; omega) (by simp)) (fun A25 c25 => ?_); refine triL_nilN ?_; refine tri_seq (tri_region ?_); refine o_move rfl rfl ?_; refine o_callPr [_, _, _] rfl rfl rfl rfl Tryz.call57 (fun w1 h1 h2 h3 => openK (-1) pb _ _ _ _ _ w1 h2 (by omega) (by omega)) (fun A27 c27 => ?_); refine triL_nilN ?_; refine tri_ret ?_; refine thenQ_ret ?_; refine end0 rfl ?_
    exact fin_turn (J := Option Addr × Nat) (A27, c27) rfl trivial (fun w2 hw2 => prD_eq (by simp) (by omega) (by omega) (hw2.sel [3, 4] (by decide)))
  · skip
    exact absurd hlow q0
theorem exprK : ∀ (n : Nat) (e : Ex), e.size < n → e.may = true → e.ok → PX e := by
  intro n
  induction n with
  | zero => intro e h; omega
  | succ n ih =>
    intro e hs hm ho
    obtain ⟨o, v, t, nn, cc, al⟩ := e
    obtain ⟨m1, m2, m3, m4, m5⟩ := may_parts hm
    have ih2 : ∀ i, i < al.length → PX (al.getD i Ex.zero) := fun i hi => ih _ (by have := Ex.size_at (o := o) (c := cc) (v := v) (t := t) (n := nn) hi; omega) (m5 i hi) (Ex.ok_at ho hi)
    have hof : o = 1 → fit v := fun h => fit_of (m2 h) ho.2.1
    have core : ∀ low : Int, ¬ lvl o < low → ∀ (bl : List Nat) (cs : List Value) (pb : Nat) (A : Option Addr) (c : Nat) (l : List UInt8) (d m : Int) (w : World), PrAt w pb A c l d m → PV w (prL pb A) bl → ExK bl w (.mk o v t nn cc al) cs → 0 ≤ d ∧ d ≤ m → d + ((Ex.txt (.mk o v t nn cc al) low).2 : Int) ≤ 140737488355328 → l.length + (Ex.txt (.mk o v t nn cc al) low).1.length ≤ 70368744177664 →
        Calls Tryz.prog 26 #[.pointer (some ⟨pb, 0, none⟩), .agg cs.toArray, .int .i64 low] w (PrT w pb A (l ++ (Ex.txt (.mk o v t nn cc al) low).1) d (max m (d + ((Ex.txt (.mk o v t nn cc al) low).2 : Int)))) := by
      intro low hl bl cs pb A c l d m w h1 h2 h3 h4 h5 h6
      obtain ⟨Ax, kx, xs, rfl, a1, a2, a3, a4⟩ := h3
      exact coreK_ o cc v t nn al Ax kx xs low bl pb A c l d m w h1 h2 a1 a2 a3 a4 h4 h5 h6 hl hof m3 m4 m1 ih2
    intro low bl cs pb A c l d m w h1 h2 h3 h4 h5 h6
    by_cases hl : lvl o < low
    · have hk := h3
      obtain ⟨Ax, kx, xs, rfl, _⟩ := h3
      have hl8 := lvl_le o
      exact wrapK_ o cc v t nn al Ax kx xs low bl pb A c l d m w h1 h2 hk h4 h5 h6 hl (fun cs pb A c l d m w => core 1 (by omega) bl cs pb A c l d m w)
    · exact core low hl bl cs pb A c l d m w h1 h2 h3 h4 h5 h6
theorem namedR (s : List UInt8) (w : World) (hs : s.length ≤ 70368744177664) : Calls Tryz.prog 30 #[.string (B s)] w (Pure w (.bool (nameOk s))) := by
  refine calls_tri (args := [.string (B s)]) (lent := []) (H := []) Tryz.func30 rfl Tryz.ntmps30 rfl (Sat.start _ _ _ _) ?_; refine (show Tri _ [(0, _)] _ _ _ from ?_); refine tri_seq (tri_region ?_); refine o_assignN rfl rfl ?_; refine tri_seq (tri_region ?_); refine o_move rfl rfl ?_; refine o_callP (first := []) (cap := []) rfl rfl rfl Tryz.call68 (fun w1 h1 => nameRk s w1 (by omega)) ?_; refine o_move rfl rfl ?_
  refine' triL_and [_, _, _] [(2, _)] (dj := 5) (dr := 8) rfl rfl (fun g1 => ?_) ⟨_, rfl, rfl, rfl, (.cons rfl (.nil _))⟩ rfl ?_
  rotate_left
  · skip
    refine o_move rfl rfl ?_; refine o_callP (first := []) (cap := []) rfl rfl rfl Tryz.call69 (fun w1 h1 => wordK s w1) ?_; refine o_not rfl rfl ?_
    exact triL_nil (Piece.mk rfl rfl (.cons rfl (.nil _)) (fun _ h => h))
  refine o_assignN rfl rfl ?_; refine tri_ret ?_; refine end1 rfl rfl ?_
  exact fun w1 hw1 => ⟨congrArg (fun b => Ending.returned (.bool b)) (by unfold nameOk; rw [kept_wds]), hw1.chg⟩
theorem upToK (n k : Nat) (w : World)  : Calls Tryz.prog 31 #[.int .i64 (n : Int), .int .i64 (k : Int)] w (Pure w (.bool (upTo n k))) := by
  refine calls_tri (args := [.int .i64 (n : Int), .int .i64 (k : Int)]) (lent := []) (H := []) Tryz.func31 rfl Tryz.ntmps31 rfl (Sat.start _ _ _ _) ?_; refine (show Tri _ [(0, _), (1, _)] _ _ _ from ?_); refine tri_seq (tri_region ?_); refine o_assignN rfl rfl ?_; refine tri_seq (tri_region ?_); refine o_move rfl rfl ?_; refine o_geq rfl rfl rfl ?_; refine o_move rfl rfl ?_
  refine' triL_and [_, _, _] [(4, _)] (dj := 7) (dr := 10) rfl rfl (fun g1 => ?_) ⟨_, rfl, rfl, rfl, (.cons rfl (.nil _))⟩ rfl ?_
  rotate_left
  · skip
    refine o_move rfl rfl ?_; refine o_move rfl rfl ?_; refine o_leq rfl rfl rfl ?_
    exact triL_nil (Piece.mk rfl rfl (.cons rfl (.nil _)) (fun _ h => h))
  refine o_assignN rfl rfl ?_; refine tri_ret ?_; refine end1 rfl rfl ?_
  exact fun w1 hw1 => ⟨congrArg (fun b => Ending.returned (.bool b)) (by unfold upTo; congr 1 <;> exact decide_eq_decide.2 (by omega)), hw1.chg⟩
theorem bareK (o cc : Int) (v : Val) (t n : List UInt8) (al : List Ex) (Ax : Option Addr) (kx : Nat) (op : Int) (w : World)  : Calls Tryz.prog 70 #[.agg ([.int .i64 o, .int .i64 v.k, .int .i64 v.n, .string (B v.s), .string (B t), .string (B n), .int .i64 cc, .slice Ax al.length kx] : List Value).toArray, .int .i64 op] w (Pure w (.bool (bareX (.mk o v t n cc al) op))) := by
  refine calls_tri (args := [.agg ([.int .i64 o, .int .i64 v.k, .int .i64 v.n, .string (B v.s), .string (B t), .string (B n), .int .i64 cc, .slice Ax al.length kx] : List Value).toArray, .int .i64 op]) (lent := []) (H := []) Tryz.func70 rfl Tryz.ntmps70 rfl (Sat.start _ _ _ _) ?_; refine (show Tri _ [(0, _), (1, _)] _ _ _ from ?_); refine tri_seq (tri_region ?_); refine o_box _ rfl rfl rfl (fun b2 => ?_); refine o_assignN rfl rfl ?_; refine tri_seq (tri_region ?_); refine o_field fo30_0 rfl rfl ?_; refine o_load agg3 (by repeat (first | exact Nth.z | apply Nth.s)) rfl rfl rfl ?_; refine o_move rfl rfl ?_; refine o_eqlI rfl rfl rfl ?_; refine o_move rfl rfl ?_
  refine' triL_and [_, _, _, _] [(4, _), (2, _)] (dj := 9) (dr := 13) rfl rfl (fun g1 => ?_) ⟨_, rfl, rfl, rfl, (.cons rfl (.cons rfl (.nil _)))⟩ rfl ?_
  rotate_left
  · skip
    refine o_field fo30_1 rfl rfl ?_; refine o_loadA agg27 sz27 .z rfl rfl (vs := Val.cs v) rfl rfl ?_; refine o_build bval27 rfl rfl ?_; refine o_eqlV flat27 rfl rfl rfl ?_
    exact triL_nil (Piece.mk rfl rfl (.cons rfl (.cons rfl (.nil _))) (fun _ h => h))
  refine o_move rfl rfl ?_
  refine' triL_and [_, _, _] [(4, _), (2, _)] (dj := 15) (dr := 18) rfl rfl (fun g2 => ?_) ⟨_, rfl, rfl, rfl, (.cons rfl (.cons rfl (.nil _)))⟩ rfl ?_
  rotate_left
  · skip
    refine o_field fo30_2 rfl rfl ?_; refine o_load agg9 (by repeat (first | exact Nth.z | apply Nth.s)) rfl rfl rfl ?_; refine o_eqlT rfl rfl rfl ?_
    exact triL_nil (Piece.mk rfl rfl (.cons rfl (.cons rfl (.nil _))) (fun _ h => h))
  refine o_move rfl rfl ?_
  refine' triL_and [_, _, _] [(4, _), (2, _)] (dj := 20) (dr := 23) rfl rfl (fun g3 => ?_) ⟨_, rfl, rfl, rfl, (.cons rfl (.cons rfl (.nil _)))⟩ rfl ?_
  rotate_left
  · skip
    refine o_field fo30_3 rfl rfl ?_; refine o_load agg9 (by repeat (first | exact Nth.z | apply Nth.s)) rfl rfl rfl ?_; refine o_eqlT rfl rfl rfl ?_
    exact triL_nil (Piece.mk rfl rfl (.cons rfl (.cons rfl (.nil _))) (fun _ h => h))
  refine o_move rfl rfl ?_
  refine' triL_and [_, _, _] [(4, _), (2, _)] (dj := 25) (dr := 28) rfl rfl (fun g4 => ?_) ⟨_, rfl, rfl, rfl, (.cons rfl (.cons rfl (.nil _)))⟩ rfl ?_
  rotate_left
  · skip
    refine o_field fo30_4 rfl rfl ?_; refine o_load agg3 (by repeat (first | exact Nth.z | apply Nth.s)) rfl rfl rfl ?_; refine o_eqlI rfl rfl rfl ?_
    exact triL_nil (Piece.mk rfl rfl (.cons rfl (.cons rfl (.nil _))) (fun _ h => h))
  refine o_move rfl rfl ?_
  refine' triL_and [_, _, _, _] [(4, _)] (dj := 30) (dr := 34) rfl rfl (fun g5 => ?_) ⟨_, rfl, rfl, rfl, (.cons rfl (.nil _))⟩ rfl ?_
  rotate_left
  · skip
    refine o_field fo30_5 rfl rfl ?_; refine o_load agg28 (by repeat (first | exact Nth.z | apply Nth.s)) rfl rfl rfl ?_; refine o_lenS Tryz.underlying28 rfl rfl ?_; refine o_eqlI rfl rfl rfl ?_
    exact triL_nil (Piece.mk rfl rfl (.cons rfl (.nil _)) (fun _ h => h))
  refine o_assignN rfl rfl ?_; refine tri_ret ?_; refine end1 rfl rfl ?_
  exact fun w1 hw1 => ⟨congrArg (fun b => Ending.returned (.bool b)) (by exact bareX_eq o v t n cc al op), hw1.chg⟩
theorem lacksK (o cc : Int) (v : Val) (t n : List UInt8) (al : List Ex) (Ax : Option Addr) (kx : Nat) (w : World)  : Calls Tryz.prog 72 #[.agg ([.int .i64 o, .int .i64 v.k, .int .i64 v.n, .string (B v.s), .string (B t), .string (B n), .int .i64 cc, .slice Ax al.length kx] : List Value).toArray] w (Pure w (.bool (lackX (.mk o v t n cc al)))) := by
  refine calls_tri (args := [.agg ([.int .i64 o, .int .i64 v.k, .int .i64 v.n, .string (B v.s), .string (B t), .string (B n), .int .i64 cc, .slice Ax al.length kx] : List Value).toArray]) (lent := []) (H := []) Tryz.func72 rfl Tryz.ntmps72 rfl (Sat.start _ _ _ _) ?_; refine (show Tri _ [(0, _)] _ _ _ from ?_); refine tri_seq (tri_region ?_); refine o_box _ rfl rfl rfl (fun b1 => ?_); refine o_assignN rfl rfl ?_; refine tri_seq (tri_region ?_); refine o_loadA agg30 sz30 (by repeat (first | exact Nth.z | apply Nth.s)) rfl rfl rfl rfl ?_; refine o_callP (first := []) (cap := []) rfl rfl rfl Tryz.call70 (fun w1 h1 => bareK o cc v t n al Ax kx 0 w1) ?_; refine o_assignN rfl rfl ?_; refine tri_ret ?_; refine end1 rfl rfl ?_
  exact fun w1 hw1 => ⟨rfl, hw1.chg⟩
def MX (e : Ex) : Prop := ∀ (cs : List Value) (w : World), ExC w e cs → e.ok → e.size ≤ 70368744177664 → Calls Tryz.prog 32 #[.agg cs.toArray] w (Pure w (.bool e.may))
theorem ar1 {o : Int} (h : (((decide (o = 4) || decide (o = 5)) || decide (o = 6)) || decide (o = 7)) = true) : arity o = 1 := by
  simp only [Bool.or_eq_true, decide_eq_true_eq] at h
  unfold arity; rw [if_pos (by omega)]
theorem ar2 {o : Int} (h : (((decide (o = 4) || decide (o = 5)) || decide (o = 6)) || decide (o = 7)) = false) : arity o = 2 := by
  simp only [Bool.or_eq_false_iff, decide_eq_false_iff_not] at h
  unfold arity; rw [if_neg (by omega)]
set_option maxHeartbeats 1000000 in
theorem mayStep (o cc : Int) (v : Val) (t n : List UInt8) (al : List Ex) (Ax : Option Addr) (kx : Nat) (xs : List Value) (w : World) (_ : al.length ≤ kx) (hxr : Rd w Ax xs) (hxs : ExsC w al xs) (ho : Ex.ok (.mk o v t n cc al)) (hz : Ex.size (.mk o v t n cc al) ≤ 70368744177664) (ih : ∀ i, i < al.length → MX (al.getD i Ex.zero)) : Calls Tryz.prog 32 #[.agg ([.int .i64 o, .int .i64 v.k, .int .i64 v.n, .string (B v.s), .string (B t), .string (B n), .int .i64 cc, .slice Ax al.length kx] : List Value).toArray] w (Pure w (.bool (Ex.may (.mk o v t n cc al)))) := by
  refine calls_tri (args := [.agg ([.int .i64 o, .int .i64 v.k, .int .i64 v.n, .string (B v.s), .string (B t), .string (B n), .int .i64 cc, .slice Ax al.length kx] : List Value).toArray]) (lent := []) (H := []) Tryz.func32 rfl Tryz.ntmps32 rfl (Sat.start _ _ _ _) ?_; refine (show Tri _ [(0, _)] _ _ _ from ?_)
  have hR : ∀ cx H, cx.w0 = w → cx.lent = [] → RdS cx H Ax xs := fun cx H q1 q2 => RdS.lent (by rw [q1]; exact hxr) (fun b hb => by rw [q2]; simp)
  have hxl := hxs.len
  have hz2 : v.s.length + t.length + n.length ≤ 70368744177664 ∧ al.length ≤ 70368744177664 := by have := Exs.len_size al; simp only [Ex.size] at hz; omega
  refine tri_seq (tri_region ?_); refine o_box _ rfl rfl rfl (fun b1 => ?_); refine o_assignN rfl rfl ?_; refine tri_seq (tri_region ?_); refine o_assignN rfl rfl ?_; refine tri_join (ι := Nat) (fun i => [(1, .pointer (some ⟨b1, 0, none⟩)), (3, .int .i64 (arity o : Int))]) (fun i => [box b1 30 ([.int .i64 o, .int .i64 v.k, .int .i64 v.n, .string (B v.s), .string (B t), .string (B n), .int .i64 cc, .slice Ax al.length kx] : List Value)]) (fun i => (4 ≤ o ∧ o ≤ 21)) ?_ (fun i hj => ?_)
  · skip
    refine tri_block ?_; refine tri_seq (tri_region ?_); refine o_field fo30_0 rfl rfl ?_; refine o_load agg3 (by repeat (first | exact Nth.z | apply Nth.s)) rfl rfl rfl ?_; refine o_eqlI rfl rfl rfl ?_; refine o_assignN rfl rfl ?_; refine tri_if rfl (fun q0 => ?_) (fun q0 => ?_)
    · skip
      subst q0
      refine tri_seq ?_; refine tri_slots [(1, _)] (.cons rfl (.nil _)) ?_; refine tri_region ?_; refine o_field fo30_1 rfl rfl ?_; refine o_loadA agg27 sz27 .z rfl rfl (vs := Val.cs v) rfl rfl ?_; refine o_alloc (Val.cs Val.zero) rfl zero27 rfl (fun b4 => ?_); refine o_storeBV sz27 (by repeat (first | exact Nth.z | apply Nth.s)) rfl rfl rfl ?_; refine triL_nilN ?_; refine tri_seq (tri_region ?_); refine o_build bval27 rfl rfl ?_; refine o_field fo30_1 rfl rfl ?_; refine o_store sz27 (.s .z) rfl rfl rfl (vs := Val.cs Val.zero) rfl rfl (Nat.le_of_ble_eq_true rfl) rfl ?_; refine triL_nilN ?_; refine tri_seq ?_; refine tri_slots [(4, _), (1, _)] (.cons rfl (.cons rfl (.nil _))) ?_; refine tri_region ?_; refine o_loadA agg30 sz30 (.s .z) rfl rfl (vs := ([.int .i64 1, .int .i64 (Val.zero).k, .int .i64 (Val.zero).n, .string (B (Val.zero).s), .string (B t), .string (B n), .int .i64 cc, .slice Ax al.length kx] : List Value)) rfl rfl ?_; refine o_callP (first := []) (cap := []) rfl rfl rfl Tryz.call70 (fun w1 h1 => bareK 1 cc Val.zero t n al Ax kx 1 w1) ?_; refine o_move rfl rfl ?_
      refine' triL_and [_, _] [(4, _)] (dj := 18) (dr := 20) rfl rfl (fun g1 => ?_) ⟨_, rfl, rfl, rfl, (.cons rfl (.nil _))⟩ rfl ?_
      rotate_left
      · skip
        refine o_loadBV agg27 sz27 (by repeat (first | exact Nth.z | apply Nth.s)) rfl rfl ?_; refine o_callP (first := []) (cap := []) rfl rfl rfl Tryz.call71 (fun w1 h1 => mayK v w1 ⟨ho.2.1, by omega⟩) ?_
        exact triL_nil (Piece.mk rfl rfl (.cons rfl (.nil _)) (fun _ h => h))
      refine o_move rfl rfl ?_
      refine' triL_and [_, _, _, _, _, _, _, _] [] (dj := 22) (dr := 30) rfl rfl (fun g2 => ?_) ⟨_, rfl, rfl, rfl, (.nil _)⟩ rfl ?_
      rotate_left
      · skip
        refine o_field fo27_0 rfl rfl ?_; refine o_load agg3 (by repeat (first | exact Nth.z | apply Nth.s)) rfl rfl rfl ?_; refine o_neqI rfl rfl rfl ?_; refine o_move rfl rfl ?_
        refine' triL_or [_, _, _] [(22, _)] (dj := 26) (dr := 29) rfl rfl (fun g3 => ?_) ⟨_, rfl, rfl, rfl, (.cons rfl (.nil _))⟩ rfl ?_
        rotate_left
        · skip
          refine o_field fo27_1 rfl rfl ?_; refine o_load agg2 (by repeat (first | exact Nth.z | apply Nth.s)) rfl rfl rfl ?_; refine o_geq rfl rfl rfl ?_
          exact triL_nil (Piece.mk rfl rfl (.cons rfl (.nil _)) (fun _ h => h))
        exact triL_nil (Piece.mk rfl rfl (.nil _) (fun _ h => h))
      refine o_assignN rfl rfl ?_; refine tri_ret ?_; refine blockQ_ret ?_; refine thenQ_ret ?_; refine end1 rfl rfl ?_
      exact fun w1 hw1 => ⟨congrArg (fun b => Ending.returned (.bool b)) (by rw [may_1]), hw1.chg⟩
    · skip
      refine tri_seq ?_; refine tri_slots [(3, _), (1, _)] (.cons rfl (.cons rfl (.nil _))) ?_; refine tri_region ?_; refine o_field fo30_0 rfl rfl ?_; refine o_load agg3 (by repeat (first | exact Nth.z | apply Nth.s)) rfl rfl rfl ?_; refine o_eqlI rfl rfl rfl ?_; refine o_assignN rfl rfl ?_; refine tri_if rfl (fun q1 => ?_) (fun q1 => ?_)
      · skip
        subst q1
        refine tri_seq ?_; refine tri_slots [(1, _)] (.cons rfl (.nil _)) ?_; refine tri_region ?_; refine o_field fo30_3 rfl rfl ?_; refine o_load agg9 (by repeat (first | exact Nth.z | apply Nth.s)) rfl rfl rfl ?_; refine o_callP (first := []) (cap := []) rfl rfl rfl Tryz.call30 (fun w1 h1 => namedR n w1 (by omega)) ?_; refine o_move rfl rfl ?_
        refine' triL_and [_, _, _, _, _, _, _, _] [(1, _)] (dj := 39) (dr := 47) rfl rfl (fun g4 => ?_) ⟨_, rfl, rfl, rfl, (.cons rfl (.nil _))⟩ rfl ?_
        rotate_left
        · skip
          refine o_field fo30_2 rfl rfl ?_; refine o_load agg9 (by repeat (first | exact Nth.z | apply Nth.s)) rfl rfl rfl ?_; refine o_eqlT rfl rfl rfl ?_; refine o_move rfl rfl ?_
          refine' triL_or [_, _, _] [(39, _), (1, _)] (dj := 43) (dr := 46) rfl rfl (fun g5 => ?_) ⟨_, rfl, rfl, rfl, (.cons rfl (.cons rfl (.nil _)))⟩ rfl ?_
          rotate_left
          · skip
            refine o_field fo30_2 rfl rfl ?_; refine o_load agg9 (by repeat (first | exact Nth.z | apply Nth.s)) rfl rfl rfl ?_; refine o_callP (first := []) (cap := []) rfl rfl rfl Tryz.call30 (fun w1 h1 => namedR t w1 (by omega)) ?_
            exact triL_nil (Piece.mk rfl rfl (.cons rfl (.cons rfl (.nil _))) (fun _ h => h))
          exact triL_nil (Piece.mk rfl rfl (.cons rfl (.nil _)) (fun _ h => h))
        refine o_assignN rfl rfl ?_; refine tri_seq (tri_region ?_); refine o_field fo30_3 rfl rfl ?_; refine o_store sz9 (by repeat (first | exact Nth.z | apply Nth.s)) rfl rfl rfl rfl rfl (Nat.le_of_ble_eq_true rfl) rfl ?_; refine o_field fo30_2 rfl rfl ?_; refine o_store sz9 (by repeat (first | exact Nth.z | apply Nth.s)) rfl rfl rfl rfl rfl (Nat.le_of_ble_eq_true rfl) rfl ?_; refine triL_nilN ?_; refine tri_seq (tri_region ?_); refine o_move rfl rfl ?_; refine o_move rfl rfl ?_
        refine' triL_and [_, _] [] (dj := 52) (dr := 54) rfl rfl (fun g6 => ?_) ⟨_, rfl, rfl, rfl, (.nil _)⟩ rfl ?_
        rotate_left
        · skip
          refine o_loadA agg30 sz30 .z rfl rfl (vs := ([.int .i64 2, .int .i64 (v).k, .int .i64 (v).n, .string (B (v).s), .string (B []), .string (B []), .int .i64 cc, .slice Ax al.length kx] : List Value)) rfl rfl ?_; refine o_callP (first := []) (cap := []) rfl rfl rfl Tryz.call70 (fun w1 h1 => bareK 2 cc v [] [] al Ax kx 2 w1) ?_
          exact triL_nil (Piece.mk rfl rfl (.nil _) (fun _ h => h))
        refine o_assignN rfl rfl ?_; refine tri_ret ?_; refine blockQ_ret ?_; refine thenQ_ret ?_; refine end1 rfl rfl ?_
        exact fun w1 hw1 => ⟨congrArg (fun b => Ending.returned (.bool b)) (by rw [may_2]), hw1.chg⟩
      · skip
        refine tri_seq ?_; refine tri_slots [(3, _), (1, _)] (.cons rfl (.cons rfl (.nil _))) ?_; refine tri_region ?_; refine o_field fo30_0 rfl rfl ?_; refine o_load agg3 (by repeat (first | exact Nth.z | apply Nth.s)) rfl rfl rfl ?_; refine o_eqlI rfl rfl rfl ?_; refine o_move rfl rfl ?_
        refine' triL_or [_, _, _] [(3, _), (1, _)] (dj := 60) (dr := 63) rfl rfl (fun g7 => ?_) ⟨_, rfl, rfl, rfl, (.cons rfl (.cons rfl (.nil _)))⟩ rfl ?_
        rotate_left
        · skip
          refine o_field fo30_0 rfl rfl ?_; refine o_load agg3 (by repeat (first | exact Nth.z | apply Nth.s)) rfl rfl rfl ?_; refine o_eqlI rfl rfl rfl ?_
          exact triL_nil (Piece.mk rfl rfl (.cons rfl (.cons rfl (.nil _))) (fun _ h => h))
        refine o_move rfl rfl ?_
        refine' triL_or [_, _, _] [(3, _), (1, _)] (dj := 65) (dr := 68) rfl rfl (fun g8 => ?_) ⟨_, rfl, rfl, rfl, (.cons rfl (.cons rfl (.nil _)))⟩ rfl ?_
        rotate_left
        · skip
          refine o_field fo30_0 rfl rfl ?_; refine o_load agg3 (by repeat (first | exact Nth.z | apply Nth.s)) rfl rfl rfl ?_; refine o_eqlI rfl rfl rfl ?_
          exact triL_nil (Piece.mk rfl rfl (.cons rfl (.cons rfl (.nil _))) (fun _ h => h))
        refine o_move rfl rfl ?_
        refine' triL_or [_, _, _] [(3, _), (1, _)] (dj := 70) (dr := 73) rfl rfl (fun g9 => ?_) ⟨_, rfl, rfl, rfl, (.cons rfl (.cons rfl (.nil _)))⟩ rfl ?_
        rotate_left
        · skip
          refine o_field fo30_0 rfl rfl ?_; refine o_load agg3 (by repeat (first | exact Nth.z | apply Nth.s)) rfl rfl rfl ?_; refine o_eqlI rfl rfl rfl ?_
          exact triL_nil (Piece.mk rfl rfl (.cons rfl (.cons rfl (.nil _))) (fun _ h => h))
        refine o_assignN rfl rfl ?_; refine tri_cond rfl (fun q2 => ?_) (fun q2 => ?_)
        · skip
          refine tri_region ?_; refine o_assign rfl rfl ?_; refine triL_nil ?_; refine blockQ_normal ?_; refine thenQ_normal ?_
          exact ⟨0, (.cons rfl (.cons (by rw [ar1 q2]; rfl) (.nil _))), fun _ h => h, by simp only [Bool.or_eq_true, decide_eq_true_eq] at q2; omega⟩
        · skip
          refine tri_seq (tri_region ?_); refine o_field fo30_0 rfl rfl ?_; refine o_load agg3 (by repeat (first | exact Nth.z | apply Nth.s)) rfl rfl rfl ?_; refine o_lss rfl rfl rfl ?_; refine o_move rfl rfl ?_
          refine' triL_or [_, _, _] [(3, _), (1, _)] (dj := 79) (dr := 82) rfl rfl (fun g10 => ?_) ⟨_, rfl, rfl, rfl, (.cons rfl (.cons rfl (.nil _)))⟩ rfl ?_
          rotate_left
          · skip
            refine o_field fo30_0 rfl rfl ?_; refine o_load agg3 (by repeat (first | exact Nth.z | apply Nth.s)) rfl rfl rfl ?_; refine o_gtr rfl rfl rfl ?_
            exact triL_nil (Piece.mk rfl rfl (.cons rfl (.cons rfl (.nil _))) (fun _ h => h))
          refine o_assignN rfl rfl ?_; refine tri_cond rfl (fun q3 => ?_) (fun q3 => ?_)
          · skip
            refine tri_seq ?_; refine tri_slots [] (.nil _) ?_; refine tri_region ?_; refine o_assignN rfl rfl ?_; refine tri_ret ?_; refine blockQ_ret ?_; refine thenQ_ret ?_; refine end1 rfl rfl ?_
            exact fun w1 hw1 => ⟨congrArg (fun b => Ending.returned (.bool b)) (by exact (may_no v t n cc al q0 q1 (by simp only [Bool.or_eq_true, decide_eq_true_eq] at q3; simp only [Bool.or_eq_false_iff, decide_eq_false_iff_not] at q2; omega)).symm), hw1.chg⟩
          · skip
            refine tri_skip ?_; refine blockQ_normal ?_; refine thenQ_normal ?_
            exact ⟨0, (.cons rfl (.cons (by rw [ar2 q2]; rfl) (.nil _))), fun _ h => h, by simp only [Bool.or_eq_false_iff, decide_eq_false_iff_not] at q3; omega⟩
  have hn1 : o ≠ 1 := by omega
  have hn2 : o ≠ 2 := by omega
  refine tri_seq ?_; refine tri_seq (tri_region ?_); refine o_field fo30_5 rfl rfl ?_; refine o_load agg28 (by repeat (first | exact Nth.z | apply Nth.s)) rfl rfl rfl ?_; refine o_lenS Tryz.underlying28 rfl rfl ?_; refine o_move rfl rfl ?_; refine o_neqI rfl rfl rfl ?_; refine o_move rfl rfl ?_
  refine' triL_or [_, _, _, _] [(1, _)] (dj := 89) (dr := 93) rfl rfl (fun g11 => ?_) ⟨_, rfl, rfl, rfl, (.cons rfl (.nil _))⟩ rfl ?_
  rotate_left
  · skip
    refine o_field fo30_1 rfl rfl ?_; refine o_loadA agg27 sz27 .z rfl rfl (vs := Val.cs v) rfl rfl ?_; refine o_build bval27 rfl rfl ?_; refine o_neqV flat27 rfl rfl rfl ?_
    exact triL_nil (Piece.mk rfl rfl (.cons rfl (.nil _)) (fun _ h => h))
  refine o_move rfl rfl ?_
  refine' triL_or [_, _, _] [(1, _)] (dj := 95) (dr := 98) rfl rfl (fun g12 => ?_) ⟨_, rfl, rfl, rfl, (.cons rfl (.nil _))⟩ rfl ?_
  rotate_left
  · skip
    refine o_field fo30_2 rfl rfl ?_; refine o_load agg9 (by repeat (first | exact Nth.z | apply Nth.s)) rfl rfl rfl ?_; refine o_neqT rfl rfl rfl ?_
    exact triL_nil (Piece.mk rfl rfl (.cons rfl (.nil _)) (fun _ h => h))
  refine o_move rfl rfl ?_
  refine' triL_or [_, _, _] [(1, _)] (dj := 100) (dr := 103) rfl rfl (fun g13 => ?_) ⟨_, rfl, rfl, rfl, (.cons rfl (.nil _))⟩ rfl ?_
  rotate_left
  · skip
    refine o_field fo30_3 rfl rfl ?_; refine o_load agg9 (by repeat (first | exact Nth.z | apply Nth.s)) rfl rfl rfl ?_; refine o_neqT rfl rfl rfl ?_
    exact triL_nil (Piece.mk rfl rfl (.cons rfl (.nil _)) (fun _ h => h))
  refine o_move rfl rfl ?_
  refine' triL_or [_, _, _] [(1, _)] (dj := 105) (dr := 108) rfl rfl (fun g14 => ?_) ⟨_, rfl, rfl, rfl, (.cons rfl (.nil _))⟩ rfl ?_
  rotate_left
  · skip
    refine o_field fo30_4 rfl rfl ?_; refine o_load agg3 (by repeat (first | exact Nth.z | apply Nth.s)) rfl rfl rfl ?_; refine o_neqI rfl rfl rfl ?_
    exact triL_nil (Piece.mk rfl rfl (.cons rfl (.nil _)) (fun _ h => h))
  refine triL_nilN ?_; refine tri_cond rfl (fun q4 => ?_) (fun q4 => ?_)
  · skip
    refine tri_seq (tri_region ?_); refine o_assignN rfl rfl ?_; refine tri_ret ?_; refine thenQ_ret ?_; refine end1 rfl rfl ?_
    exact fun w1 hw1 => ⟨congrArg (fun b => Ending.returned (.bool b)) (by exact (may_bad v t n cc al hn1 hn2 q4).symm), hw1.chg⟩
  · skip
    refine tri_skip ?_; refine thenQ_normal ?_; refine tri_seq ?_; refine tri_seq (tri_region ?_); refine o_field fo30_5 rfl rfl ?_; refine o_load agg28 (by repeat (first | exact Nth.z | apply Nth.s)) rfl rfl rfl ?_; refine o_lenS Tryz.underlying28 rfl rfl ?_; refine o_move rfl rfl ?_; refine triL_nilN ?_; refine tri_block ?_; refine tri_loop (ι := Nat) (F := fun i => [(111, .slice Ax al.length kx), (112, .int .i64 (al.length : Int)), (113, .int .i64 (i : Int))]) (HH := fun i => [box b1 30 ([.int .i64 o, .int .i64 v.k, .int .i64 v.n, .string (B v.s), .string (B t), .string (B n), .int .i64 cc, .slice Ax al.length kx] : List Value)]) (Pu := fun i => i ≤ al.length ∧ (al.take i).all Ex.may = true) (μ := fun i => al.length - i) (0) (.cons rfl (.cons rfl (.cons rfl (.nil _)))) (fun _ h => h) (⟨Nat.zero_le _, rfl⟩) (fun i hi => ?_); refine tri_seq (tri_region ?_); refine o_lss rfl rfl rfl ?_; refine triL_nilN ?_; refine tri_seq ?_; refine tri_if rfl (fun q5 => ?_) (fun q5 => ?_)
    · skip
      refine tri_skip ?_; refine thenQ_normal ?_; refine tri_seq ?_; refine tri_block ?_; refine tri_seq ?_
      obtain ⟨ca, hca, hka⟩ := ExsC.at i hxs (by omega)
      refine tri_region ?_; refine o_idxS Tryz.underlying28 sz30 rfl rfl rfl (hR _ _ rfl rfl) (by omega) (by omega) (by omega) (by decide) ?_; refine o_loadRA agg30 sz30 rfl rfl (hR _ _ rfl rfl) (vs := ca) hca hka.len (by decide) ?_; refine o_alloc _ rfl zero30 rfl (fun b7 => ?_); refine o_storeX rfl hka.xc sz30 (by repeat (first | exact Nth.z | apply Nth.s)) rfl rfl rfl ?_; refine triL_nilN ?_; refine tri_seq (tri_region ?_); refine o_loadX hka.xc agg30 sz30 (by repeat (first | exact Nth.z | apply Nth.s)) rfl rfl ?_; refine o_callP (first := []) (cap := []) rfl rfl rfl Tryz.call32 (fun w1 h1 => ih i (by omega) ca w1 (ExC.chg h1.chg _ _ hka) (Ex.ok_at ho (by omega)) (by have := Ex.size_at (o := o) (c := cc) (v := v) (t := t) (n := n) (l := al) (i := i) (by omega); omega)) ?_; refine o_not rfl rfl ?_; refine triL_nilN ?_; refine tri_cond rfl (fun q6 => ?_) (fun q6 => ?_)
      · skip
        have q6 := not_true q6
        refine tri_seq ?_; refine tri_slots [] (.nil _) ?_; refine tri_region ?_; refine o_assignN rfl rfl ?_; refine tri_ret ?_; refine blockQ_ret ?_; refine thenQ_ret ?_; refine thenQ_ret ?_; refine blockQ_ret ?_; refine thenQ_ret ?_; refine end1 rfl rfl ?_
        exact fun w1 hw1 => ⟨congrArg (fun b => Ending.returned (.bool b)) (by rw [may_all v t n cc al hn1 hn2 hj q4]; exact (all_hit (by omega) q6).symm), hw1.chg⟩
      · skip
        have q6 := not_false q6
        refine tri_skip ?_; refine blockQ_normal ?_; refine thenQ_normal ?_; refine tri_slots [(111, _), (112, _), (113, _)] (.cons rfl (.cons rfl (.cons rfl (.nil _)))) ?_; refine tri_region ?_; refine o_addN rfl rfl rfl (by omega) ?_; refine o_move rfl rfl ?_; refine triL_nilN ?_
        exact ⟨i + 1, (.cons rfl (.cons rfl (.cons rfl (.nil _)))), (fun w2 hw2 => hw2.tail), ⟨by omega, all_step (by omega) hi.2 q6⟩, by omega⟩
    · skip
      refine tri_exit ?_; refine thenQ_exit ?_; refine thenQ_exit ?_; refine blockQ_here ?_; refine thenQ_normal ?_; refine tri_seq ?_; refine tri_slots [] (.nil _) ?_; refine tri_region ?_; refine o_assignN rfl rfl ?_; refine tri_ret ?_; refine end1 rfl rfl ?_
      exact fun w1 hw1 => ⟨congrArg (fun b => Ending.returned (.bool b)) (by rw [may_all v t n cc al hn1 hn2 hj q4, ← hi.2, List.take_of_length_le (by omega)]), hw1.chg⟩
end Go.Proofs.YtjbpkcbefmpfgaaGreatDoor
