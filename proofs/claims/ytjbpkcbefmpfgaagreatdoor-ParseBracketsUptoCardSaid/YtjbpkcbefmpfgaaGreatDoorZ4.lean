/- Parts of the proof, joined and made shorter by a program: Pk7, Vk, Rk1, Rk2, Rk3, Rk4, Rk5, Rk6, Rk7, Rk8, Rk9, Rk10, Rk11, Dk1, Dk2, Dk3. -/
import Derived.Test.YtjbpkcbefmpfgaaGreatDoorZ3
namespace Go.Proofs.YtjbpkcbefmpfgaaGreatDoor
open Go.WK Go.RowKit Go
theorem ru : Tryz.prog.built 37 [] = some ([.int .i64 0,.string .empty,.string .empty,.slice none 0 0,.slice none 0 0,.bool false,.slice none 0 0,.slice none 0 0,.int .i64 0,.int .i64 0,.int .i64 0,.string .empty,.string .empty,.string .empty,.int .i64 0,.slice none 0 0,.bool false,.bool false,.slice none 0 0,.slice none 0 0,.int .i64 0,.int .i64 0,.int .i64 0,.string .empty,.string .empty,.string .empty,.int .i64 0,.slice none 0 0,.slice none 0 0,.bool false,.int .i64 0] : List Value).toArray := by kernel_rfl
theorem assert92 : ∀ (v : Value) (w : World),(Instr.typeAssert (.iface 92 v) 20 92 true).run Tryz.prog w = .ok (.tuple #[v,.bool true]) w := by intros; kernel_rfl
theorem zero92 : (Tryz.prog.info? 92).map (·.zero) = some (some (.agg #[.int .i64 0,.int .i64 0])) := by kernel_rfl
theorem sz92 : szB Tryz.prog 92 = some 2 := by kernel_rfl
theorem fo92_0 : bs Tryz.prog 92 0 = some 0 := by kernel_rfl
theorem sz46 : szB Tryz.prog 46 = some 1 := by kernel_rfl
theorem agg46 : cu Tryz.prog 46 = some false := by kernel_rfl
theorem zero46 : (Tryz.prog.info? 46).map (·.zero) = some (some (.nilIface)) := by kernel_rfl
theorem sF (A0 : Option Addr) (n0 c0 : Nat) : Tryz.prog.built 96 [(0,.slice A0 n0 c0)] = some ([.slice A0 n0 c0,.int .i64 0] : List Value).toArray := by kernel_rfl
theorem qw (b2 b3 : Nat) (w : World) : CallsD Tryz.prog 44 #[.pointer (some ⟨b2,0,none⟩),.pointer (some ⟨b3,0,none⟩)] .returning w fun e u' w' => e = .returned (.tuple #[]) ∧ u' = .returning ∧ w' = w := by
 have hn : ∀ w : World,(binOp BinOp.neq 20 .nilIface .nilIface).run Tryz.prog w = .ok (.bool false) w := fun _ => by kernel_rfl
 refine callsD_of_wpS Tryz.func44 rfl fun c₀ cs hu => ?_
 apply wpS_seq
 apply wpS_region
 simp [wpOpsS,go_sem,recoverD,hu,Tryz.ntmps44,Exit.thenS]
 apply wpS_seq
 apply wpS_region
 simp [wpOpsS,go_sem,Exit.thenS,hn]
 refine wpS_cond (t := false) (by simp [Act.eval,Array.replicate]) ?_
 simp only [Bool.false_eq_true,if_false]
 refine wpS_of_wp (wp_skip ?_)
 cases c₀
 simp_all [bodyPostS,results,Tryz.results44]
theorem pa (b2 b3 : Nat) (x : Flt) (cs : List Value) (y : Value) (w : World) (hl : cs.length = 31) (hs : Sat ⟨default,0,[],w,[b2,b3]⟩ [box b2 37 cs,box b3 46 [y]] w) : CallsD Tryz.prog 44 #[.pointer (some ⟨b2,0,none⟩),.pointer (some ⟨b3,0,none⟩)] (.panicking (dJ x)) w fun e u' w' =>
  e = .returned (.tuple #[]) ∧ u' = .panicking [{ v := (.iface 92 (.agg #[.int .i64 x.1,.int .i64 x.2])),recovered := true }] ∧ Sat ⟨default,0,[],w,[b2,b3]⟩ [box b2 37 [.int .i64 0,.string .empty,.string .empty,.slice none 0 0,.slice none 0 0,.bool false,.slice none 0 0,.slice none 0 0,.int .i64 0,.int .i64 0,.int .i64 0,.string .empty,.string .empty,.string .empty,.int .i64 0,.slice none 0 0,.bool false,.bool false,.slice none 0 0,.slice none 0 0,.int .i64 0,.int .i64 0,.int .i64 0,.string .empty,.string .empty,.string .empty,.int .i64 0,.slice none 0 0,.slice none 0 0,.bool false,.int .i64 0],box b3 46 [.iface 55 (.agg #[.int .i64 x.1,.int .i64 x.2])]] w' := by
 have hn : ∀ w : World,(binOp BinOp.neq 20 (.iface 92 (.agg #[.int .i64 x.1,.int .i64 x.2])) .nilIface).run Tryz.prog w = .ok (.bool true) w := fun _ => by kernel_rfl
 refine callsD_of_wpS Tryz.func44 rfl fun c₀ fr hu => ?_
 apply wpS_seq
 apply wpS_region
 simp [wpOpsS,go_sem,recoverD,hu,Tryz.ntmps44,Exit.thenS,dJ]
 apply wpS_seq
 apply wpS_region
 simp [wpOpsS,go_sem,Exit.thenS,hn]
 refine wpS_cond (t := true) (by simp [Act.eval,Array.replicate]) ?_
 simp only [if_true]
 refine wpS_of_wp ((show TriG ⟨Tryz.prog,20,[],w,[b2,b3]⟩ [(0,.pointer (some ⟨b2,0,none⟩)),(1,.pointer (some ⟨b3,0,none⟩)),(2,(.iface 92 (.agg #[.int .i64 x.1,.int .i64 x.2])))] [box b2 37 cs,box b3 46 [y]] _ _ from ?_) _ w ⟨rfl,by simp,fun d v hd => ?_⟩ hs.cx)
 rotate_left
 · rcases d with _ | _ | _ | d
   · simpa [WK.look] using hd
   · have hd : some (Value.pointer (some ⟨b3,0,none⟩)) = some v := hd
     simpa using hd
   · have hd : some (Value.iface 92 (.agg #[.int .i64 x.1,.int .i64 x.2])) = some v := hd
     simpa using hd
   · cases hd
 refine oM (Q := fun e fs' H' => e = .normal ∧ ∀ w2,Sat ⟨Tryz.prog,20,[],w,[b2,b3]⟩ H' w2 → Sat ⟨Tryz.prog,20,[],w,[b2,b3]⟩ [box b2 37 [.int .i64 0,.string .empty,.string .empty,.slice none 0 0,.slice none 0 0,.bool false,.slice none 0 0,.slice none 0 0,.int .i64 0,.int .i64 0,.int .i64 0,.string .empty,.string .empty,.string .empty,.int .i64 0,.slice none 0 0,.bool false,.bool false,.slice none 0 0,.slice none 0 0,.int .i64 0,.int .i64 0,.int .i64 0,.string .empty,.string .empty,.string .empty,.int .i64 0,.slice none 0 0,.slice none 0 0,.bool false,.int .i64 0],box b3 46 [.iface 55 (.agg #[.int .i64 x.1,.int .i64 x.2])]] w2) ?_ (fun e fs' H' ⟨he,hq⟩ a w2 ha hw => ?_)
 · skip
   exact ae (aa (ai rfl rfl (o_assert (assert92 _) rfl rfl (ai rfl rfl (bh rfl rfl rfl (bh rfl rfl rfl (aM _ rfl zero92 rfl (fun b3 => aI sz92 N0 rfl rfl rfl rfl rfl (Nat.le_of_ble_eq_true rfl) rfl (o_assignN rfl rfl (ae (ae (tri_slo [(4,_),(3,_),(0,_),(1,_),(2,_)] rfl (aa (ai rfl rfl (cZ rfl rfl (triL_nilN (cY rfl (an (ag (tri_slo [(3,_),(0,_),(1,_)] rfl (bo ([box b3 92 [.int .i64 x.1,.int .i64 x.2]]) [(0,true),(1,true),(2,true),(3,true),(4,false),(5,false)] [5] (by kernel_rfl) (by kernel_rfl) (fun _ h => h.sel [0] (by decide)) (ah rfl (aS ru rfl rfl (ab ⟨rfl,ah rfl (aj fo92_0 rfl rfl (ab ⟨rfl,ah rfl (aQ agg55 sz55 .z rfl rfl (vs := [.int .i64 x.1,.int .i64 x.2]) rfl rfl (ab ⟨rfl,ah rfl (gK Tryz.underlying55 rfl rfl rfl (ab ⟨rfl,(ba rfl (dn (us := cs) (cs := [.int .i64 0,.string .empty,.string .empty,.slice none 0 0,.slice none 0 0,.bool false,.slice none 0 0,.slice none 0 0,.int .i64 0,.int .i64 0,.int .i64 0,.string .empty,.string .empty,.string .empty,.int .i64 0,.slice none 0 0,.bool false,.bool false,.slice none 0 0,.slice none 0 0,.int .i64 0,.int .i64 0,.int .i64 0,.string .empty,.string .empty,.string .empty,.int .i64 0,.slice none 0 0,.slice none 0 0,.bool false,.int .i64 0]) hl rfl rfl eO (.s .z) rfl rfl rfl (ab ⟨rfl,fun _ _ h => h.sel [0] (by decide),(bE [5] [_] rfl rfl (aI sz46 N2 rfl rfl rfl rfl rfl (Nat.le_of_ble_eq_true rfl) rfl (ab ⟨rfl,(⟨rfl,fun w2 hw2 => hw2.sel [1,2] (by decide)⟩)⟩)))⟩)))⟩))⟩))⟩))⟩))))))))))))))))))))))))
 · subst he
   refine ⟨ha.ds,.panicking [{ v := (.iface 92 (.agg #[.int .i64 x.1,.int .i64 x.2])),recovered := true }],rfl,.tuple #[],results_none rfl _ _ _,rfl,rfl,(hq w2 hw).cx⟩
set_option maxHeartbeats 1000000 in
theorem jP (s : List UInt8) (w : World) (hs : s.length ≤ 140737488355328) (hE : LE w) (hsel : ∀ ts,eK s = .ok ts → atT 1 du ts = true) : Calls Tryz.prog 15 #[.string (B s)] w (ParsT w (cy s)) := by
 refine pT (args := [.string (B s)]) (lent := []) (H := []) Tryz.func15 rfl Tryz.ntmps15 rfl (Sat.start _ _ _ _) ((show TriG _ [(0,_)] _ _ _ from lI (aa (aM _ rfl gY rfl (fun b2 => aM _ rfl zero46 rfl (fun b3 => ab (kc (lI (aa (ai rfl rfl (o_callF (first := []) (cap := []) (fun v => .tuple #[v,errR 55 (eK s)]) rfl rfl rfl Tryz.call43 (fun w1 h1 => lexK s w1 hs (hE.chg h1.chg)) (fun A9 c9 => ai rfl rfl (bh rfl rfl rfl (bh rfl rfl rfl (aG rfl rfl (aG rfl rfl (ab (kc (lI (ae (tri_slo [(5,_),(4,_),(3,_),(2,_)] rfl (aa (ai rfl rfl (lg ifE (errIs _ _) rfl rfl (triL_nilN (aF rfl (fun h0 => ?_) (fun h0 => ?_)))))))))))))))))))))))))))
 · skip
   obtain ⟨x,hx⟩ := qQ (cn h0)
   rw [hx]
   refine ae (aa (aS ru rfl rfl (ai rfl rfl (dn (us := zSt) (cs := zSt) rfl rfl rfl eO (.s (.s .z)) rfl rfl rfl (aI sz46 N1 rfl rfl rfl rfl rfl (Nat.le_of_ble_eq_true rfl) rfl (triL_nilN (aq (gQ_ret ?_))))))))
   intro a1 w1 ha1 hw1
   show Leaves _ _ _ _ a1.defers _ _
   rw [ha1.ds]
   exact ⟨_,jg Tryz.results15 (ha1.get rfl) (ha1.get rfl) fq eO agg46 (hw1.holds _ (Nth.mem (.s (.s .z)))) rfl (hw1.holds _ (Nth.mem (.s .z))),([],zSt),⟨rfl,rfl⟩,by rw [lJ hx]; rfl,by rw [lJ hx]; exact (Sat.sel (Sat.zeroSt hw1) [0] (by decide)).cx⟩
 · skip
   obtain ⟨ts,hts⟩ := okR_ok (bS h0)
   have hlg := lex_good hts
   rw [hts]
   refine an (kc (pS rfl rfl ?_))
   refine oM (Q := (fun e fs' H' => match e with
     | .ret => WK.look fs' 2 = some (.pointer (some ⟨b2,0,none⟩)) ∧ WK.look fs' 3 = some (.pointer (some ⟨b3,0,none⟩)) ∧ ∃ j : SR,cy s = .ok j.s ∧ (j.cs.length = 31 ∧ allOne j.cs = true) ∧ ∀ w2,Sat ⟨Tryz.prog,35,[{ target := .fn (.func 44) #[.pointer (some ⟨b2,0,none⟩),.pointer (some ⟨b3,0,none⟩)],args := #[] }],w,[]⟩ H' w2 → Sat ⟨Tryz.prog,35,[{ target := .fn (.func 44) #[.pointer (some ⟨b2,0,none⟩),.pointer (some ⟨b3,0,none⟩)],args := #[] }],w,[]⟩ [box b2 37 j.cs,box b3 46 [.nilIface],stC j.bl j.s j.cs] w2
     | .panic ch => WK.look fs' 2 = some (.pointer (some ⟨b2,0,none⟩)) ∧ WK.look fs' 3 = some (.pointer (some ⟨b3,0,none⟩)) ∧ ∃ x,cy s = .error x ∧ ch = dJ x ∧ ∀ w2,Sat ⟨Tryz.prog,35,[{ target := .fn (.func 44) #[.pointer (some ⟨b2,0,none⟩),.pointer (some ⟨b3,0,none⟩)],args := #[] }],w,[]⟩ H' w2 → ∃ cs y,cs.length = 31 ∧ Sat ⟨Tryz.prog,35,[{ target := .fn (.func 44) #[.pointer (some ⟨b2,0,none⟩),.pointer (some ⟨b3,0,none⟩)],args := #[] }],w,[]⟩ [box b2 37 cs,box b3 46 [y]] w2
     | _ => False)) ?_ (fun e fs' H' hq a2 w2 ha hw => by
     cases e with
     | ret =>
      obtain ⟨k2,k3,j,hj1,⟨hj2,hj3⟩,hj4⟩ := hq
      have hs4 := hj4 w2 hw
      show Leaves _ _ _ _ a2.defers _ _
      rw [ha.ds]
      refine leaves_cons (by simp) (f := 44) (args := #[.pointer (some ⟨b2,0,none⟩),.pointer (some ⟨b3,0,none⟩)]) (by simp [go_sem]) ((qw b2 b3 w2).mono ?_)
      rintro e u' w3 ⟨rfl,rfl,rfl⟩
      exact ⟨_,jg Tryz.results15 (ha.get k2) (ha.get k3) fq eO agg46 (hs4.holds _ (Nth.mem .z)) hj2 (hs4.holds _ (Nth.mem (.s .z))),(j.bl,j.cs),⟨hj2,hj3⟩,by rw [hj1]; rfl,by rw [hj1]; exact (hs4.sel [2] (by decide)).cx⟩
     | panic ch =>
      obtain ⟨k2,k3,x,hx1,rfl,hx3⟩ := hq
      obtain ⟨cs,y,hl,hs4⟩ := hx3 w2 hw
      show Leaves _ _ _ _ a2.defers _ _
      rw [ha.ds]
      have hln : ∀ c ∈ [box b2 37 cs,box b3 46 [y]],∀ k,c.fp k → k ∈ [b2,b3] := j7 aB
      have hln2 : ∀ k ∈ [b2,b3], ∃ c ∈ [box b2 37 cs,box b3 46 [y]],c.fp k := j8 ay
      refine leaves_cons (by simp) (f := 44) (args := #[.pointer (some ⟨b2,0,none⟩),.pointer (some ⟨b3,0,none⟩)]) (by simp [go_sem]) ((pa b2 b3 x cs y w2 hl (Sat.lend (F := []) hs4 hln)).mono ?_)
      rintro e u' w3 ⟨rfl,rfl,hs5⟩
      have hs6 := Sat.frame (F := []) hs4 hln2 hs5
      exact ⟨_,jg Tryz.results15 (ha.get k2) (ha.get k3) fq eO agg46 (hs6.holds _ (Nth.mem .z)) rfl (hs6.holds _ (Nth.mem (.s .z))),([],zSt),⟨rfl,rfl⟩,by rw [hx1]; rfl,by rw [hx1]; exact (Sat.sel (Sat.zeroSt hs6) [0] (by decide)).cx⟩
     | normal => exact hq.elim
     | exit i => exact hq.elim
     | goto l => exact hq.elim
     | outgrown => exact hq.elim)
   refine ae (Tri.know (fun w2 hw2 => row_some (hw2.holds _ (Nth.mem .z)) rfl (by show 0 < (toksV ts).length; rw [bN]; have := hlg.1.ne; omega)) (fun ⟨g,hg,hlc⟩ => ?_))
   subst hg
   refine aa (ai rfl rfl (aS (sF _ _ _) rfl rfl (cl _ rfl rfl rfl (fun b19 => o_assignN rfl rfl (ae (tri_slo [(6,_),(2,_),(3,_)] rfl (Tri.heap (H' := [pC b19 ⟨g,0,none⟩ c9 ts ts 0,row (.slice (some ⟨g,0,none⟩) ts.length c9) 62 3 ts.length (toksV ts),box b3 46 [.nilIface],box b2 37 zSt]) (fun w hw => (congrArg (fun v => Sat _ [box b19 96 [v,.int .i64 0],row (.slice (some ⟨g,0,none⟩) ts.length c9) 62 3 ts.length (toksV ts),box b3 46 [.nilIface],box b2 37 zSt] w) (pS0 g c9 ts)).mpr hw) (aa (ai rfl rfl (eX (first := []) (cap := []) [] [pC b19 ⟨g,0,none⟩ c9 ts ts 0] [row (.slice (some ⟨g,0,none⟩) ts.length c9) 62 3 ts.length (toksV ts),box b3 46 [.nilIface],box b2 37 zSt] [b19] rfl rfl rfl rfl Tryz.call45 aB ay (fun w1 h1 h2 => selectK (8 * ts.length + 8) b19 ⟨g,0,none⟩ c9 ts ts 0 w1 ⟨⟨RdS.row (.s .z) w1 h1,h1.neB (.s .z) .z (by decide) rfl,hlc,by have := hlg.2.2; omega,hlg.2.1⟩,List.suffix_refl _,hlg.1,Nat.zero_le _,h2⟩ (hsel ts hts) (by omega)) (fun ch ⟨x,hx1,hx2⟩ => ⟨rfl,rfl,x,pV hts hx1,hx2,fun w2 hw2 => ⟨_,_,rfl,hw2.sel [2,1] (by decide)⟩⟩) (fun j hj => dn (us := zSt) rfl hj.2.1 hj.2.2 eO (.s (.s (.s (.s .z)))) rfl rfl rfl (triL_nilN (ae ?_)))))))))))))
   have hjc := ml hlg.1 (hsel ts hts) hj.1
   refine aa (ai rfl rfl (eX (first := []) (cap := []) [] [pC b19 ⟨g,0,none⟩ c9 ts j.us 0] [stC j.bl j.s j.cs,row (.slice (some ⟨g,0,none⟩) ts.length c9) 62 3 ts.length (toksV ts),box b3 46 [.nilIface],box b2 37 j.cs] [b19] rfl rfl rfl rfl Tryz.call46 aB ay (fun w1 h1 h2 => lT [59] b19 ⟨g,0,none⟩ c9 ts j.us 0 w1 ⟨⟨RdS.row (.s (.s .z)) w1 h1,h1.neB (.s (.s .z)) .z (by decide) rfl,hlc,by have := hlg.2.2; omega,hlg.2.1⟩,hjc.1,hjc.2,Nat.zero_le _,h2⟩) (fun ch hF => hF.elim) (fun u_ hu_ => triL_nilN (ae (ae (tri_slo [(6,_),(2,_),(3,_)] rfl ?_))))))
   have hend := pW hts hj.1
   obtain ⟨V,hV⟩ : ∃ V,V = (if atT 4 [59] j.us = true then j.us.drop 1 else j.us) := ⟨_,rfl⟩
   have hVc : Cuts ts V := by
    rw [hV]
    by_cases hh : atT 4 [59] j.us = true
    · rw [if_pos hh]; exact bJ hjc (by decide) hh
    · rw [if_neg hh]; exact hjc
   rw [← hV] at hend ⊢
   have hle2 := hVc.1.length_le
   have hVn := hVc.2.ne
   have hRV : ∀ cx H i,Nth H i (row (.slice (some ⟨g,0,none⟩) ts.length c9) 62 3 ts.length (toksV ts)) → RdS cx H (some ((⟨g,0,none⟩ : Addr).add ((ts.length - V.length) * 3))) (toksV V) := fun cx H i hn w2 hs2 => row_suf (RdS.row hn w2 hs2) hVc.1
   refine aa (ai rfl rfl (aE rfl rfl (aj cQ rfl rfl (ak e6 N0 rfl rfl rfl (aT Tryz.underlying58 dU rfl rfl rfl (hRV _ _ _ (.s (.s .z))) (by omega) (by omega) (bN _) (by decide) (aO fO rfl rfl (hRV _ _ _ (.s (.s .z))) (hd_k hVc.2) (aH bK rfl rfl (hRV _ _ _ (.s (.s .z))) (hd_k hVc.2) (cw rfl rfl rfl (triL_nilN (ar rfl (fun h5 => ?_) (fun h5 => ?_)))))))))))
   · skip
     have h5 : ¬ (hd V).k = 5 := h5
     refine tri_slo [(6,_),(2,_),(3,_)] rfl (aa (ai rfl rfl (eX (first := []) (cap := []) [] [pC b19 ⟨g,0,none⟩ c9 ts V 0] [stC j.bl j.s j.cs,row (.slice (some ⟨g,0,none⟩) ts.length c9) 62 3 ts.length (toksV ts),box b3 46 [.nilIface],box b2 37 j.cs] [b19] rfl rfl rfl rfl Tryz.call47 aB ay (fun w1 h1 h2 => i8 190 b19 ⟨g,0,none⟩ c9 ts V 0 w1 ⟨⟨RdS.row (.s (.s .z)) w1 h1,h1.neB (.s (.s .z)) .z (by decide) rfl,hlc,by have := hlg.2.2; omega,hlg.2.1⟩,hVc.1,hVc.2,Nat.zero_le _,h2⟩) (fun ch hF => ⟨rfl,rfl,_,hend.trans (if_neg h5),hF,fun w2 hw2 => ⟨_,_,hj.2.1,hw2.sel [3,2] (by decide)⟩⟩) (fun u hu => hu.elim))))
   · skip
     have h5 : (hd V).k = 5 := Decidable.not_not.1 h5
     exact an (ag (ae (tri_slo [(2,_),(3,_)] rfl (aa (rb hj.2.1 fq eO (.s (.s (.s (.s .z)))) rfl rfl (dn hj.2.1 hj.2.1 hj.2.2 eO (.s (.s (.s (.s .z)))) rfl rfl rfl (aI sz46 N3 rfl rfl rfl rfl rfl (Nat.le_of_ble_eq_true rfl) rfl (triL_nilN (aq (⟨rfl,rfl,j,hend.trans (if_pos h5),hj.2,fun w2 hw2 => hw2.sel [4,3,1] (by decide)⟩))))))))))
end Go.Proofs.YtjbpkcbefmpfgaaGreatDoor
namespace Go.Proofs.YtjbpkcbefmpfgaaGreatDoor
open Go.WK Go.RowKit 
theorem qx : bs Tryz.prog 27 0 = some 0 := by kernel_rfl
theorem nV : fU Tryz.prog 27 = some oz := by kernel_rfl
theorem nW : bs Tryz.prog 27 2 = some 2 := by kernel_rfl
theorem ku : bs Tryz.prog 27 1 = some 1 := by kernel_rfl
theorem agg2 : cu Tryz.prog 2 = some false := by kernel_rfl
def fit (v : Val) : Prop := v.ok ∧ v.s.length ≤ 140737488355328
theorem mayK (v : Val) (w : World) (f : fit v) : Calls Tryz.prog 71 #[kF v] w (cj w (.bool (may v))) := by
 refine ax (args := [kF v]) (lent := []) (H := []) Tryz.func71 rfl Tryz.ntmps71 rfl (Sat.start _ _ _ _) ((show Tri _ [(0,_)] _ _ _ from ?_))
 have hs := f.2
 have e64 : decide ((v.s.length : Int) ≤ 64) = decide (v.s.length ≤ 64) := le_dec _ 64
 refine ae (aa (cl (Val.cs _) rfl rfl rfl (fun b1 => o_assignN rfl rfl (ae (ae (aa (aj qx rfl rfl (ak bK N0 rfl rfl rfl (triL_nilN (av (ae (aa (az rfl rfl rfl (o_assignN rfl rfl (ar rfl (fun h1 => ?_) (fun h1 => ?_))))))))))))))))
 · skip
   refine ae (tri_slo [(1,_)] rfl (aa (jA ja kJ N0 rfl rfl (aS lW rfl rfl (o_eqlV nV rfl rfl rfl (o_assignN rfl rfl (aq (ap (am (aW rfl rfl ?_)))))))))); exact fun w1 hw1 => ⟨congrArg (fun b => Ending.returned (.bool b)) (by simp [may,jz, *]),hw1.chg⟩
 · skip
   refine ae (tri_slo [(4,_),(1,_)] rfl (aa (az rfl rfl rfl (o_assignN rfl rfl (ar rfl (fun h2 => ?_) (fun h2 => ?_))))))
   · skip
     refine ae (aa (aj nW rfl rfl (ak bn N0 rfl rfl rfl (bz rfl rfl rfl (o_assignN rfl rfl (aq (ap (am (aW rfl rfl ?_))))))))); exact fun w1 hw1 => ⟨congrArg (fun b => Ending.returned (.bool b)) (by simp [may, *]),hw1.chg⟩
   · skip
     refine ae (aa (az rfl rfl rfl (o_assignN rfl rfl (ar rfl (fun h3 => ?_) (fun h3 => ?_)))))
     · skip
       refine ae (tri_slo [(1,_)] rfl (aa (aj ku rfl rfl (ak agg2 N0 rfl rfl rfl (az rfl rfl rfl (ai rfl rfl ?_))))))
       refine' aD [_,_,_,_] [] (dj := 20) (dr := 24) rfl rfl (fun g1 => ?_) ⟨_,rfl,rfl,rfl,(.nil _)⟩ rfl ?_
       rotate_left
       · skip
         have g1 := of_decide_eq_true g1
         exact aj nW rfl rfl (ak bn N0 rfl rfl rfl (eI Tryz.underlying9 rfl rfl (iW rfl rfl rfl (ab (Piece.mk rfl rfl (.nil _) (fun _ h => h))))))
       refine o_assignN rfl rfl (aq (ap (am (aW rfl rfl ?_)))); exact fun w1 hw1 => ⟨congrArg (fun b => Ending.returned (.bool b)) (by simp [may, *]),hw1.chg⟩
     · skip
       refine ae (tri_slo [(4,_),(1,_)] rfl (aa (az rfl rfl rfl (o_assignN rfl rfl (ar rfl (fun h4 => ?_) (fun h4 => ?_))))))
       · skip
         refine ae (aa (aj nW rfl rfl (ak bn N0 rfl rfl rfl (bz rfl rfl rfl (ai rfl rfl ?_)))))
         refine' aD [_,_,_,_,_,_,_,_] [] (dj := 31) (dr := 39) rfl rfl (fun g2 => ?_) ⟨_,rfl,rfl,rfl,(.nil _)⟩ rfl ?_
         rotate_left
         · skip
           have g2 := of_decide_eq_true g2
           refine aj ku rfl rfl (ak agg2 N0 rfl rfl rfl (az rfl rfl rfl (ai rfl rfl ?_)))
           refine' bd [_,_,_] [(31,_)] (dj := 35) (dr := 38) rfl rfl (fun g3 => ?_) ⟨_,rfl,rfl,rfl,(.cons rfl (.nil _))⟩ rfl ?_
           rotate_left
           · skip
             have g3 := of_decide_eq_false g3
             exact aj ku rfl rfl (ak agg2 N0 rfl rfl rfl (az rfl rfl rfl (ab (Piece.mk rfl rfl (.cons rfl (.nil _)) (fun _ h => h)))))
           exact ab (Piece.mk rfl rfl (.nil _) (fun _ h => h))
         refine o_assignN rfl rfl (aq (ap (am (aW rfl rfl ?_)))); exact fun w1 hw1 => ⟨congrArg (fun b => Ending.returned (.bool b)) (by simp [may, *]),hw1.chg⟩
       · skip
         refine an (ao (ag (ae (aw [] (.nil _) (aa (o_assignN rfl rfl (aq (aW rfl rfl ?_)))))))); exact fun w1 hw1 => ⟨congrArg (fun b => Ending.returned (.bool b)) (by simp [may, *]),hw1.chg⟩
theorem nIn {v : Val} (h : fit v) : inR v.n = true := iM.2 h.1.2
theorem printK (v : Val) (w : World) (f : fit v) (hL : LV w) : Calls Tryz.prog 58 #[kF v] w (cj w (.tuple #[.string (B (prV v).1),.int .i64 (prV v).2])) := by
 refine ax (args := [kF v]) (lent := []) (H := []) Tryz.func58 rfl Tryz.ntmps58 rfl (Sat.start _ _ _ _) ((show Tri _ [(0,_)] _ _ _ from ?_))
 have fs := f.2
 refine ae (aa (cl (Val.cs _) rfl rfl rfl (fun b1 => aG rfl rfl (o_assignN rfl rfl (ae (ae (aa (jA ja kJ N0 rfl rfl (aA (first := []) (cap := []) rfl rfl rfl Tryz.call71 (fun w_ hw_ => mayK _ w_ (by assumption)) (cZ rfl rfl (triL_nilN (aF rfl (fun h0 => ?_) (fun h0 => ?_)))))))))))))
 · skip
   have h0 : ¬ may v = true := by simpa using h0
   refine ae (aw [] (.nil _) (aa (aG rfl rfl (o_assignN rfl rfl (aq (am (hU rfl rfl rfl ?_))))))); exact fun w1 hw1 => ⟨by have e : prV v = ([],5) := (by rw [prV,if_neg h0]); rw [e] <;> rfl,hw1.chg⟩
 · skip
   have h0 : may v = true := by simpa using h0
   refine an (ag (ae (ae (tri_slo [(1,_)] rfl (aa (aj qx rfl rfl (ak bK N0 rfl rfl rfl (triL_nilN (av (ae (aa (az rfl rfl rfl (o_assignN rfl rfl (ar rfl (fun k1 => ?_) (fun k1 => ?_)))))))))))))))
   · skip
     refine ae (tri_slo [(1,_)] rfl (aa (aj ku rfl rfl (ak agg2 N0 rfl rfl rfl (aA (first := []) (cap := []) rfl rfl rfl Tryz.call115 (fun w1 h1 => qv v.n w1 (nIn f) (hL.chg h1.chg)) (aG rfl rfl (o_assignN rfl rfl (aq (ap (am (hU rfl rfl rfl ?_))))))))))); exact fun w1 hw1 => ⟨by have e : prV v = (Lib.itoa v.n,0) := (by rw [prV,if_pos h0,if_pos k1]); rw [e] <;> rfl,hw1.chg⟩
   · skip
     refine ae (aa (az rfl rfl rfl (o_assignN rfl rfl (ar rfl (fun k2 => ?_) (fun k2 => ?_)))))
     · skip
       have ht := may_text h0 k2
       have hd := nq v.s
       refine ae (tri_slo [(1,_)] rfl (aa (aj nW rfl rfl (ak bn N0 rfl rfl rfl (aA (first := []) (cap := []) rfl rfl rfl Tryz.call116 (fun w1 h1 => lib_dbl v.s w1 (by omega) (hL.chg h1.chg)) (mu rfl rfl rfl (by simp only [List.length_cons,List.length_nil]; omega) (mu rfl rfl rfl (by simp only [List.length_append,List.length_cons,List.length_nil]; omega) (aG rfl rfl (o_assignN rfl rfl (aq (ap (am (hU rfl rfl rfl ?_))))))))))))); exact fun w1 hw1 => ⟨by have e : prV v = (39 :: (dbl v.s ++ [39]),0) := (by rw [prV,if_pos h0,if_neg k1,if_pos k2]); rw [e] <;> rfl,hw1.chg⟩
     · skip
       refine ae (tri_slo [(8,_),(1,_)] rfl (aa (az rfl rfl rfl (o_assignN rfl rfl (ar rfl (fun k3 => ?_) (fun k3 => ?_))))))
       · skip
         refine ae (ae (aa (aj ku rfl rfl (ak agg2 N0 rfl rfl rfl (az rfl rfl rfl (triL_nilN (ar rfl (fun k4 => ?_) (fun k4 => ?_))))))))
         · skip
           refine ae (aw [] (.nil _) (aa (aG rfl rfl (o_assignN rfl rfl (aq (am (ap (am (hU rfl rfl rfl ?_))))))))); exact fun w1 hw1 => ⟨by have e : prV v = ([116,114,117,101],0) := (by rw [prV,if_pos h0,if_neg k1,if_neg k2,if_pos k3,if_pos k4]); rw [e] <;> rfl,hw1.chg⟩
         · skip
           refine an (ag (ae (aw [] (.nil _) (aa (aG rfl rfl (o_assignN rfl rfl (aq (ap (am (hU rfl rfl rfl ?_)))))))))); exact fun w1 hw1 => ⟨by have e : prV v = ([102,97,108,115,101],0) := (by rw [prV,if_pos h0,if_neg k1,if_neg k2,if_pos k3,if_neg k4]); rw [e] <;> rfl,hw1.chg⟩
       · skip
         refine an (ao (ag (ae (aw [] (.nil _) (aa (aG rfl rfl (o_assignN rfl rfl (aq (hU rfl rfl rfl ?_))))))))); exact fun w1 hw1 => ⟨by have e : prV v = ([110,117,108,108],0) := (by rw [prV,if_pos h0,if_neg k1,if_neg k2,if_neg k3]); rw [e] <;> rfl,hw1.chg⟩
end Go.Proofs.YtjbpkcbefmpfgaaGreatDoor
namespace Go.Proofs.YtjbpkcbefmpfgaaGreatDoor
open Go.WK Go.RowKit 
theorem nX : bs Tryz.prog 67 0 = some 0 := by kernel_rfl
theorem agg65 : cu Tryz.prog 65 = some false := by kernel_rfl
theorem sz65 : szB Tryz.prog 65 = some 1 := by kernel_rfl
theorem qy : bs Tryz.prog 67 1 = some 1 := by kernel_rfl
theorem qA : bs Tryz.prog 67 2 = some 2 := by kernel_rfl
theorem qB : (Tryz.prog.info? 176).map (fun i => (i.zero,i.size,i.bytes)) = some (some (.agg #[.int .i64 0,.string .empty,.int .i64 0]),3,32) := by kernel_rfl
theorem cL (ss : List (List UInt8)) (X : Option Addr) (cx0 : Nat) (pb : Nat) (A : Option Addr) (c : Nat) (l : List UInt8) (d m : Int) (w : World) (hP : fw w pb A c l d m) (hx : Rd w X (dP ss)) (hxn : ∀ a,X = some a → a.block ∉ prL pb A) (hb : l.length + ss.flatten.length ≤ 70368744177664) (hs : ss.length ≤ 1000) : Calls Tryz.prog 20 #[.pointer (some ⟨pb,0,none⟩),.slice X ss.length cx0] w (PrT w pb A (l ++ ss.flatten) (d) (m)) := by
 refine ax (args := [.pointer (some ⟨pb,0,none⟩),.slice X ss.length cx0]) (lent := prL pb A) (H := prD pb A c l d m) Tryz.func20 rfl Tryz.ntmps20 rfl (Sat.cx hP) ((show Tri _ [(0,_),(1,_)] _ _ _ from ?_))
 have hX : ∀ cx H,cx.w0 = w → cx.lent = prL pb A → RdS cx H X (dP ss) := fun cx H q1 q2 => RdS.lent (by rw [q1]; exact hx) (fun b hb => by rw [q2]; exact hxn b hb)
 refine ae (aa (ai rfl rfl (aU Tryz.underlying23 rfl rfl (ai rfl rfl (triL_nilN (av (bC (ι := Nat × Option Addr × Nat) (F := fun i => [(0,.pointer (some ⟨pb,0,none⟩)),(6,.slice X ss.length cx0),(7,.int .i64 (ss.length : Int)),(8,.int .i64 (i.1 : Int))]) (HH := fun i => prD pb i.2.1 i.2.2 (l ++ (ss.take i.1).flatten) d m) (Pu := fun i => i.1 ≤ ss.length) (μ := fun i => ss.length - i.1) ((0,A,c)) (.cons rfl (.cons rfl (.cons rfl (.cons rfl (.nil _))))) (fun w2 hw2 => by simpa using hw2) (Nat.zero_le _) (fun i hi => ae (aa (cv rfl rfl rfl (triL_nilN (ae (ar rfl (fun h0 => ?_) (fun h0 => ?_))))))))))))))
 · skip
   have hil : i.1 < ss.length := by omega
   refine an (ag (ae (av (ae (aa (aT Tryz.underlying23 sz9 rfl rfl rfl (hX _ _ rfl rfl) (by omega) (by omega) (by rw [nk]; omega) (by decide) (aH bn rfl rfl (hX _ _ rfl rfl) (r3 ss i.1 _ (by omega) hil) (o_assignN rfl rfl ?_))))))))
   have hfl := flat_le ss i.1 hil
   refine aa (ai rfl rfl (ai rfl rfl (aE rfl rfl (aj nX rfl rfl (ak agg65 N0 rfl rfl rfl (ai rfl rfl (sj Tryz.underlying65 Tryz.underlying9 zsb5 (.s .z) rfl rfl rfl (by simp only [List.length_append]; omega) (fun A18 c18 => aE rfl rfl (aj nX rfl rfl (aI sz65 N0 rfl rfl rfl rfl rfl (Nat.le_of_ble_eq_true rfl) rfl (ab (ao (ag (tri_slo [(0,_),(6,_),(7,_),(8,_)] rfl (aa (bD rfl rfl rfl (by omega) (ai rfl rfl (triL_nilN ?_))))))))))))))))))
   exact ⟨(i.1 + 1,A18,c18),(.cons rfl (.cons rfl (.cons rfl (.cons rfl (.nil _))))),(fun w2 hw2 => by
 show Sat _ (prD pb A18 c18 (l ++ (ss.take (i.1 + 1)).flatten) d m) w2
 rw [mK ss i.1 hil, ← List.append_assoc]
 have e := prD_app (H := []) hw2
 simpa using e),by simp only; omega,(by simp only; omega)⟩
 · skip
   exact bg (au (au (aK (bX rfl (bj (J := Option Addr × Nat) ((i.2.1,i.2.2)) rfl trivial (fun w2 hw2 => bO (by rw [List.take_of_length_le (by omega)]) rfl rfl hw2))))))
theorem l0 (n : Int) (pb : Nat) (A : Option Addr) (c : Nat) (l : List UInt8) (d m : Int) (w : World) (hP : fw w pb A c l d m) (hn : -1 ≤ n ∧ n ≤ 1) (hd : 0 ≤ d ∧ d ≤ 140737488355328) : Calls Tryz.prog 57 #[.pointer (some ⟨pb,0,none⟩),.int .i64 n] w (PrT w pb A (l) (d + n) (max m (d + n))) := by
 refine ax (args := [.pointer (some ⟨pb,0,none⟩),.int .i64 n]) (lent := prL pb A) (H := prD pb A c l d m) Tryz.func57 rfl Tryz.ntmps57 rfl (Sat.cx hP) ((show Tri _ [(0,_),(1,_)] _ _ _ from ae (aa (ai rfl rfl (aE rfl rfl (aj qy rfl rfl (ak bK N0 rfl rfl rfl (ai rfl rfl (bD rfl rfl rfl (by omega) (aE rfl rfl (aj qy rfl rfl (aI sz3 N0 rfl rfl rfl rfl rfl (Nat.le_of_ble_eq_true rfl) rfl (triL_nilN (tri_slo [(0,_)] rfl (bo (_) [(0,true),(1,true),(2,true),(3,true),(4,true),(5,true),(6,true),(7,true),(8,true),(9,true),(10,false),(11,false),(12,false)] [10,11,12] (by kernel_rfl) (by kernel_rfl) (fun _ h => h) (ah rfl (ai rfl rfl (ab ⟨rfl,ah rfl (ai rfl rfl (ab ⟨rfl,ah rfl (aE rfl rfl (ab ⟨rfl,ah rfl (aj qA rfl rfl (ab ⟨rfl,ah rfl (ak bK N0 rfl rfl rfl (ab ⟨rfl,ah rfl (ai rfl rfl (ab ⟨rfl,ah rfl (aE rfl rfl (ab ⟨rfl,ah rfl (aj qy rfl rfl (ab ⟨rfl,ah rfl (ak bK N0 rfl rfl rfl (ab ⟨rfl,ah rfl (o_max rfl rfl rfl (ab ⟨rfl,(bE [10,11,12] [_,_,_] rfl rfl (aE rfl rfl (aj qA rfl rfl (aI sz3 N0 rfl rfl rfl rfl rfl (Nat.le_of_ble_eq_true rfl) rfl ?_))))⟩))⟩))⟩))⟩))⟩))⟩))⟩))⟩))⟩))⟩)))))))))))))))))); exact ab ⟨rfl,(bX rfl (bj (J := Option Addr × Nat) ((A,c)) rfl trivial (fun w2 hw2 => hw2)))⟩
set_option maxHeartbeats 2000000 in
theorem levelK (o : Int) (w : World)  : Calls Tryz.prog 56 #[.int .i64 o] w (cj w (.int .i64 (lvl o))) := by
 refine ax (args := [.int .i64 o]) (lent := []) (H := []) Tryz.func56 rfl Tryz.ntmps56 rfl (Sat.start _ _ _ _) ((show Tri _ [(0,_)] _ _ _ from ae (aa (o_assignN rfl rfl (ae (ae (aa (ai rfl rfl (triL_nilN (av (ae (aa (az rfl rfl rfl (o_assignN rfl rfl (ar rfl (fun h1 => ?_) (fun h1 => ?_))))))))))))))))
 · skip
   refine ae (aw [] (.nil _) (aa (o_assignN rfl rfl (aq (ap (am (aW rfl rfl ?_))))))); exact fun w1 hw1 => ⟨congrArg (fun b => Ending.returned (.int .i64 b)) (by unfold lvl; (repeat' split) <;> omega),hw1.chg⟩
 · skip
   refine ae (tri_slo [(3,_)] rfl (aa (az rfl rfl rfl (o_assignN rfl rfl (ar rfl (fun h2 => ?_) (fun h2 => ?_))))))
   · skip
     refine ae (aa (o_assignN rfl rfl (aq (ap (am (aW rfl rfl ?_)))))); exact fun w1 hw1 => ⟨congrArg (fun b => Ending.returned (.int .i64 b)) (by unfold lvl; (repeat' split) <;> omega),hw1.chg⟩
   · skip
     refine ae (aa (az rfl rfl rfl (o_assignN rfl rfl (ar rfl (fun h3 => ?_) (fun h3 => ?_)))))
     · skip
       refine ae (aw [] (.nil _) (aa (o_assignN rfl rfl (aq (ap (am (aW rfl rfl ?_))))))); exact fun w1 hw1 => ⟨congrArg (fun b => Ending.returned (.int .i64 b)) (by unfold lvl; (repeat' split) <;> omega),hw1.chg⟩
     · skip
       refine ae (ae (tri_slo [(3,_)] rfl (aa (az rfl rfl rfl (o_assignN rfl rfl (ar rfl (fun h4 => ?_) (fun h4 => ?_)))))))
       · skip
         refine an (ag (ar rfl (fun h5 => ?_) (fun h5 => ?_)))
         · skip
           refine ae (aa (o_assignN rfl rfl (aq (ap (am (aW rfl rfl ?_)))))); exact fun w1 hw1 => ⟨congrArg (fun b => Ending.returned (.int .i64 b)) (by unfold lvl; (repeat' split) <;> omega),hw1.chg⟩
         · skip
           refine ae (ae (aa (az rfl rfl rfl (o_assignN rfl rfl (ar rfl (fun h6 => ?_) (fun h6 => ?_))))))
           · skip
             refine an (ag (ar rfl (fun h7 => ?_) (fun h7 => ?_)))
             · skip
               refine ae (aw [] (.nil _) (aa (o_assignN rfl rfl (aq (ap (am (aW rfl rfl ?_))))))); exact fun w1 hw1 => ⟨congrArg (fun b => Ending.returned (.int .i64 b)) (by unfold lvl; (repeat' split) <;> omega),hw1.chg⟩
             · skip
               refine ae (tri_slo [(3,_)] rfl (aa (az rfl rfl rfl (o_assignN rfl rfl (ar rfl (fun h8 => ?_) (fun h8 => ?_))))))
               · skip
                 refine ae (aa (o_assignN rfl rfl (aq (ap (am (aW rfl rfl ?_)))))); exact fun w1 hw1 => ⟨congrArg (fun b => Ending.returned (.int .i64 b)) (by unfold lvl; (repeat' split) <;> omega),hw1.chg⟩
               · skip
                 refine ae (ae (aa (az rfl rfl rfl (o_assignN rfl rfl (ar rfl (fun h9 => ?_) (fun h9 => ?_))))))
                 · skip
                   refine an (ag (ar rfl (fun h10 => ?_) (fun h10 => ?_)))
                   · skip
                     refine ae (aw [] (.nil _) (aa (o_assignN rfl rfl (aq (ap (am (aW rfl rfl ?_))))))); exact fun w1 hw1 => ⟨congrArg (fun b => Ending.returned (.int .i64 b)) (by unfold lvl; (repeat' split) <;> omega),hw1.chg⟩
                   · skip
                     refine an (ao (ag (ae (aw [] (.nil _) (aa (o_assignN rfl rfl (aq (aW rfl rfl ?_)))))))); exact fun w1 hw1 => ⟨congrArg (fun b => Ending.returned (.int .i64 b)) (by unfold lvl; (repeat' split) <;> omega),hw1.chg⟩
                 · skip
                   refine tri_slo [(3,_)] rfl (aa (az rfl rfl rfl (o_assignN rfl rfl (ar rfl (fun h11 => ?_) (fun h11 => ?_)))))
                   · skip
                     refine ae (aa (o_assignN rfl rfl (aq (ap (am (aW rfl rfl ?_)))))); exact fun w1 hw1 => ⟨congrArg (fun b => Ending.returned (.int .i64 b)) (by unfold lvl; (repeat' split) <;> omega),hw1.chg⟩
                   · skip
                     refine an (ao (ag (ae (aa (o_assignN rfl rfl (aq (aW rfl rfl ?_))))))); exact fun w1 hw1 => ⟨congrArg (fun b => Ending.returned (.int .i64 b)) (by unfold lvl; (repeat' split) <;> omega),hw1.chg⟩
           · skip
             refine ae (tri_slo [(3,_)] rfl (aa (az rfl rfl rfl (o_assignN rfl rfl (ar rfl (fun h12 => ?_) (fun h12 => ?_))))))
             · skip
               refine an (ag (ar rfl (fun h13 => ?_) (fun h13 => ?_)))
               · skip
                 refine ae (aa (o_assignN rfl rfl (aq (ap (am (aW rfl rfl ?_)))))); exact fun w1 hw1 => ⟨congrArg (fun b => Ending.returned (.int .i64 b)) (by unfold lvl; (repeat' split) <;> omega),hw1.chg⟩
               · skip
                 refine ae (aa (az rfl rfl rfl (o_assignN rfl rfl (ar rfl (fun h14 => ?_) (fun h14 => ?_)))))
                 · skip
                   refine ae (aw [] (.nil _) (aa (o_assignN rfl rfl (aq (ap (am (aW rfl rfl ?_))))))); exact fun w1 hw1 => ⟨congrArg (fun b => Ending.returned (.int .i64 b)) (by unfold lvl; (repeat' split) <;> omega),hw1.chg⟩
                 · skip
                   refine ae (ae (tri_slo [(3,_)] rfl (aa (az rfl rfl rfl (o_assignN rfl rfl (ar rfl (fun h15 => ?_) (fun h15 => ?_)))))))
                   · skip
                     refine an (ag (ar rfl (fun h16 => ?_) (fun h16 => ?_)))
                     · skip
                       refine ae (aa (o_assignN rfl rfl (aq (ap (am (aW rfl rfl ?_)))))); exact fun w1 hw1 => ⟨congrArg (fun b => Ending.returned (.int .i64 b)) (by unfold lvl; (repeat' split) <;> omega),hw1.chg⟩
                     · skip
                       refine an (ao (ag (ae (aa (o_assignN rfl rfl (aq (aW rfl rfl ?_))))))); exact fun w1 hw1 => ⟨congrArg (fun b => Ending.returned (.int .i64 b)) (by unfold lvl; (repeat' split) <;> omega),hw1.chg⟩
                   · skip
                     refine aa (az rfl rfl rfl (o_assignN rfl rfl (ar rfl (fun h17 => ?_) (fun h17 => ?_))))
                     · skip
                       refine ae (aw [] (.nil _) (aa (o_assignN rfl rfl (aq (ap (am (aW rfl rfl ?_))))))); exact fun w1 hw1 => ⟨congrArg (fun b => Ending.returned (.int .i64 b)) (by unfold lvl; (repeat' split) <;> omega),hw1.chg⟩
                     · skip
                       refine an (ao (ag (ae (aw [] (.nil _) (aa (o_assignN rfl rfl (aq (aW rfl rfl ?_)))))))); exact fun w1 hw1 => ⟨congrArg (fun b => Ending.returned (.int .i64 b)) (by unfold lvl; (repeat' split) <;> omega),hw1.chg⟩
             · skip
               refine aa (az rfl rfl rfl (o_assignN rfl rfl (ar rfl (fun h18 => ?_) (fun h18 => ?_))))
               · skip
                 refine ae (aw [] (.nil _) (aa (o_assignN rfl rfl (aq (ap (am (aW rfl rfl ?_))))))); exact fun w1 hw1 => ⟨congrArg (fun b => Ending.returned (.int .i64 b)) (by unfold lvl; (repeat' split) <;> omega),hw1.chg⟩
               · skip
                 refine ae (aa (az rfl rfl rfl (o_assignN rfl rfl (ar rfl (fun h19 => ?_) (fun h19 => ?_)))))
                 · skip
                   refine ae (aw [] (.nil _) (aa (o_assignN rfl rfl (aq (ap (am (aW rfl rfl ?_))))))); exact fun w1 hw1 => ⟨congrArg (fun b => Ending.returned (.int .i64 b)) (by unfold lvl; (repeat' split) <;> omega),hw1.chg⟩
                 · skip
                   refine ae (ae (tri_slo [(3,_)] rfl (aa (az rfl rfl rfl (o_assignN rfl rfl (ar rfl (fun h20 => ?_) (fun h20 => ?_)))))))
                   · skip
                     refine an (ag (ar rfl (fun h21 => ?_) (fun h21 => ?_)))
                     · skip
                       refine ae (aa (o_assignN rfl rfl (aq (ap (am (aW rfl rfl ?_)))))); exact fun w1 hw1 => ⟨congrArg (fun b => Ending.returned (.int .i64 b)) (by unfold lvl; (repeat' split) <;> omega),hw1.chg⟩
                     · skip
                       refine an (ao (ag (ae (aa (o_assignN rfl rfl (aq (aW rfl rfl ?_))))))); exact fun w1 hw1 => ⟨congrArg (fun b => Ending.returned (.int .i64 b)) (by unfold lvl; (repeat' split) <;> omega),hw1.chg⟩
                   · skip
                     refine aa (az rfl rfl rfl (o_assignN rfl rfl (ar rfl (fun h22 => ?_) (fun h22 => ?_))))
                     · skip
                       refine ae (aw [] (.nil _) (aa (o_assignN rfl rfl (aq (ap (am (aW rfl rfl ?_))))))); exact fun w1 hw1 => ⟨congrArg (fun b => Ending.returned (.int .i64 b)) (by unfold lvl; (repeat' split) <;> omega),hw1.chg⟩
                     · skip
                       refine an (ao (ag (ae (aw [] (.nil _) (aa (o_assignN rfl rfl (aq (aW rfl rfl ?_)))))))); exact fun w1 hw1 => ⟨congrArg (fun b => Ending.returned (.int .i64 b)) (by unfold lvl; (repeat' split) <;> omega),hw1.chg⟩
       · skip
         refine ae (aa (az rfl rfl rfl (o_assignN rfl rfl (ar rfl (fun h23 => ?_) (fun h23 => ?_)))))
         · skip
           refine an (ag (ar rfl (fun h24 => ?_) (fun h24 => ?_)))
           · skip
             refine ae (aw [] (.nil _) (aa (o_assignN rfl rfl (aq (ap (am (aW rfl rfl ?_))))))); exact fun w1 hw1 => ⟨congrArg (fun b => Ending.returned (.int .i64 b)) (by unfold lvl; (repeat' split) <;> omega),hw1.chg⟩
           · skip
             refine ae (ae (aa (az rfl rfl rfl (o_assignN rfl rfl (ar rfl (fun h25 => ?_) (fun h25 => ?_))))))
             · skip
               refine an (ag (ar rfl (fun h26 => ?_) (fun h26 => ?_)))
               · skip
                 refine ae (aw [] (.nil _) (aa (o_assignN rfl rfl (aq (ap (am (aW rfl rfl ?_))))))); exact fun w1 hw1 => ⟨congrArg (fun b => Ending.returned (.int .i64 b)) (by unfold lvl; (repeat' split) <;> omega),hw1.chg⟩
               · skip
                 refine ae (tri_slo [(3,_)] rfl (aa (az rfl rfl rfl (o_assignN rfl rfl (ar rfl (fun h27 => ?_) (fun h27 => ?_))))))
                 · skip
                   refine ae (aa (o_assignN rfl rfl (aq (ap (am (aW rfl rfl ?_)))))); exact fun w1 hw1 => ⟨congrArg (fun b => Ending.returned (.int .i64 b)) (by unfold lvl; (repeat' split) <;> omega),hw1.chg⟩
                 · skip
                   refine ae (ae (aa (az rfl rfl rfl (o_assignN rfl rfl (ar rfl (fun h28 => ?_) (fun h28 => ?_))))))
                   · skip
                     refine an (ag (ar rfl (fun h29 => ?_) (fun h29 => ?_)))
                     · skip
                       refine ae (aw [] (.nil _) (aa (o_assignN rfl rfl (aq (ap (am (aW rfl rfl ?_))))))); exact fun w1 hw1 => ⟨congrArg (fun b => Ending.returned (.int .i64 b)) (by unfold lvl; (repeat' split) <;> omega),hw1.chg⟩
                     · skip
                       refine an (ao (ag (ae (aw [] (.nil _) (aa (o_assignN rfl rfl (aq (aW rfl rfl ?_)))))))); exact fun w1 hw1 => ⟨congrArg (fun b => Ending.returned (.int .i64 b)) (by unfold lvl; (repeat' split) <;> omega),hw1.chg⟩
                   · skip
                     refine tri_slo [(3,_)] rfl (aa (az rfl rfl rfl (o_assignN rfl rfl (ar rfl (fun h30 => ?_) (fun h30 => ?_)))))
                     · skip
                       refine ae (aa (o_assignN rfl rfl (aq (ap (am (aW rfl rfl ?_)))))); exact fun w1 hw1 => ⟨congrArg (fun b => Ending.returned (.int .i64 b)) (by unfold lvl; (repeat' split) <;> omega),hw1.chg⟩
                     · skip
                       refine an (ao (ag (ae (aa (o_assignN rfl rfl (aq (aW rfl rfl ?_))))))); exact fun w1 hw1 => ⟨congrArg (fun b => Ending.returned (.int .i64 b)) (by unfold lvl; (repeat' split) <;> omega),hw1.chg⟩
             · skip
               refine ae (tri_slo [(3,_)] rfl (aa (az rfl rfl rfl (o_assignN rfl rfl (ar rfl (fun h31 => ?_) (fun h31 => ?_))))))
               · skip
                 refine an (ag (ar rfl (fun h32 => ?_) (fun h32 => ?_)))
                 · skip
                   refine ae (aa (o_assignN rfl rfl (aq (ap (am (aW rfl rfl ?_)))))); exact fun w1 hw1 => ⟨congrArg (fun b => Ending.returned (.int .i64 b)) (by unfold lvl; (repeat' split) <;> omega),hw1.chg⟩
                 · skip
                   refine ae (aa (az rfl rfl rfl (o_assignN rfl rfl (ar rfl (fun h33 => ?_) (fun h33 => ?_)))))
                   · skip
                     refine ae (aw [] (.nil _) (aa (o_assignN rfl rfl (aq (ap (am (aW rfl rfl ?_))))))); exact fun w1 hw1 => ⟨congrArg (fun b => Ending.returned (.int .i64 b)) (by unfold lvl; (repeat' split) <;> omega),hw1.chg⟩
                   · skip
                     refine ae (ae (tri_slo [(3,_)] rfl (aa (az rfl rfl rfl (o_assignN rfl rfl (ar rfl (fun h34 => ?_) (fun h34 => ?_)))))))
                     · skip
                       refine an (ag (ar rfl (fun h35 => ?_) (fun h35 => ?_)))
                       · skip
                         refine ae (aa (o_assignN rfl rfl (aq (ap (am (aW rfl rfl ?_)))))); exact fun w1 hw1 => ⟨congrArg (fun b => Ending.returned (.int .i64 b)) (by unfold lvl; (repeat' split) <;> omega),hw1.chg⟩
                       · skip
                         refine an (ao (ag (ae (aa (o_assignN rfl rfl (aq (aW rfl rfl ?_))))))); exact fun w1 hw1 => ⟨congrArg (fun b => Ending.returned (.int .i64 b)) (by unfold lvl; (repeat' split) <;> omega),hw1.chg⟩
                     · skip
                       refine aa (az rfl rfl rfl (o_assignN rfl rfl (ar rfl (fun h36 => ?_) (fun h36 => ?_))))
                       · skip
                         refine ae (aw [] (.nil _) (aa (o_assignN rfl rfl (aq (ap (am (aW rfl rfl ?_))))))); exact fun w1 hw1 => ⟨congrArg (fun b => Ending.returned (.int .i64 b)) (by unfold lvl; (repeat' split) <;> omega),hw1.chg⟩
                       · skip
                         refine an (ao (ag (ae (aw [] (.nil _) (aa (o_assignN rfl rfl (aq (aW rfl rfl ?_)))))))); exact fun w1 hw1 => ⟨congrArg (fun b => Ending.returned (.int .i64 b)) (by unfold lvl; (repeat' split) <;> omega),hw1.chg⟩
               · skip
                 refine aa (az rfl rfl rfl (o_assignN rfl rfl (ar rfl (fun h37 => ?_) (fun h37 => ?_))))
                 · skip
                   refine ae (aw [] (.nil _) (aa (o_assignN rfl rfl (aq (ap (am (aW rfl rfl ?_))))))); exact fun w1 hw1 => ⟨congrArg (fun b => Ending.returned (.int .i64 b)) (by unfold lvl; (repeat' split) <;> omega),hw1.chg⟩
                 · skip
                   refine ae (aa (az rfl rfl rfl (o_assignN rfl rfl (ar rfl (fun h38 => ?_) (fun h38 => ?_)))))
                   · skip
                     refine ae (aw [] (.nil _) (aa (o_assignN rfl rfl (aq (ap (am (aW rfl rfl ?_))))))); exact fun w1 hw1 => ⟨congrArg (fun b => Ending.returned (.int .i64 b)) (by unfold lvl; (repeat' split) <;> omega),hw1.chg⟩
                   · skip
                     refine ae (ae (tri_slo [(3,_)] rfl (aa (az rfl rfl rfl (o_assignN rfl rfl (ar rfl (fun h39 => ?_) (fun h39 => ?_)))))))
                     · skip
                       refine an (ag (ar rfl (fun h40 => ?_) (fun h40 => ?_)))
                       · skip
                         refine ae (aa (o_assignN rfl rfl (aq (ap (am (aW rfl rfl ?_)))))); exact fun w1 hw1 => ⟨congrArg (fun b => Ending.returned (.int .i64 b)) (by unfold lvl; (repeat' split) <;> omega),hw1.chg⟩
                       · skip
                         refine an (ao (ag (ae (aa (o_assignN rfl rfl (aq (aW rfl rfl ?_))))))); exact fun w1 hw1 => ⟨congrArg (fun b => Ending.returned (.int .i64 b)) (by unfold lvl; (repeat' split) <;> omega),hw1.chg⟩
                     · skip
                       refine aa (az rfl rfl rfl (o_assignN rfl rfl (ar rfl (fun h41 => ?_) (fun h41 => ?_))))
                       · skip
                         refine ae (aw [] (.nil _) (aa (o_assignN rfl rfl (aq (ap (am (aW rfl rfl ?_))))))); exact fun w1 hw1 => ⟨congrArg (fun b => Ending.returned (.int .i64 b)) (by unfold lvl; (repeat' split) <;> omega),hw1.chg⟩
                       · skip
                         refine an (ao (ag (ae (aw [] (.nil _) (aa (o_assignN rfl rfl (aq (aW rfl rfl ?_)))))))); exact fun w1 hw1 => ⟨congrArg (fun b => Ending.returned (.int .i64 b)) (by unfold lvl; (repeat' split) <;> omega),hw1.chg⟩
         · skip
           refine aa (az rfl rfl rfl (o_assignN rfl rfl (ar rfl (fun h42 => ?_) (fun h42 => ?_))))
           · skip
             refine ae (aw [] (.nil _) (aa (o_assignN rfl rfl (aq (ap (am (aW rfl rfl ?_))))))); exact fun w1 hw1 => ⟨congrArg (fun b => Ending.returned (.int .i64 b)) (by unfold lvl; (repeat' split) <;> omega),hw1.chg⟩
           · skip
             refine ae (ae (tri_slo [(3,_)] rfl (aa (az rfl rfl rfl (o_assignN rfl rfl (ar rfl (fun h43 => ?_) (fun h43 => ?_)))))))
             · skip
               refine an (ag (ar rfl (fun h44 => ?_) (fun h44 => ?_)))
               · skip
                 refine ae (aa (o_assignN rfl rfl (aq (ap (am (aW rfl rfl ?_)))))); exact fun w1 hw1 => ⟨congrArg (fun b => Ending.returned (.int .i64 b)) (by unfold lvl; (repeat' split) <;> omega),hw1.chg⟩
               · skip
                 refine ae (aa (az rfl rfl rfl (o_assignN rfl rfl (ar rfl (fun h45 => ?_) (fun h45 => ?_)))))
                 · skip
                   refine ae (aw [] (.nil _) (aa (o_assignN rfl rfl (aq (ap (am (aW rfl rfl ?_))))))); exact fun w1 hw1 => ⟨congrArg (fun b => Ending.returned (.int .i64 b)) (by unfold lvl; (repeat' split) <;> omega),hw1.chg⟩
                 · skip
                   refine ae (ae (tri_slo [(3,_)] rfl (aa (az rfl rfl rfl (o_assignN rfl rfl (ar rfl (fun h46 => ?_) (fun h46 => ?_)))))))
                   · skip
                     refine an (ag (ar rfl (fun h47 => ?_) (fun h47 => ?_)))
                     · skip
                       refine ae (aa (o_assignN rfl rfl (aq (ap (am (aW rfl rfl ?_)))))); exact fun w1 hw1 => ⟨congrArg (fun b => Ending.returned (.int .i64 b)) (by unfold lvl; (repeat' split) <;> omega),hw1.chg⟩
                     · skip
                       refine an (ao (ag (ae (aa (o_assignN rfl rfl (aq (aW rfl rfl ?_))))))); exact fun w1 hw1 => ⟨congrArg (fun b => Ending.returned (.int .i64 b)) (by unfold lvl; (repeat' split) <;> omega),hw1.chg⟩
                   · skip
                     refine aa (az rfl rfl rfl (o_assignN rfl rfl (ar rfl (fun h48 => ?_) (fun h48 => ?_))))
                     · skip
                       refine ae (aw [] (.nil _) (aa (o_assignN rfl rfl (aq (ap (am (aW rfl rfl ?_))))))); exact fun w1 hw1 => ⟨congrArg (fun b => Ending.returned (.int .i64 b)) (by unfold lvl; (repeat' split) <;> omega),hw1.chg⟩
                     · skip
                       refine an (ao (ag (ae (aw [] (.nil _) (aa (o_assignN rfl rfl (aq (aW rfl rfl ?_)))))))); exact fun w1 hw1 => ⟨congrArg (fun b => Ending.returned (.int .i64 b)) (by unfold lvl; (repeat' split) <;> omega),hw1.chg⟩
             · skip
               refine ae (aa (az rfl rfl rfl (o_assignN rfl rfl (ar rfl (fun h49 => ?_) (fun h49 => ?_)))))
               · skip
                 refine an (ag (ar rfl (fun h50 => ?_) (fun h50 => ?_)))
                 · skip
                   refine ae (aw [] (.nil _) (aa (o_assignN rfl rfl (aq (ap (am (aW rfl rfl ?_))))))); exact fun w1 hw1 => ⟨congrArg (fun b => Ending.returned (.int .i64 b)) (by unfold lvl; (repeat' split) <;> omega),hw1.chg⟩
                 · skip
                   refine ae (aa (az rfl rfl rfl (o_assignN rfl rfl (ar rfl (fun h51 => ?_) (fun h51 => ?_)))))
                   · skip
                     refine ae (aw [] (.nil _) (aa (o_assignN rfl rfl (aq (ap (am (aW rfl rfl ?_))))))); exact fun w1 hw1 => ⟨congrArg (fun b => Ending.returned (.int .i64 b)) (by unfold lvl; (repeat' split) <;> omega),hw1.chg⟩
                   · skip
                     refine ae (ae (tri_slo [(3,_)] rfl (aa (az rfl rfl rfl (o_assignN rfl rfl (ar rfl (fun h52 => ?_) (fun h52 => ?_)))))))
                     · skip
                       refine an (ag (ar rfl (fun h53 => ?_) (fun h53 => ?_)))
                       · skip
                         refine ae (aa (o_assignN rfl rfl (aq (ap (am (aW rfl rfl ?_)))))); exact fun w1 hw1 => ⟨congrArg (fun b => Ending.returned (.int .i64 b)) (by unfold lvl; (repeat' split) <;> omega),hw1.chg⟩
                       · skip
                         refine an (ao (ag (ae (aa (o_assignN rfl rfl (aq (aW rfl rfl ?_))))))); exact fun w1 hw1 => ⟨congrArg (fun b => Ending.returned (.int .i64 b)) (by unfold lvl; (repeat' split) <;> omega),hw1.chg⟩
                     · skip
                       refine aa (az rfl rfl rfl (o_assignN rfl rfl (ar rfl (fun h54 => ?_) (fun h54 => ?_))))
                       · skip
                         refine ae (aw [] (.nil _) (aa (o_assignN rfl rfl (aq (ap (am (aW rfl rfl ?_))))))); exact fun w1 hw1 => ⟨congrArg (fun b => Ending.returned (.int .i64 b)) (by unfold lvl; (repeat' split) <;> omega),hw1.chg⟩
                       · skip
                         refine an (ao (ag (ae (aw [] (.nil _) (aa (o_assignN rfl rfl (aq (aW rfl rfl ?_)))))))); exact fun w1 hw1 => ⟨congrArg (fun b => Ending.returned (.int .i64 b)) (by unfold lvl; (repeat' split) <;> omega),hw1.chg⟩
               · skip
                 refine aa (az rfl rfl rfl (o_assignN rfl rfl (ar rfl (fun h55 => ?_) (fun h55 => ?_))))
                 · skip
                   refine ae (aw [] (.nil _) (aa (o_assignN rfl rfl (aq (ap (am (aW rfl rfl ?_))))))); exact fun w1 hw1 => ⟨congrArg (fun b => Ending.returned (.int .i64 b)) (by unfold lvl; (repeat' split) <;> omega),hw1.chg⟩
                 · skip
                   refine ae (tri_slo [(3,_)] rfl (aa (az rfl rfl rfl (o_assignN rfl rfl (ar rfl (fun h56 => ?_) (fun h56 => ?_))))))
                   · skip
                     refine ae (aa (o_assignN rfl rfl (aq (ap (am (aW rfl rfl ?_)))))); exact fun w1 hw1 => ⟨congrArg (fun b => Ending.returned (.int .i64 b)) (by unfold lvl; (repeat' split) <;> omega),hw1.chg⟩
                   · skip
                     refine ae (ae (aa (az rfl rfl rfl (o_assignN rfl rfl (ar rfl (fun h57 => ?_) (fun h57 => ?_))))))
                     · skip
                       refine an (ag (ar rfl (fun h58 => ?_) (fun h58 => ?_)))
                       · skip
                         refine ae (aw [] (.nil _) (aa (o_assignN rfl rfl (aq (ap (am (aW rfl rfl ?_))))))); exact fun w1 hw1 => ⟨congrArg (fun b => Ending.returned (.int .i64 b)) (by unfold lvl; (repeat' split) <;> omega),hw1.chg⟩
                       · skip
                         refine an (ao (ag (ae (aw [] (.nil _) (aa (o_assignN rfl rfl (aq (aW rfl rfl ?_)))))))); exact fun w1 hw1 => ⟨congrArg (fun b => Ending.returned (.int .i64 b)) (by unfold lvl; (repeat' split) <;> omega),hw1.chg⟩
                     · skip
                       refine tri_slo [(3,_)] rfl (aa (az rfl rfl rfl (o_assignN rfl rfl (ar rfl (fun h59 => ?_) (fun h59 => ?_)))))
                       · skip
                         refine ae (aa (o_assignN rfl rfl (aq (ap (am (aW rfl rfl ?_)))))); exact fun w1 hw1 => ⟨congrArg (fun b => Ending.returned (.int .i64 b)) (by unfold lvl; (repeat' split) <;> omega),hw1.chg⟩
                       · skip
                         refine an (ao (ag (ae (aa (o_assignN rfl rfl (aq (aW rfl rfl ?_))))))); exact fun w1 hw1 => ⟨congrArg (fun b => Ending.returned (.int .i64 b)) (by unfold lvl; (repeat' split) <;> omega),hw1.chg⟩
theorem textK (o : Int) (w : World)  : Calls Tryz.prog 117 #[.int .i64 o] w (cj w (.string (B (gv o)))) := by
 refine ax (args := [.int .i64 o]) (lent := []) (H := []) Tryz.func117 rfl Tryz.ntmps117 rfl (Sat.start _ _ _ _) ((show Tri _ [(0,_)] _ _ _ from ae (aa (o_assignN rfl rfl (ae (aa (aA (first := []) (cap := []) rfl rfl rfl Tryz.call150 (fun w1 h1 => jO w1) (aA (first := []) (cap := []) rfl rfl rfl Tryz.call151 (fun w1 h1 => sumsP w1) (aA (first := []) (cap := []) rfl rfl rfl Tryz.call152 (fun w1 h1 => mX w1) (aM _ rfl ro rfl (fun b3 => aM _ rfl iR rfl (fun b4 => aM _ rfl iR rfl (fun b5 => aI sz196 N2 rfl rfl rfl rfl rfl (Nat.le_of_ble_eq_true rfl) rfl (aI kD N1 rfl rfl rfl rfl rfl (Nat.le_of_ble_eq_true rfl) rfl (aI kD N0 rfl rfl rfl rfl rfl (Nat.le_of_ble_eq_true rfl) rfl (triL_nilN (ae (tri_slo [(5,_),(4,_),(3,_),(0,_)] rfl (MP.bo ([]) [(0,true),(1,true),(3,true),(5,true),(7,true),(2,false),(4,false),(6,false),(8,false),(9,false)] [8,9] (by kernel_rfl) (by kernel_rfl) (fun _ h => h.sel [] (by decide)) (MP.ah rfl (aS (bI _ _ _) rfl rfl (ab ⟨rfl,(MP.ah rfl (aS (bI _ _ _) rfl rfl (ab ⟨rfl,(MP.ah rfl (eY Tryz.underlying196 gE rfl rfl (ab ⟨rfl,(MP.ah rfl (eY Tryz.underlying198 gE rfl rfl (ab ⟨rfl,(MP.ah rfl (eY Tryz.underlying198 gE rfl rfl (ab ⟨rfl,(MP.ba rfl (eG (parts := [_,_]) (toksV (orO ++ andO)) Tryz.underlying177 zs176 rfl rfl rfl rfl (by decide) (by decide) (fun b14 => ab (show _ ∧ _ from ⟨fun _ _ h => h.sel [] (by decide),(MP.ba rfl (dk Tryz.underlying177 qB rfl (by decide) N0 rfl rfl rfl (news := toksV cmpO) (RdS.box (.s (.s (.s .z)))) rfl (gt _) (by unfold maxLen; omega) (by omega) (fun A16 c16 => ab (show _ ∧ _ from ⟨fun _ _ h => h.sel [] (by decide),(MP.ba rfl ?_)⟩))))⟩))))⟩)))⟩)))⟩)))⟩)))⟩)))))))))))))))))))))); refine dk Tryz.underlying177 qB rfl (by decide) N0 rfl rfl rfl (news := toksV sumO) (RdS.box (.s (.s .z))) rfl (gt _) (by unfold maxLen; omega) (by omega) (fun A18 c18 => ab (show _ ∧ _ from ⟨fun _ _ h => h.sel [] (by decide),(MP.ba rfl (dk Tryz.underlying177 qB rfl (by decide) N0 rfl rfl rfl (news := toksV mulO) (RdS.box (.s .z)) rfl (gt _) (by unfold maxLen; omega) (by omega) (fun A20 c20 => ab (show _ ∧ _ from ⟨fun hh => absurd hh (by decide),(MP.ba rfl (aG rfl rfl (ab (show _ ∧ _ from ⟨fun hh => absurd hh (by decide),(MP.dq (ag (ae (ae (tri_slo [(6,_),(0,_)] rfl (aa (ai rfl rfl (aU Tryz.underlying177 rfl rfl (ai rfl rfl (triL_nilN (av (bC (ι := Nat) (F := fun i => [(0,.int .i64 o),(21,.slice A20 14 c20),(22,.int .i64 14),(23,.int .i64 (i : Int))]) (HH := fun i => [row (.slice A20 14 c20) 176 3 14 (toksV kH)]) (Pu := fun i => i ≤ 14 ∧ ∀ j,j < i → (kH.getD j Tok.zero).a ≠ o) (μ := fun i => 14 - i) (0) (.cons rfl (.cons rfl (.cons rfl (.cons rfl (.nil _))))) (fun w2 hw2 => hw2.sel [0] (by decide)) (⟨by omega,fun j hj => absurd hj (by omega)⟩) (fun i hi => ae (aa (cv rfl rfl rfl (triL_nilN (ae (ar rfl (fun h0 => ?_) (fun h0 => ?_)))))))))))))))))))⟩))))⟩))))⟩))
 · skip
   have hil : i < kH.length := by show i < 14; omega
   refine an (ag (ae (av (ae (aa (aT Tryz.underlying177 gE rfl rfl rfl (RdS.row .z) (by omega) (by omega) rfl (by decide) (fE i qr gE rfl rfl (RdS.row .z) (by omega) (by omega) (aM (Tok.cs Tok.zero) rfl nQ rfl (fun b8 => dc gE N0 rfl rfl rfl (triL_nilN (ae (aa (aj nS rfl rfl (ak bK N0 rfl rfl rfl (ai rfl rfl (az rfl rfl rfl (triL_nilN (ar rfl (fun h1 => ?_) (fun h1 => ?_)))))))))))))))))))
   · skip
     have h1 : (kH.getD i Tok.zero).a = o := h1
     refine ae (tri_slo [(8,_)] rfl (aa (aj nR rfl rfl (ak bn N0 rfl rfl rfl (o_assignN rfl rfl (aq (ap (am (am (ap (am (aW rfl rfl ?_)))))))))))); exact fun w1 hw1 => ⟨congrArg (fun s => Ending.returned (.string (B s))) (by rw [← h1]; exact (op_hit i (by omega)).symm),hw1.chg⟩
   · skip
     have h1 : (kH.getD i Tok.zero).a ≠ o := h1
     exact an (ao (ag (tri_slo [(0,_),(21,_),(22,_),(23,_)] rfl (aa (bD rfl rfl rfl (by omega) (ai rfl rfl (triL_nilN (⟨i + 1,(.cons rfl (.cons rfl (.cons rfl (.cons rfl (.nil _))))),(fun w2 hw2 => hw2.tail),⟨by omega,sk hi.2 h1⟩,by omega⟩))))))))
 · skip
   refine bg (au (au (aK (ag (ae (aw [] (.nil _) (aa (o_assignN rfl rfl (aq (aW rfl rfl ?_)))))))))); exact fun w1 hw1 => ⟨congrArg (fun s => Ending.returned (.string (B s))) (op_miss (fun j hj => hi.2 j (by omega))).symm,hw1.chg⟩
theorem toldK (pb : Nat) (A : Option Addr) (c : Nat) (l : List UInt8) (d m : Int) (w : World) (hP : fw w pb A c l d m) (hb : l.length ≤ 70368744177664) : Calls Tryz.prog 28 #[.pointer (some ⟨pb,0,none⟩)] w (Turn w (prL pb A) (fun _ : Unit => .tuple #[.string (B (hG l m).1),.int .i64 (hG l m).2]) (fun _ => prD pb A c l d m) (fun _ => True)) := by
 refine ax (args := [.pointer (some ⟨pb,0,none⟩)]) (lent := prL pb A) (H := prD pb A c l d m) Tryz.func28 rfl Tryz.ntmps28 rfl (Sat.cx hP) ((show Tri _ [(0,_)] _ _ _ from ae (aa (aG rfl rfl (o_assignN rfl rfl (ae (ae (aa (ai rfl rfl (aE rfl rfl (aj qA rfl rfl (ak bK N0 rfl rfl rfl (fA rfl rfl rfl (triL_nilN (ar rfl (fun h0 => ?_) (fun h0 => ?_))))))))))))))))
 · skip
   exact ae (aw [] (.nil _) (aa (aG rfl rfl (o_assignN rfl rfl (aq (am (hU rfl rfl rfl (bj () (by rw [hG,if_pos h0]) trivial (fun w2 hw2 => hw2)))))))))
 · skip
   refine an (ag (ae (ae (tri_slo [(0,_)] rfl (aa (ai rfl rfl (aE rfl rfl (aj nX rfl rfl (ak agg65 N0 rfl rfl rfl (aU Tryz.underlying65 rfl rfl (fA rfl rfl rfl (triL_nilN (ar rfl (fun h1 => ?_) (fun h1 => ?_))))))))))))))
   · skip
     exact ae (aw [] (.nil _) (aa (aG rfl rfl (o_assignN rfl rfl (aq (am (hU rfl rfl rfl (bj () (by rw [hG,if_neg h0,if_pos (by omega)]) trivial (fun w2 hw2 => hw2)))))))))
   · skip
     exact an (ag (ae (tri_slo [(0,_)] rfl (aa (ai rfl rfl (aE rfl rfl (aj nX rfl rfl (ak agg65 N0 rfl rfl rfl (ob Tryz.underlying65 Tryz.underlying5 Tryz.underlying9 rfl rfl (RdS.row (.s .z)) rfl (aG rfl rfl (o_assignN rfl rfl (aq (hU rfl rfl rfl (bj () (by rw [hG,if_neg h0,if_neg (by omega)]) trivial (fun w2 hw2 => hw2)))))))))))))))
end Go.Proofs.YtjbpkcbefmpfgaaGreatDoor
namespace Go.Proofs.YtjbpkcbefmpfgaaGreatDoor
open Go.WK Go.RowKit 
theorem dN : bs Tryz.prog 30 5 = some 7 := by kernel_rfl
theorem dW : cu Tryz.prog 28 = some false := by kernel_rfl
theorem cC : bs Tryz.prog 30 0 = some 0 := by kernel_rfl
theorem jn : bs Tryz.prog 30 1 = some 1 := by kernel_rfl
structure PV (w : World) (L bl : List Nat) : Prop where
 pe : PE w L bl
 lv : LV w
theorem PV.sub {w w1 : World} {L L1 bl : List Nat} (h : PV w L bl) (s : PSub w L w1 L1) : PV w1 L1 bl := ⟨h.pe.sub s,h.lv.chgL s.chg (fun k hk => (h.pe.g k hk).2)⟩
def PX (e : Ex) : Prop := ∀ (low : Int) (bl : List Nat) (cs : List Value) (pb : Nat) (A : Option Addr) (c : Nat) (l : List UInt8) (d m : Int) (w : World),fw w pb A c l d m → PV w (prL pb A) bl → ExK bl w e cs → 0 ≤ d ∧ d ≤ m → d + ((e.txt low).2 : Int) ≤ 140737488355328 → l.length + (e.txt low).1.length ≤ 70368744177664 →
 Calls Tryz.prog 26 #[.pointer (some ⟨pb,0,none⟩),.agg cs.toArray,.int .i64 low] w (PrT w pb A (l ++ (e.txt low).1) d (max m (d + ((e.txt low).2 : Int))))
theorem fit_of {v : Val} (hm : may v = true) (ho : v.ok) : fit v := by
 refine ⟨ho, ?_⟩
 unfold may at hm
 by_cases h0 : v.k = 0
 · simp [h0] at hm; rw [hm.2]; simp
 · by_cases h1 : v.k = 1
   · simp [h1] at hm; rw [hm]; simp
   · by_cases h2 : v.k = 2
     · simp [h2] at hm; omega
     · simp [h0,h1,h2] at hm; rw [hm.2.1]; simp
theorem binK (o cc : Int) (v : Val) (t n : List UInt8) (al : List Ex) (Ax : Option Addr) (kx : Nat) (xs : List Value) (low : Int) (bl : List Nat) (pb : Nat) (A : Option Addr) (c : Nat) (l : List UInt8) (d m : Int) (w : World) (hP : fw w pb A c l d m) (hV : PV w (prL pb A) bl) (_ : al.length ≤ kx) (hxr : Rd w Ax xs) (hxb : ∀ a,Ax = some a → al ≠ [] → a.block ∈ bl) (hxs : ExsK bl w al xs) (hdm : 0 ≤ d ∧ d ≤ m) (hd : d + ((Ex.txt (.mk o v t n cc al) low).2 : Int) ≤ 140737488355328) (hb : l.length + (Ex.txt (.mk o v t n cc al) low).1.length ≤ 70368744177664) (ho : 8 ≤ o ∧ o ≤ 21) (hal : al.length = 2) (hlow : ¬ lvl o < low) (ih : ∀ i,i < al.length → PX (al.getD i Ex.zero)) : Calls Tryz.prog 59 #[.pointer (some ⟨pb,0,none⟩),.agg ([.int .i64 o,.int .i64 v.k,.int .i64 v.n,.string (B v.s),.string (B t),.string (B n),.int .i64 cc,.slice Ax al.length kx] : List Value).toArray,.int .i64 (lvl o)] w (PrT w pb A (l ++ (Ex.txt (.mk o v t n cc al) low).1) (d) (max m (d + ((Ex.txt (.mk o v t n cc al) low).2 : Int)))) := by
 refine ax (args := [.pointer (some ⟨pb,0,none⟩),.agg ([.int .i64 o,.int .i64 v.k,.int .i64 v.n,.string (B v.s),.string (B t),.string (B n),.int .i64 cc,.slice Ax al.length kx] : List Value).toArray,.int .i64 (lvl o)]) (lent := prL pb A) (H := prD pb A c l d m) Tryz.func59 rfl Tryz.ntmps59 rfl (Sat.cx hP) ((show Tri _ [(0,_),(1,_),(2,_)] _ _ _ from ?_))
 have hl8 := lN o
 have hR := hV.pe.rd hxr (fun a ha hx => hxb a ha (hxs.nil hx))
 have hxl := (ExsK.c _ _ hxs).len
 obtain ⟨cs0,hc0,hk0⟩ := ExsK.at 0 hxs (by omega)
 obtain ⟨cs1,hc1,hk1⟩ := ExsK.at 1 hxs (by omega)
 rw [dX hlow,core_b (by omega) (by omega) (by omega) (by omega) (by omega) (by omega) (by omega)] at hd hb ⊢
 simp only at hd hb ⊢
 refine ae (aa (cl _ rfl rfl rfl (fun b4 => triL_nilN (ae (aa (ai rfl rfl (o_assignN rfl rfl (cr (ι := Nat) (fun i => [(0,.pointer (some ⟨pb,0,none⟩)),(2,.int .i64 (lvl o)),(4,.pointer (some ⟨b4,0,none⟩)),(6,.int .i64 (if lvl o = 4 then 5 else lvl o))]) (fun i => [box b4 30 ([.int .i64 o,.int .i64 v.k,.int .i64 v.n,.string (B v.s),.string (B t),.string (B n),.int .i64 cc,.slice Ax al.length kx] : List Value)] ++ prD pb A c l d m) (fun i => True) ?_ (fun i hj => ?_)))))))))
 · skip
   refine ae (aa (ai rfl rfl (az rfl rfl rfl (triL_nilN (ar rfl (fun h0 => ?_) (fun h0 => ?_))))))
   · skip
     exact tri_slo [(4,_),(0,_),(2,_)] rfl (aa (o_assignN rfl rfl (⟨0,(.cons rfl (.cons rfl (.cons rfl (.cons (by rw [if_pos h0]; rfl) (.nil _))))),fun _ h => h,trivial⟩)))
   · skip
     exact an (ag (⟨0,(.cons rfl (.cons rfl (.cons rfl (.cons (by rw [if_neg h0]; rfl) (.nil _))))),fun _ h => h,trivial⟩))
 exact ae (aa (ai rfl rfl (aj dN rfl rfl (ak dW N0 rfl rfl rfl (aT Tryz.underlying28 aX rfl rfl rfl (hR _ _ rfl rfl) (by omega) (by omega) (by omega) (by decide) (bv aY aX rfl rfl (hR _ _ rfl rfl) (vs := cs0) hc0 hk0.len (by decide) (ai rfl rfl (aC [_] rfl rfl rfl rfl Tryz.call26 (fun w1 h1 h2 h3 => ih 0 (by omega) (if lvl o = 4 then 5 else lvl o) bl _ pb _ _ _ _ _ w1 h2 (hV.sub (PSub.of h1 h3)) (hk0.psub hV.pe (PSub.of h1 h3)) (by omega) (by omega) (by simp only [List.length_append,List.length_cons,List.length_nil] at hb ⊢; omega)) (fun A16 c16 => triL_nilN (ae (tri_slo [(0,_),(2,_),(4,_)] rfl (aa (ai rfl rfl (aj cC rfl rfl (ak bK N0 rfl rfl rfl (aA (first := []) (cap := []) rfl rfl rfl Tryz.call117 (fun w1 h1 => textK o w1) (eG (parts := [_,_,_]) (dP [[32],gv o,[32]]) Tryz.underlying23 zs9 rfl rfl rfl rfl (by decide) (by decide) (fun b21 => aC [_,_] rfl rfl rfl rfl Tryz.call20 (fun w1 h1 h2 h3 => cL [[32],gv o,[32]] _ _ pb _ _ _ _ _ w1 h2 (RdS.row .z w1 h1) (fun a ha => by cases ha; exact aZ h1 (fun x hx => (List.mem_cons_of_mem _ hx)) rfl) (by simp only [List.length_append,List.length_cons,List.length_nil,List.flatten_cons,List.flatten_nil] at hb ⊢; omega) (by simp)) (fun A22 c22 => triL_nilN (tri_slo [(0,_),(2,_),(4,_)] rfl (aa (ai rfl rfl (aj dN rfl rfl (ak dW N1 rfl rfl rfl (aT Tryz.underlying28 aX rfl rfl rfl (hR _ _ rfl rfl) (by omega) (by omega) (by omega) (by decide) (bv aY aX rfl rfl (hR _ _ rfl rfl) (vs := cs1) hc1 hk1.len (by decide) (ai rfl rfl (bD rfl rfl rfl (by omega) (aC [_,_] rfl rfl rfl rfl Tryz.call26 (fun w1 h1 h2 h3 => ih 1 (by omega) (lvl o + 1) bl _ pb _ _ _ _ _ w1 h2 (hV.sub (PSub.of h1 h3)) (hk1.psub hV.pe (PSub.of h1 h3)) (by omega) (by omega) (by simp only [List.length_append,List.length_cons,List.length_nil,List.flatten_cons,List.flatten_nil] at hb ⊢; omega)) (fun A30 c30 => ab (bX rfl (bj (J := Option Addr × Nat) (A30,c30) rfl trivial (fun w2 hw2 => bO (by simp) (by omega) (by omega) (hw2.sel [2,3] (by decide)))))))))))))))))))))))))))))))))))
set_option maxHeartbeats 1000000 in
theorem coreK_ (o cc : Int) (v : Val) (t n : List UInt8) (al : List Ex) (Ax : Option Addr) (kx : Nat) (xs : List Value) (low : Int) (bl : List Nat) (pb : Nat) (A : Option Addr) (c : Nat) (l : List UInt8) (d m : Int) (w : World) (hP : fw w pb A c l d m) (hV : PV w (prL pb A) bl) (hkx : al.length ≤ kx) (hxr : Rd w Ax xs) (hxb : ∀ a,Ax = some a → al ≠ [] → a.block ∈ bl) (hxs : ExsK bl w al xs) (hdm : 0 ≤ d ∧ d ≤ m) (hd : d + ((Ex.txt (.mk o v t n cc al) low).2 : Int) ≤ 140737488355328) (hb : l.length + (Ex.txt (.mk o v t n cc al) low).1.length ≤ 70368744177664) (hlow : ¬ lvl o < low) (hof : o = 1 → fit v) (har : 4 ≤ o → o ≤ 7 → al.length = 1) (har2 : 8 ≤ o → al.length = 2) (hor : 1 ≤ o ∧ o ≤ 21 ∧ o ≠ 3) (ih : ∀ i,i < al.length → PX (al.getD i Ex.zero)) : Calls Tryz.prog 26 #[.pointer (some ⟨pb,0,none⟩),.agg ([.int .i64 o,.int .i64 v.k,.int .i64 v.n,.string (B v.s),.string (B t),.string (B n),.int .i64 cc,.slice Ax al.length kx] : List Value).toArray,.int .i64 low] w (PrT w pb A (l ++ (Ex.txt (.mk o v t n cc al) low).1) (d) (max m (d + ((Ex.txt (.mk o v t n cc al) low).2 : Int)))) := by
 refine ax (args := [.pointer (some ⟨pb,0,none⟩),.agg ([.int .i64 o,.int .i64 v.k,.int .i64 v.n,.string (B v.s),.string (B t),.string (B n),.int .i64 cc,.slice Ax al.length kx] : List Value).toArray,.int .i64 low]) (lent := prL pb A) (H := prD pb A c l d m) Tryz.func26 rfl Tryz.ntmps26 rfl (Sat.cx hP) ((show Tri _ [(0,_),(1,_),(2,_)] _ _ _ from ?_))
 have hl8 := lN o
 have hR := hV.pe.rd hxr (fun a ha hx => hxb a ha (hxs.nil hx))
 have hxl := (ExsK.c _ _ hxs).len
 refine ae (aa (cl _ rfl rfl rfl (fun b4 => triL_nilN (ae (aa (aj cC rfl rfl (ak bK N0 rfl rfl rfl (aA (first := []) (cap := []) rfl rfl rfl Tryz.call56 (fun w1 h1 => levelK o w1) (o_assignN rfl rfl (ae (ae (tri_slo [(6,_),(4,_),(0,_),(2,_)] rfl (aa (ai rfl rfl (ai rfl rfl (cv rfl rfl rfl (triL_nilN (ar rfl (fun q0 => ?_) (fun q0 => ?_)))))))))))))))))))
 · skip
   exact absurd q0 hlow
 · skip
   refine an (ag (ae (tri_slo [(6,_),(4,_),(0,_)] rfl (aa (aj cC rfl rfl (ak bK N0 rfl rfl rfl (triL_nilN (av (ae (aa (az rfl rfl rfl (o_assignN rfl rfl (ar rfl (fun q1 => ?_) (fun q1 => ?_))))))))))))))
   · skip
     rw [dX hlow,core_1 q1] at hd hb ⊢
     simp only at hd hb ⊢
     exact ae (tri_slo [(4,_),(0,_)] rfl (aa (aj jn rfl rfl (aQ ja kJ .z rfl rfl (vs := Val.cs v) rfl rfl (aA (first := []) (cap := []) rfl rfl rfl Tryz.call58 (fun w1 h1 => printK v w1 (hof q1) (hV.lv.chgL h1.chg (fun k hk => (hV.pe.g k hk).2))) (ai rfl rfl (bh rfl rfl rfl (bh rfl rfl rfl (aG rfl rfl (o_assignN rfl rfl (tri_slo [(7,_),(0,_)] rfl (aa (ai rfl rfl (ai rfl rfl (bA Tryz.underlying23 zs9 rfl rfl rfl rfl rfl (by decide) (by decide) (fun b44 => aC [_,_] rfl rfl rfl rfl Tryz.call20 (fun w1 h1 h2 h3 => cL [(prV v).1] _ _ pb _ _ _ _ _ w1 h2 (RdS.row .z w1 h1) (fun a ha => by cases ha; exact aZ h1 (fun x hx => (List.mem_cons_of_mem _ hx)) rfl) (by simp only [List.length_append,List.length_nil,List.flatten_cons,List.flatten_nil] at hb ⊢; omega) (by simp)) (fun A45 c45 => ab (ao (bX rfl (bj (J := Option Addr × Nat) (A45,c45) rfl trivial (fun w2 hw2 => bO (by simp) (by omega) (by omega) (hw2.sel [2,3] (by decide)))))))))))))))))))))))
   · skip
     refine ae (aa (az rfl rfl rfl (o_assignN rfl rfl (ar rfl (fun q2 => ?_) (fun q2 => ?_)))))
     · skip
       rw [dX hlow,core_2 q2] at hd hb ⊢
       simp only at hd hb ⊢
       refine ae (ae (tri_slo [(4,_),(0,_)] rfl (aa (aj gk rfl rfl (ak bn N0 rfl rfl rfl (db rfl rfl rfl (triL_nilN (aF rfl (fun q3 => ?_) (fun q3 => ?_)))))))))
       · skip
         have q3 := of_decide_eq_true q3
         rw [if_neg q3] at hb ⊢
         exact aa (ai rfl rfl (aj gk rfl rfl (ak bn N0 rfl rfl rfl (eG (parts := [_,_]) (dP [t,[46]]) Tryz.underlying23 zs9 rfl rfl rfl rfl (by decide) (by decide) (fun b54 => aC [_,_] rfl rfl rfl rfl Tryz.call20 (fun w1 h1 h2 h3 => cL [t,[46]] _ _ pb _ _ _ _ _ w1 h2 (RdS.row .z w1 h1) (fun a ha => by cases ha; exact aZ h1 (fun x hx => (List.mem_cons_of_mem _ hx)) rfl) (by simp only [List.length_append,List.length_cons,List.length_nil,List.flatten_cons,List.flatten_nil] at hb ⊢; omega) (by simp)) (fun A55 c55 => triL_nilN (tri_slo [(4,_),(0,_)] rfl (aa (ai rfl rfl (aj gj rfl rfl (ak bn N1 rfl rfl rfl (bA Tryz.underlying23 zs9 rfl rfl rfl rfl rfl (by decide) (by decide) (fun b59 => aC [_,_,_] rfl rfl rfl rfl Tryz.call20 (fun w1 h1 h2 h3 => cL [n] _ _ pb _ _ _ _ _ w1 h2 (RdS.row .z w1 h1) (fun a ha => by cases ha; exact aZ h1 (fun x hx => (List.mem_cons_of_mem _ (List.mem_cons_of_mem _ hx))) rfl) (by simp only [List.length_append,List.length_cons,List.length_nil,List.flatten_cons,List.flatten_nil] at hb ⊢; omega) (by simp)) (fun A60 c60 => ab (ao (bX rfl (bj (J := Option Addr × Nat) (A60,c60) rfl trivial (fun w2 hw2 => bO (by simp) (by omega) (by omega) (hw2.sel [3,4] (by decide))))))))))))))))))))
       · skip
         have q3 := Decidable.not_not.1 (of_decide_eq_false q3)
         rw [if_pos q3] at hb ⊢
         exact an (ag (aa (ai rfl rfl (aj gj rfl rfl (ak bn N0 rfl rfl rfl (bA Tryz.underlying23 zs9 rfl rfl rfl rfl rfl (by decide) (by decide) (fun b59 => aC [_,_] rfl rfl rfl rfl Tryz.call20 (fun w1 h1 h2 h3 => cL [n] _ _ pb _ _ _ _ _ w1 h2 (RdS.row .z w1 h1) (fun a ha => by cases ha; exact aZ h1 (fun x hx => (List.mem_cons_of_mem _ hx)) rfl) (by simp only [List.length_append,List.length_nil,List.flatten_cons,List.flatten_nil] at hb ⊢; omega) (by simp)) (fun A60 c60 => ab (ao (bX rfl (bj (J := Option Addr × Nat) (A60,c60) rfl trivial (fun w2 hw2 => bO (by simp) (by omega) (by omega) (hw2.sel [2,3] (by decide))))))))))))))
     · skip
       refine ae (tri_slo [(29,_),(6,_),(4,_),(0,_)] rfl (aa (az rfl rfl rfl (o_assignN rfl rfl (ar rfl (fun q4 => ?_) (fun q4 => ?_))))))
       · skip
         have hal : al.length = 1 := har (by omega) (by omega)
         obtain ⟨cs0,hc0,hk0⟩ := ExsK.at 0 hxs (by omega)
         rw [dX hlow,core_5 q4 (by omega)] at hd hb ⊢
         simp only at hd hb ⊢
         exact ae (tri_slo [(4,_),(0,_)] rfl (aa (ai rfl rfl (aC [_] rfl rfl rfl rfl Tryz.call57 (fun w1 h1 h2 h3 => l0 (1) pb _ _ _ _ _ w1 h2 (by omega) (by omega)) (fun A64 c64 => triL_nilN (ae (aa (ai rfl rfl (bA Tryz.underlying23 zs9 rfl rfl rfl rfl rfl (by decide) (by decide) (fun b66 => aC [_,_] rfl rfl rfl rfl Tryz.call20 (fun w1 h1 h2 h3 => cL [[110,111,116,32]] _ _ pb _ _ _ _ _ w1 h2 (RdS.row .z w1 h1) (fun a ha => by cases ha; exact aZ h1 (fun x hx => (List.mem_cons_of_mem _ hx)) rfl) (by simp only [List.length_append,List.length_cons,List.length_nil,List.flatten_cons,List.flatten_nil] at hb ⊢; omega) (by simp)) (fun A67 c67 => triL_nilN (ae (tri_slo [(4,_),(0,_)] rfl (aa (ai rfl rfl (aj dN rfl rfl (ak dW N1 rfl rfl rfl (aT Tryz.underlying28 aX rfl rfl rfl (hR _ _ rfl rfl) (by omega) (by omega) (by omega) (by decide) (bv aY aX rfl rfl (hR _ _ rfl rfl) (vs := cs0) hc0 hk0.len (by decide) (aC [_,_] rfl rfl rfl rfl Tryz.call26 (fun w1 h1 h2 h3 => ih 0 (by omega) 3 bl _ pb _ _ _ _ _ w1 h2 (hV.sub (PSub.of h1 h3)) (hk0.psub hV.pe (PSub.of h1 h3)) (by omega) (by omega) (by simp only [List.length_append,List.length_cons,List.length_nil,List.flatten_cons,List.flatten_nil] at hb ⊢; omega)) (fun A73 c73 => triL_nilN (tri_slo [(0,_)] rfl (aa (ai rfl rfl (aC [_,_] rfl rfl rfl rfl Tryz.call57 (fun w1 h1 h2 h3 => l0 (-1) pb _ _ _ _ _ w1 h2 (by omega) (by omega)) (fun A75 c75 => ab (ao (bX rfl (bj (J := Option Addr × Nat) (A75,c75) rfl trivial (fun w2 hw2 => bO (by simp) (by omega) (by omega) (hw2.sel [2,3] (by decide))))))))))))))))))))))))))))))))
       · skip
         refine ae (aa (az rfl rfl rfl (o_assignN rfl rfl (ar rfl (fun q5 => ?_) (fun q5 => ?_)))))
         · skip
           have hal : al.length = 1 := har (by omega) (by omega)
           obtain ⟨cs0,hc0,hk0⟩ := ExsK.at 0 hxs (by omega)
           rw [dX hlow,core_4 q5 (by omega)] at hd hb ⊢
           simp only at hd hb ⊢
           refine ae (tri_slo [(4,_),(0,_)] rfl (aa (ai rfl rfl (aC [_] rfl rfl rfl rfl Tryz.call57 (fun w1 h1 h2 h3 => l0 (1) pb _ _ _ _ _ w1 h2 (by omega) (by omega)) (fun A79 c79 => triL_nilN (ae (aa (ai rfl rfl (bA Tryz.underlying23 zs9 rfl rfl rfl rfl rfl (by decide) (by decide) (fun b81 => aC [_,_] rfl rfl rfl rfl Tryz.call20 (fun w1 h1 h2 h3 => cL [[45]] _ _ pb _ _ _ _ _ w1 h2 (RdS.row .z w1 h1) (fun a ha => by cases ha; exact aZ h1 (fun x hx => (List.mem_cons_of_mem _ hx)) rfl) (by simp only [List.length_append,List.length_cons,List.length_nil,List.flatten_cons,List.flatten_nil] at hb ⊢; omega) (by simp)) (fun A82 c82 => triL_nilN (ae (ae (tri_slo [(4,_),(0,_)] rfl (aa (aj dN rfl rfl (ak dW N1 rfl rfl rfl (aT Tryz.underlying28 aX rfl rfl rfl (hR _ _ rfl rfl) (by omega) (by omega) (by omega) (by decide) (aO cC rfl rfl (hR _ _ rfl rfl) (iv hc0 hk0.op) (aH bK rfl rfl (hR _ _ rfl rfl) (iv hc0 hk0.op) (az rfl rfl rfl (triL_nilN (ar rfl (fun q6 => ?_) (fun q6 => ?_))))))))))))))))))))))))
           · skip
             rw [if_pos q6] at hb ⊢
             exact tri_slo [(4,_),(0,_)] rfl (aa (ai rfl rfl (bA Tryz.underlying23 zs9 rfl rfl rfl rfl rfl (by decide) (by decide) (fun b90 => aC [_,_,_] rfl rfl rfl rfl Tryz.call20 (fun w1 h1 h2 h3 => cL [[32]] _ _ pb _ _ _ _ _ w1 h2 (RdS.row .z w1 h1) (fun a ha => by cases ha; exact aZ h1 (fun x hx => (List.mem_cons_of_mem _ (List.mem_cons_of_mem _ hx))) rfl) (by simp only [List.length_append,List.length_cons,List.length_nil,List.flatten_cons,List.flatten_nil] at hb ⊢; omega) (by simp)) (fun A91 c91 => triL_nilN (ae (aa (ai rfl rfl (aj dN rfl rfl (ak dW N2 rfl rfl rfl (aT Tryz.underlying28 aX rfl rfl rfl (hR _ _ rfl rfl) (by omega) (by omega) (by omega) (by decide) (bv aY aX rfl rfl (hR _ _ rfl rfl) (vs := cs0) hc0 hk0.len (by decide) (aC [_,_,_] rfl rfl rfl rfl Tryz.call26 (fun w1 h1 h2 h3 => ih 0 (by omega) 7 bl _ pb _ _ _ _ _ w1 h2 (hV.sub (PSub.of h1 h3)) (hk0.psub hV.pe (PSub.of h1 h3)) (by omega) (by omega) (by simp only [List.length_append,List.length_cons,List.length_nil,List.flatten_cons,List.flatten_nil] at hb ⊢; omega)) (fun A97 c97 => triL_nilN (tri_slo [(0,_)] rfl (aa (ai rfl rfl (aC [_,_,_] rfl rfl rfl rfl Tryz.call57 (fun w1 h1 h2 h3 => l0 (-1) pb _ _ _ _ _ w1 h2 (by omega) (by omega)) (fun A99 c99 => ab (ao (bX rfl (bj (J := Option Addr × Nat) (A99,c99) rfl trivial (fun w2 hw2 => bO (by simp) (by omega) (by omega) (hw2.sel [3,4] (by decide)))))))))))))))))))))))))
           · skip
             rw [if_neg q6] at hb ⊢
             exact an (ag (ae (tri_slo [(4,_),(0,_)] rfl (aa (ai rfl rfl (aj dN rfl rfl (ak dW N1 rfl rfl rfl (aT Tryz.underlying28 aX rfl rfl rfl (hR _ _ rfl rfl) (by omega) (by omega) (by omega) (by decide) (bv aY aX rfl rfl (hR _ _ rfl rfl) (vs := cs0) hc0 hk0.len (by decide) (aC [_,_] rfl rfl rfl rfl Tryz.call26 (fun w1 h1 h2 h3 => ih 0 (by omega) 7 bl _ pb _ _ _ _ _ w1 h2 (hV.sub (PSub.of h1 h3)) (hk0.psub hV.pe (PSub.of h1 h3)) (by omega) (by omega) (by simp only [List.length_append,List.length_cons,List.length_nil,List.flatten_cons,List.flatten_nil] at hb ⊢; omega)) (fun A97 c97 => triL_nilN (tri_slo [(0,_)] rfl (aa (ai rfl rfl (aC [_,_] rfl rfl rfl rfl Tryz.call57 (fun w1 h1 h2 h3 => l0 (-1) pb _ _ _ _ _ w1 h2 (by omega) (by omega)) (fun A99 c99 => ab (ao (bX rfl (bj (J := Option Addr × Nat) (A99,c99) rfl trivial (fun w2 hw2 => bO (by simp) (by omega) (by omega) (hw2.sel [2,3] (by decide))))))))))))))))))))))
         · skip
           refine ae (ae (tri_slo [(29,_),(6,_),(4,_),(0,_)] rfl (aa (az rfl rfl rfl (o_assignN rfl rfl (ar rfl (fun q7 => ?_) (fun q7 => ?_)))))))
           · skip
             have hal : al.length = 1 := har (by omega) (by omega)
             obtain ⟨cs0,hc0,hk0⟩ := ExsK.at 0 hxs (by omega)
             rw [dX hlow,core_6 q7 (by omega)] at hd hb ⊢
             simp only at hd hb ⊢
             refine an (ag (ar rfl (fun q8 => ?_) (fun q8 => ?_)))
             · skip
               skip
               refine ae (tri_slo [(4,_),(0,_)] rfl (aa (ai rfl rfl (aj dN rfl rfl (ak dW N0 rfl rfl rfl (aT Tryz.underlying28 aX rfl rfl rfl (hR _ _ rfl rfl) (by omega) (by omega) (by omega) (by decide) (bv aY aX rfl rfl (hR _ _ rfl rfl) (vs := cs0) hc0 hk0.len (by decide) (aC [_] rfl rfl rfl rfl Tryz.call26 (fun w1 h1 h2 h3 => ih 0 (by omega) 5 bl _ pb _ _ _ _ _ w1 h2 (hV.sub (PSub.of h1 h3)) (hk0.psub hV.pe (PSub.of h1 h3)) (by omega) (by omega) (by simp only [List.length_append,List.length_cons,List.length_nil] at hb ⊢; omega)) (fun A108 c108 => triL_nilN (ae (tri_slo [(4,_),(0,_)] rfl (aa (aj cC rfl rfl (ak bK N0 rfl rfl rfl (az rfl rfl rfl (triL_nilN (ar rfl (fun q9 => ?_) (fun q9 => ?_))))))))))))))))))
               · skip
                 exact absurd q9 (by omega)
               · skip
                 exact tri_slo [(0,_)] rfl (aa (ai rfl rfl (bA Tryz.underlying23 zs9 rfl rfl rfl rfl rfl (by decide) (by decide) (fun b116 => aC [_,_] rfl rfl rfl rfl Tryz.call20 (fun w1 h1 h2 h3 => cL [[32,105,115,32,110,117,108,108]] _ _ pb _ _ _ _ _ w1 h2 (RdS.row .z w1 h1) (fun a ha => by cases ha; exact aZ h1 (fun x hx => (List.mem_cons_of_mem _ hx)) rfl) (by simp only [List.length_append,List.length_cons,List.length_nil,List.flatten_cons,List.flatten_nil] at hb ⊢; omega) (by simp)) (fun A117 c117 => ab (ao (bX rfl (bj (J := Option Addr × Nat) (A117,c117) rfl trivial (fun w2 hw2 => bO (by simp) (by omega) (by omega) (hw2.sel [2,3] (by decide)))))))))))
             · skip
               exact absurd q7 (by omega)
           · skip
             refine aa (az rfl rfl rfl (o_assignN rfl rfl (ar rfl (fun q8 => ?_) (fun q8 => ?_))))
             · skip
               have hal : al.length = 1 := har (by omega) (by omega)
               obtain ⟨cs0,hc0,hk0⟩ := ExsK.at 0 hxs (by omega)
               rw [dX hlow,core_7 q8 (by omega)] at hd hb ⊢
               simp only at hd hb ⊢
               refine ae (tri_slo [(4,_),(0,_)] rfl (aa (ai rfl rfl (aj dN rfl rfl (ak dW N0 rfl rfl rfl (aT Tryz.underlying28 aX rfl rfl rfl (hR _ _ rfl rfl) (by omega) (by omega) (by omega) (by decide) (bv aY aX rfl rfl (hR _ _ rfl rfl) (vs := cs0) hc0 hk0.len (by decide) (aC [_] rfl rfl rfl rfl Tryz.call26 (fun w1 h1 h2 h3 => ih 0 (by omega) 5 bl _ pb _ _ _ _ _ w1 h2 (hV.sub (PSub.of h1 h3)) (hk0.psub hV.pe (PSub.of h1 h3)) (by omega) (by omega) (by simp only [List.length_append,List.length_cons,List.length_nil] at hb ⊢; omega)) (fun A108 c108 => triL_nilN (ae (tri_slo [(4,_),(0,_)] rfl (aa (aj cC rfl rfl (ak bK N0 rfl rfl rfl (az rfl rfl rfl (triL_nilN (ar rfl (fun q9 => ?_) (fun q9 => ?_))))))))))))))))))
               · skip
                 exact tri_slo [(0,_)] rfl (aa (ai rfl rfl (bA Tryz.underlying23 zs9 rfl rfl rfl rfl rfl (by decide) (by decide) (fun b113 => aC [_,_] rfl rfl rfl rfl Tryz.call20 (fun w1 h1 h2 h3 => cL [[32,105,115,32,110,111,116,32,110,117,108,108]] _ _ pb _ _ _ _ _ w1 h2 (RdS.row .z w1 h1) (fun a ha => by cases ha; exact aZ h1 (fun x hx => (List.mem_cons_of_mem _ hx)) rfl) (by simp only [List.length_append,List.length_cons,List.length_nil,List.flatten_cons,List.flatten_nil] at hb ⊢; omega) (by simp)) (fun A114 c114 => ab (ao (bX rfl (bj (J := Option Addr × Nat) (A114,c114) rfl trivial (fun w2 hw2 => bO (by simp) (by omega) (by omega) (hw2.sel [2,3] (by decide)))))))))))
               · skip
                 exact absurd q8 (by omega)
             · skip
               exact tri_slo [(6,_),(4,_),(0,_)] rfl (aa (ai rfl rfl (aQ aY aX .z rfl rfl (vs := ([.int .i64 o,.int .i64 v.k,.int .i64 v.n,.string (B v.s),.string (B t),.string (B n),.int .i64 cc,.slice Ax al.length kx] : List Value)) rfl rfl (ai rfl rfl (aC [_] rfl rfl rfl rfl Tryz.call59 (fun w1 h1 h2 h3 => binK o cc v t n al Ax kx xs low bl pb _ _ _ _ _ w1 h2 (hV.sub (PSub.of h1 h3)) hkx (hR _ _ rfl rfl w1 h1) hxb (ExsK.stab (hV.pe.st (PSub.of h1 h3)) _ _ hxs) hdm hd hb (by omega) (har2 (by omega)) hlow ih) (fun A33 c33 => ab (ao (bX rfl (bj (J := Option Addr × Nat) (A33,c33) rfl trivial (fun w2 hw2 => bO (by simp) (by omega) (by omega) (hw2.sel [1,2] (by decide))))))))))))
end Go.Proofs.YtjbpkcbefmpfgaaGreatDoor
namespace Go.Proofs.YtjbpkcbefmpfgaaGreatDoor
open Go.WK Go.RowKit 
theorem nY : bs Tryz.prog 30 4 = some 6 := by kernel_rfl
theorem zero27 : (Tryz.prog.info? 27).map (·.zero) = some (some (.agg #[.int .i64 0,.int .i64 0,.string .empty])) := by kernel_rfl
theorem wrapK_ (o cc : Int) (v : Val) (t n : List UInt8) (al : List Ex) (Ax : Option Addr) (kx : Nat) (_ : List Value) (low : Int) (bl : List Nat) (pb : Nat) (A : Option Addr) (c : Nat) (l : List UInt8) (d m : Int) (w : World) (hP : fw w pb A c l d m) (hV : PV w (prL pb A) bl) (hK : ExK bl w (.mk o v t n cc al) ([.int .i64 o,.int .i64 v.k,.int .i64 v.n,.string (B v.s),.string (B t),.string (B n),.int .i64 cc,.slice Ax al.length kx] : List Value)) (hdm : 0 ≤ d ∧ d ≤ m) (hd : d + ((Ex.txt (.mk o v t n cc al) low).2 : Int) ≤ 140737488355328) (hb : l.length + (Ex.txt (.mk o v t n cc al) low).1.length ≤ 70368744177664) (hlow : lvl o < low) (ih : ∀ (cs : List Value) (pb : Nat) (A : Option Addr) (c : Nat) (l : List UInt8) (d m : Int) (w : World),fw w pb A c l d m → PV w (prL pb A) bl → ExK bl w (.mk o v t n cc al) cs → 0 ≤ d ∧ d ≤ m → d + ((Ex.txt (.mk o v t n cc al) 1).2 : Int) ≤ 140737488355328 → l.length + (Ex.txt (.mk o v t n cc al) 1).1.length ≤ 70368744177664 → Calls Tryz.prog 26 #[.pointer (some ⟨pb,0,none⟩),.agg cs.toArray,.int .i64 1] w (PrT w pb A (l ++ (Ex.txt (.mk o v t n cc al) 1).1) d (max m (d + ((Ex.txt (.mk o v t n cc al) 1).2 : Int))))) : Calls Tryz.prog 26 #[.pointer (some ⟨pb,0,none⟩),.agg ([.int .i64 o,.int .i64 v.k,.int .i64 v.n,.string (B v.s),.string (B t),.string (B n),.int .i64 cc,.slice Ax al.length kx] : List Value).toArray,.int .i64 low] w (PrT w pb A (l ++ (Ex.txt (.mk o v t n cc al) low).1) (d) (max m (d + ((Ex.txt (.mk o v t n cc al) low).2 : Int)))) := by
 refine ax (args := [.pointer (some ⟨pb,0,none⟩),.agg ([.int .i64 o,.int .i64 v.k,.int .i64 v.n,.string (B v.s),.string (B t),.string (B n),.int .i64 cc,.slice Ax al.length kx] : List Value).toArray,.int .i64 low]) (lent := prL pb A) (H := prD pb A c l d m) Tryz.func26 rfl Tryz.ntmps26 rfl (Sat.cx hP) ((show Tri _ [(0,_),(1,_),(2,_)] _ _ _ from ?_))
 have hl8 := lN o
 have e1 : Ex.txt (.mk o v t n cc al) 1 = Ex.core (.mk o v t n cc al) := dX (by show ¬ lvl o < 1; omega)
 rw [iw hlow, ← e1] at hd hb ⊢
 simp only at hd hb ⊢
 refine ae (aa (cl _ rfl rfl rfl (fun b4 => triL_nilN (ae (aa (aj cC rfl rfl (ak bK N0 rfl rfl rfl (aA (first := []) (cap := []) rfl rfl rfl Tryz.call56 (fun w1 h1 => levelK o w1) (o_assignN rfl rfl (ae (ae (tri_slo [(6,_),(4,_),(0,_),(2,_)] rfl (aa (ai rfl rfl (ai rfl rfl (cv rfl rfl rfl (triL_nilN (ar rfl (fun q0 => ?_) (fun q0 => ?_)))))))))))))))))))
 · skip
   exact ae (tri_slo [(4,_),(0,_)] rfl (aa (ai rfl rfl (aC [_] rfl rfl rfl rfl Tryz.call57 (fun w1 h1 h2 h3 => l0 (1) pb _ _ _ _ _ w1 h2 (by omega) (by omega)) (fun A16 c16 => triL_nilN (ae (aa (ai rfl rfl (bA Tryz.underlying23 zs9 rfl rfl rfl rfl rfl (by decide) (by decide) (fun b18 => aC [_,_] rfl rfl rfl rfl Tryz.call20 (fun w1 h1 h2 h3 => cL [[40]] _ _ pb _ _ _ _ _ w1 h2 (RdS.row .z w1 h1) (fun a ha => by cases ha; exact aZ h1 (fun x hx => (List.mem_cons_of_mem _ hx)) rfl) (by simp only [List.length_append,List.length_cons,List.length_nil,List.flatten_cons,List.flatten_nil] at hb ⊢; omega) (by simp)) (fun A19 c19 => triL_nilN (ae (tri_slo [(4,_),(0,_)] rfl (aa (ai rfl rfl (aQ aY aX (.s .z) rfl rfl (vs := ([.int .i64 o,.int .i64 v.k,.int .i64 v.n,.string (B v.s),.string (B t),.string (B n),.int .i64 cc,.slice Ax al.length kx] : List Value)) rfl rfl (aC [_,_] rfl rfl rfl rfl Tryz.call26 (fun w1 h1 h2 h3 => ih _ pb _ _ _ _ _ w1 h2 (hV.sub (PSub.of h1 h3)) (hK.psub hV.pe (PSub.of h1 h3)) (by omega) (by omega) (by simp only [List.length_append,List.length_cons,List.length_nil,List.flatten_cons,List.flatten_nil] at hb ⊢; omega)) (fun A22 c22 => triL_nilN (ae (tri_slo [(0,_)] rfl (aa (ai rfl rfl (bA Tryz.underlying23 zs9 rfl rfl rfl rfl rfl (by decide) (by decide) (fun b24 => aC [_,_,_] rfl rfl rfl rfl Tryz.call20 (fun w1 h1 h2 h3 => cL [[41]] _ _ pb _ _ _ _ _ w1 h2 (RdS.row .z w1 h1) (fun a ha => by cases ha; exact aZ h1 (fun x hx => (List.mem_cons_of_mem _ (List.mem_cons_of_mem _ hx))) rfl) (by simp only [List.length_append,List.length_cons,List.length_nil,List.flatten_cons,List.flatten_nil] at hb ⊢; omega) (by simp)) (fun A25 c25 => triL_nilN (ae (aa (ai rfl rfl (aC [_,_,_] rfl rfl rfl rfl Tryz.call57 (fun w1 h1 h2 h3 => l0 (-1) pb _ _ _ _ _ w1 h2 (by omega) (by omega)) (fun A27 c27 => triL_nilN (aq (am (end0 rfl (bj (J := Option Addr × Nat) (A27,c27) rfl trivial (fun w2 hw2 => bO (by simp) (by omega) (by omega) (hw2.sel [3,4] (by decide)))))))))))))))))))))))))))))))))))))
 · skip
   exact absurd hlow q0
theorem exprK : ∀ (n : Nat) (e : Ex),e.size < n → e.may = true → e.ok → PX e := by
 intro n
 induction n with
 | zero => intro e h; omega
 | succ n ih =>
  intro e hs hm ho
  obtain ⟨o,v,t,nn,cc,al⟩ := e
  obtain ⟨m1,m2,m3,m4,m5⟩ := mN hm
  have ih2 : ∀ i,i < al.length → PX (al.getD i Ex.zero) := fun i hi => ih _ (by have := Ex.size_at (o := o) (c := cc) (v := v) (t := t) (n := nn) hi; omega) (m5 i hi) (Ex.ok_at ho hi)
  have hof : o = 1 → fit v := fun h => fit_of (m2 h) ho.2.1
  have core : ∀ low : Int,¬ lvl o < low → ∀ (bl : List Nat) (cs : List Value) (pb : Nat) (A : Option Addr) (c : Nat) (l : List UInt8) (d m : Int) (w : World),fw w pb A c l d m → PV w (prL pb A) bl → ExK bl w (.mk o v t nn cc al) cs → 0 ≤ d ∧ d ≤ m → d + ((Ex.txt (.mk o v t nn cc al) low).2 : Int) ≤ 140737488355328 → l.length + (Ex.txt (.mk o v t nn cc al) low).1.length ≤ 70368744177664 →
    Calls Tryz.prog 26 #[.pointer (some ⟨pb,0,none⟩),.agg cs.toArray,.int .i64 low] w (PrT w pb A (l ++ (Ex.txt (.mk o v t nn cc al) low).1) d (max m (d + ((Ex.txt (.mk o v t nn cc al) low).2 : Int)))) := by
   intro low hl bl cs pb A c l d m w h1 h2 h3 h4 h5 h6
   obtain ⟨Ax,kx,xs,rfl,a1,a2,a3,a4⟩ := h3
   exact coreK_ o cc v t nn al Ax kx xs low bl pb A c l d m w h1 h2 a1 a2 a3 a4 h4 h5 h6 hl hof m3 m4 m1 ih2
  intro low bl cs pb A c l d m w h1 h2 h3 h4 h5 h6
  by_cases hl : lvl o < low
  · have hk := h3
    obtain ⟨Ax,kx,xs,rfl,_⟩ := h3
    have hl8 := lN o
    exact wrapK_ o cc v t nn al Ax kx xs low bl pb A c l d m w h1 h2 hk h4 h5 h6 hl (fun cs pb A c l d m w => core 1 (by omega) bl cs pb A c l d m w)
  · exact core low hl bl cs pb A c l d m w h1 h2 h3 h4 h5 h6
theorem dE (s : List UInt8) (w : World) (hs : s.length ≤ 70368744177664) : Calls Tryz.prog 30 #[.string (B s)] w (cj w (.bool (nameOk s))) := by
 refine ax (args := [.string (B s)]) (lent := []) (H := []) Tryz.func30 rfl Tryz.ntmps30 rfl (Sat.start _ _ _ _) ((show Tri _ [(0,_)] _ _ _ from ae (aa (o_assignN rfl rfl (ae (aa (ai rfl rfl (aA (first := []) (cap := []) rfl rfl rfl Tryz.call68 (fun w1 h1 => nameRk s w1 (by omega)) (ai rfl rfl ?_)))))))))
 refine' aD [_,_,_] [(2,_)] (dj := 5) (dr := 8) rfl rfl (fun g1 => ?_) ⟨_,rfl,rfl,rfl,(.cons rfl (.nil _))⟩ rfl ?_
 rotate_left
 · skip
   exact ai rfl rfl (aA (first := []) (cap := []) rfl rfl rfl Tryz.call69 (fun w1 h1 => wordK s w1) (cZ rfl rfl (ab (Piece.mk rfl rfl (.cons rfl (.nil _)) (fun _ h => h)))))
 refine o_assignN rfl rfl (aq (aW rfl rfl ?_)); exact fun w1 hw1 => ⟨congrArg (fun b => Ending.returned (.bool b)) (by unfold nameOk; rw [o3]),hw1.chg⟩
theorem pc (n k : Nat) (w : World)  : Calls Tryz.prog 31 #[.int .i64 (n : Int),.int .i64 (k : Int)] w (cj w (.bool (fL n k))) := by
 refine ax (args := [.int .i64 (n : Int),.int .i64 (k : Int)]) (lent := []) (H := []) Tryz.func31 rfl Tryz.ntmps31 rfl (Sat.start _ _ _ _) ((show Tri _ [(0,_),(1,_)] _ _ _ from ae (aa (o_assignN rfl rfl (ae (aa (ai rfl rfl (jp rfl rfl rfl (ai rfl rfl ?_)))))))))
 refine' aD [_,_,_] [(4,_)] (dj := 7) (dr := 10) rfl rfl (fun g1 => ?_) ⟨_,rfl,rfl,rfl,(.cons rfl (.nil _))⟩ rfl ?_
 rotate_left
 · skip
   exact ai rfl rfl (ai rfl rfl (iW rfl rfl rfl (ab (Piece.mk rfl rfl (.cons rfl (.nil _)) (fun _ h => h)))))
 refine o_assignN rfl rfl (aq (aW rfl rfl ?_)); exact fun w1 hw1 => ⟨congrArg (fun b => Ending.returned (.bool b)) (by unfold fL; congr 1 <;> exact decide_eq_decide.2 (by omega)),hw1.chg⟩
theorem bareK (o cc : Int) (v : Val) (t n : List UInt8) (al : List Ex) (Ax : Option Addr) (kx : Nat) (op : Int) (w : World)  : Calls Tryz.prog 70 #[.agg ([.int .i64 o,.int .i64 v.k,.int .i64 v.n,.string (B v.s),.string (B t),.string (B n),.int .i64 cc,.slice Ax al.length kx] : List Value).toArray,.int .i64 op] w (cj w (.bool (bareX (.mk o v t n cc al) op))) := by
 refine ax (args := [.agg ([.int .i64 o,.int .i64 v.k,.int .i64 v.n,.string (B v.s),.string (B t),.string (B n),.int .i64 cc,.slice Ax al.length kx] : List Value).toArray,.int .i64 op]) (lent := []) (H := []) Tryz.func70 rfl Tryz.ntmps70 rfl (Sat.start _ _ _ _) ((show Tri _ [(0,_),(1,_)] _ _ _ from ae (aa (cl _ rfl rfl rfl (fun b2 => o_assignN rfl rfl (ae (aa (aj cC rfl rfl (ak bK N0 rfl rfl rfl (ai rfl rfl (az rfl rfl rfl (ai rfl rfl ?_))))))))))))
 refine' aD [_,_,_,_] [(4,_),(2,_)] (dj := 9) (dr := 13) rfl rfl (fun g1 => ?_) ⟨_,rfl,rfl,rfl,(.cons rfl (.cons rfl (.nil _)))⟩ rfl ?_
 rotate_left
 · skip
   exact aj jn rfl rfl (aQ ja kJ .z rfl rfl (vs := Val.cs v) rfl rfl (aS lW rfl rfl (o_eqlV nV rfl rfl rfl (ab (Piece.mk rfl rfl (.cons rfl (.cons rfl (.nil _))) (fun _ h => h))))))
 refine ai rfl rfl ?_
 refine' aD [_,_,_] [(4,_),(2,_)] (dj := 15) (dr := 18) rfl rfl (fun g2 => ?_) ⟨_,rfl,rfl,rfl,(.cons rfl (.cons rfl (.nil _)))⟩ rfl ?_
 rotate_left
 · skip
   exact aj gk rfl rfl (ak bn N0 rfl rfl rfl (bz rfl rfl rfl (ab (Piece.mk rfl rfl (.cons rfl (.cons rfl (.nil _))) (fun _ h => h)))))
 refine ai rfl rfl ?_
 refine' aD [_,_,_] [(4,_),(2,_)] (dj := 20) (dr := 23) rfl rfl (fun g3 => ?_) ⟨_,rfl,rfl,rfl,(.cons rfl (.cons rfl (.nil _)))⟩ rfl ?_
 rotate_left
 · skip
   exact aj gj rfl rfl (ak bn N0 rfl rfl rfl (bz rfl rfl rfl (ab (Piece.mk rfl rfl (.cons rfl (.cons rfl (.nil _))) (fun _ h => h)))))
 refine ai rfl rfl ?_
 refine' aD [_,_,_] [(4,_),(2,_)] (dj := 25) (dr := 28) rfl rfl (fun g4 => ?_) ⟨_,rfl,rfl,rfl,(.cons rfl (.cons rfl (.nil _)))⟩ rfl ?_
 rotate_left
 · skip
   exact aj nY rfl rfl (ak bK N0 rfl rfl rfl (az rfl rfl rfl (ab (Piece.mk rfl rfl (.cons rfl (.cons rfl (.nil _))) (fun _ h => h)))))
 refine ai rfl rfl ?_
 refine' aD [_,_,_,_] [(4,_)] (dj := 30) (dr := 34) rfl rfl (fun g5 => ?_) ⟨_,rfl,rfl,rfl,(.cons rfl (.nil _))⟩ rfl ?_
 rotate_left
 · skip
   exact aj dN rfl rfl (ak dW N0 rfl rfl rfl (aU Tryz.underlying28 rfl rfl (az rfl rfl rfl (ab (Piece.mk rfl rfl (.cons rfl (.nil _)) (fun _ h => h))))))
 refine o_assignN rfl rfl (aq (aW rfl rfl ?_)); exact fun w1 hw1 => ⟨congrArg (fun b => Ending.returned (.bool b)) (by exact bareX_eq o v t n cc al op),hw1.chg⟩
theorem lacksK (o cc : Int) (v : Val) (t n : List UInt8) (al : List Ex) (Ax : Option Addr) (kx : Nat) (w : World)  : Calls Tryz.prog 72 #[.agg ([.int .i64 o,.int .i64 v.k,.int .i64 v.n,.string (B v.s),.string (B t),.string (B n),.int .i64 cc,.slice Ax al.length kx] : List Value).toArray] w (cj w (.bool (fk (.mk o v t n cc al)))) := by
 refine ax (args := [.agg ([.int .i64 o,.int .i64 v.k,.int .i64 v.n,.string (B v.s),.string (B t),.string (B n),.int .i64 cc,.slice Ax al.length kx] : List Value).toArray]) (lent := []) (H := []) Tryz.func72 rfl Tryz.ntmps72 rfl (Sat.start _ _ _ _) ((show Tri _ [(0,_)] _ _ _ from ae (aa (cl _ rfl rfl rfl (fun b1 => o_assignN rfl rfl (ae (aa (aQ aY aX N0 rfl rfl rfl rfl (aA (first := []) (cap := []) rfl rfl rfl Tryz.call70 (fun w1 h1 => bareK o cc v t n al Ax kx 0 w1) (o_assignN rfl rfl (aq (aW rfl rfl ?_)))))))))))); exact fun w1 hw1 => ⟨rfl,hw1.chg⟩
def MX (e : Ex) : Prop := ∀ (cs : List Value) (w : World),ExC w e cs → e.ok → e.size ≤ 70368744177664 → Calls Tryz.prog 32 #[.agg cs.toArray] w (cj w (.bool e.may))
theorem ar1 {o : Int} (h : (((decide (o = 4) || decide (o = 5)) || decide (o = 6)) || decide (o = 7)) = true) : arity o = 1 := by
 simp only [Bool.or_eq_true,decide_eq_true_eq] at h
 unfold arity; rw [if_pos (by omega)]
theorem ar2 {o : Int} (h : (((decide (o = 4) || decide (o = 5)) || decide (o = 6)) || decide (o = 7)) = false) : arity o = 2 := by
 simp only [Bool.or_eq_false_iff,decide_eq_false_iff_not] at h
 unfold arity; rw [if_neg (by omega)]
set_option maxHeartbeats 1000000 in
theorem mayStep (o cc : Int) (v : Val) (t n : List UInt8) (al : List Ex) (Ax : Option Addr) (kx : Nat) (xs : List Value) (w : World) (_ : al.length ≤ kx) (hxr : Rd w Ax xs) (hxs : ExsC w al xs) (ho : Ex.ok (.mk o v t n cc al)) (hz : Ex.size (.mk o v t n cc al) ≤ 70368744177664) (ih : ∀ i,i < al.length → MX (al.getD i Ex.zero)) : Calls Tryz.prog 32 #[.agg ([.int .i64 o,.int .i64 v.k,.int .i64 v.n,.string (B v.s),.string (B t),.string (B n),.int .i64 cc,.slice Ax al.length kx] : List Value).toArray] w (cj w (.bool (Ex.may (.mk o v t n cc al)))) := by
 refine ax (args := [.agg ([.int .i64 o,.int .i64 v.k,.int .i64 v.n,.string (B v.s),.string (B t),.string (B n),.int .i64 cc,.slice Ax al.length kx] : List Value).toArray]) (lent := []) (H := []) Tryz.func32 rfl Tryz.ntmps32 rfl (Sat.start _ _ _ _) ((show Tri _ [(0,_)] _ _ _ from ?_))
 have hR : ∀ cx H,cx.w0 = w → cx.lent = [] → RdS cx H Ax xs := fun cx H q1 q2 => RdS.lent (by rw [q1]; exact hxr) (fun b hb => by rw [q2]; simp)
 have hxl := hxs.len
 have hz2 : v.s.length + t.length + n.length ≤ 70368744177664 ∧ al.length ≤ 70368744177664 := by have := Exs.len_size al; simp only [Ex.size] at hz; omega
 refine ae (aa (cl _ rfl rfl rfl (fun b1 => o_assignN rfl rfl (ae (aa (o_assignN rfl rfl (cr (ι := Nat) (fun i => [(1,.pointer (some ⟨b1,0,none⟩)),(3,.int .i64 (arity o : Int))]) (fun i => [box b1 30 ([.int .i64 o,.int .i64 v.k,.int .i64 v.n,.string (B v.s),.string (B t),.string (B n),.int .i64 cc,.slice Ax al.length kx] : List Value)]) (fun i => (4 ≤ o ∧ o ≤ 21)) ?_ (fun i hj => ?_))))))))
 · skip
   refine av (ae (aa (aj cC rfl rfl (ak bK N0 rfl rfl rfl (az rfl rfl rfl (o_assignN rfl rfl (ar rfl (fun q0 => ?_) (fun q0 => ?_))))))))
   · skip
     subst q0
     refine ae (tri_slo [(1,_)] rfl (aa (aj jn rfl rfl (aQ ja kJ .z rfl rfl (vs := Val.cs v) rfl rfl (aM (Val.cs Val.zero) rfl zero27 rfl (fun b4 => r5 kJ N0 rfl rfl rfl (triL_nilN (ae (aa (aS lW rfl rfl (aj jn rfl rfl (aI kJ (.s .z) rfl rfl rfl (vs := Val.cs Val.zero) rfl rfl (Nat.le_of_ble_eq_true rfl) rfl (triL_nilN (ae (tri_slo [(4,_),(1,_)] rfl (aa (aQ aY aX (.s .z) rfl rfl (vs := ([.int .i64 1,.int .i64 (Val.zero).k,.int .i64 (Val.zero).n,.string (B (Val.zero).s),.string (B t),.string (B n),.int .i64 cc,.slice Ax al.length kx] : List Value)) rfl rfl (aA (first := []) (cap := []) rfl rfl rfl Tryz.call70 (fun w1 h1 => bareK 1 cc Val.zero t n al Ax kx 1 w1) (ai rfl rfl ?_)))))))))))))))))))
     refine' aD [_,_] [(4,_)] (dj := 18) (dr := 20) rfl rfl (fun g1 => ?_) ⟨_,rfl,rfl,rfl,(.cons rfl (.nil _))⟩ rfl ?_
     rotate_left
     · skip
       exact jA ja kJ N0 rfl rfl (aA (first := []) (cap := []) rfl rfl rfl Tryz.call71 (fun w1 h1 => mayK v w1 ⟨ho.2.1,by omega⟩) (ab (Piece.mk rfl rfl (.cons rfl (.nil _)) (fun _ h => h))))
     refine ai rfl rfl ?_
     refine' aD [_,_,_,_,_,_,_,_] [] (dj := 22) (dr := 30) rfl rfl (fun g2 => ?_) ⟨_,rfl,rfl,rfl,(.nil _)⟩ rfl ?_
     rotate_left
     · skip
       refine aj qx rfl rfl (ak bK N0 rfl rfl rfl (cw rfl rfl rfl (ai rfl rfl ?_)))
       refine' bd [_,_,_] [(22,_)] (dj := 26) (dr := 29) rfl rfl (fun g3 => ?_) ⟨_,rfl,rfl,rfl,(.cons rfl (.nil _))⟩ rfl ?_
       rotate_left
       · skip
         exact aj ku rfl rfl (ak agg2 N0 rfl rfl rfl (jp rfl rfl rfl (ab (Piece.mk rfl rfl (.cons rfl (.nil _)) (fun _ h => h)))))
       exact ab (Piece.mk rfl rfl (.nil _) (fun _ h => h))
     refine o_assignN rfl rfl (aq (ap (am (aW rfl rfl ?_)))); exact fun w1 hw1 => ⟨congrArg (fun b => Ending.returned (.bool b)) (by rw [may_1]),hw1.chg⟩
   · skip
     refine ae (tri_slo [(3,_),(1,_)] rfl (aa (aj cC rfl rfl (ak bK N0 rfl rfl rfl (az rfl rfl rfl (o_assignN rfl rfl (ar rfl (fun q1 => ?_) (fun q1 => ?_))))))))
     · skip
       subst q1
       refine ae (tri_slo [(1,_)] rfl (aa (aj gj rfl rfl (ak bn N0 rfl rfl rfl (aA (first := []) (cap := []) rfl rfl rfl Tryz.call30 (fun w1 h1 => dE n w1 (by omega)) (ai rfl rfl ?_))))))
       refine' aD [_,_,_,_,_,_,_,_] [(1,_)] (dj := 39) (dr := 47) rfl rfl (fun g4 => ?_) ⟨_,rfl,rfl,rfl,(.cons rfl (.nil _))⟩ rfl ?_
       rotate_left
       · skip
         refine aj gk rfl rfl (ak bn N0 rfl rfl rfl (bz rfl rfl rfl (ai rfl rfl ?_)))
         refine' bd [_,_,_] [(39,_),(1,_)] (dj := 43) (dr := 46) rfl rfl (fun g5 => ?_) ⟨_,rfl,rfl,rfl,(.cons rfl (.cons rfl (.nil _)))⟩ rfl ?_
         rotate_left
         · skip
           exact aj gk rfl rfl (ak bn N0 rfl rfl rfl (aA (first := []) (cap := []) rfl rfl rfl Tryz.call30 (fun w1 h1 => dE t w1 (by omega)) (ab (Piece.mk rfl rfl (.cons rfl (.cons rfl (.nil _))) (fun _ h => h)))))
         exact ab (Piece.mk rfl rfl (.cons rfl (.nil _)) (fun _ h => h))
       refine o_assignN rfl rfl (ae (aa (aj gj rfl rfl (aI sz9 N0 rfl rfl rfl rfl rfl (Nat.le_of_ble_eq_true rfl) rfl (aj gk rfl rfl (aI sz9 N0 rfl rfl rfl rfl rfl (Nat.le_of_ble_eq_true rfl) rfl (triL_nilN (ae (aa (ai rfl rfl (ai rfl rfl ?_)))))))))))
       refine' aD [_,_] [] (dj := 52) (dr := 54) rfl rfl (fun g6 => ?_) ⟨_,rfl,rfl,rfl,(.nil _)⟩ rfl ?_
       rotate_left
       · skip
         exact aQ aY aX .z rfl rfl (vs := ([.int .i64 2,.int .i64 (v).k,.int .i64 (v).n,.string (B (v).s),.string (B []),.string (B []),.int .i64 cc,.slice Ax al.length kx] : List Value)) rfl rfl (aA (first := []) (cap := []) rfl rfl rfl Tryz.call70 (fun w1 h1 => bareK 2 cc v [] [] al Ax kx 2 w1) (ab (Piece.mk rfl rfl (.nil _) (fun _ h => h))))
       refine o_assignN rfl rfl (aq (ap (am (aW rfl rfl ?_)))); exact fun w1 hw1 => ⟨congrArg (fun b => Ending.returned (.bool b)) (by rw [may_2]),hw1.chg⟩
     · skip
       refine ae (tri_slo [(3,_),(1,_)] rfl (aa (aj cC rfl rfl (ak bK N0 rfl rfl rfl (az rfl rfl rfl (ai rfl rfl ?_))))))
       refine' bd [_,_,_] [(3,_),(1,_)] (dj := 60) (dr := 63) rfl rfl (fun g7 => ?_) ⟨_,rfl,rfl,rfl,(.cons rfl (.cons rfl (.nil _)))⟩ rfl ?_
       rotate_left
       · skip
         exact aj cC rfl rfl (ak bK N0 rfl rfl rfl (az rfl rfl rfl (ab (Piece.mk rfl rfl (.cons rfl (.cons rfl (.nil _))) (fun _ h => h)))))
       refine ai rfl rfl ?_
       refine' bd [_,_,_] [(3,_),(1,_)] (dj := 65) (dr := 68) rfl rfl (fun g8 => ?_) ⟨_,rfl,rfl,rfl,(.cons rfl (.cons rfl (.nil _)))⟩ rfl ?_
       rotate_left
       · skip
         exact aj cC rfl rfl (ak bK N0 rfl rfl rfl (az rfl rfl rfl (ab (Piece.mk rfl rfl (.cons rfl (.cons rfl (.nil _))) (fun _ h => h)))))
       refine ai rfl rfl ?_
       refine' bd [_,_,_] [(3,_),(1,_)] (dj := 70) (dr := 73) rfl rfl (fun g9 => ?_) ⟨_,rfl,rfl,rfl,(.cons rfl (.cons rfl (.nil _)))⟩ rfl ?_
       rotate_left
       · skip
         exact aj cC rfl rfl (ak bK N0 rfl rfl rfl (az rfl rfl rfl (ab (Piece.mk rfl rfl (.cons rfl (.cons rfl (.nil _))) (fun _ h => h)))))
       refine o_assignN rfl rfl (aF rfl (fun q2 => ?_) (fun q2 => ?_))
       · skip
         exact aa (aG rfl rfl (ab (ao (ag (⟨0,(.cons rfl (.cons (by rw [ar1 q2]; rfl) (.nil _))),fun _ h => h,by simp only [Bool.or_eq_true,decide_eq_true_eq] at q2; omega⟩)))))
       · skip
         refine ae (aa (aj cC rfl rfl (ak bK N0 rfl rfl rfl (cv rfl rfl rfl (ai rfl rfl ?_)))))
         refine' bd [_,_,_] [(3,_),(1,_)] (dj := 79) (dr := 82) rfl rfl (fun g10 => ?_) ⟨_,rfl,rfl,rfl,(.cons rfl (.cons rfl (.nil _)))⟩ rfl ?_
         rotate_left
         · skip
           exact aj cC rfl rfl (ak bK N0 rfl rfl rfl (fA rfl rfl rfl (ab (Piece.mk rfl rfl (.cons rfl (.cons rfl (.nil _))) (fun _ h => h)))))
         refine o_assignN rfl rfl (aF rfl (fun q3 => ?_) (fun q3 => ?_))
         · skip
           refine ae (aw [] (.nil _) (aa (o_assignN rfl rfl (aq (ap (am (aW rfl rfl ?_))))))); exact fun w1 hw1 => ⟨congrArg (fun b => Ending.returned (.bool b)) (by exact (may_no v t n cc al q0 q1 (by simp only [Bool.or_eq_true,decide_eq_true_eq] at q3; simp only [Bool.or_eq_false_iff,decide_eq_false_iff_not] at q2; omega)).symm),hw1.chg⟩
         · skip
           exact an (ao (ag (⟨0,(.cons rfl (.cons (by rw [ar2 q2]; rfl) (.nil _))),fun _ h => h,by simp only [Bool.or_eq_false_iff,decide_eq_false_iff_not] at q3; omega⟩)))
 have hn1 : o ≠ 1 := by omega
 have hn2 : o ≠ 2 := by omega
 refine ae (ae (aa (aj dN rfl rfl (ak dW N0 rfl rfl rfl (aU Tryz.underlying28 rfl rfl (ai rfl rfl (cw rfl rfl rfl (ai rfl rfl ?_))))))))
 refine' bd [_,_,_,_] [(1,_)] (dj := 89) (dr := 93) rfl rfl (fun g11 => ?_) ⟨_,rfl,rfl,rfl,(.cons rfl (.nil _))⟩ rfl ?_
 rotate_left
 · skip
   exact aj jn rfl rfl (aQ ja kJ .z rfl rfl (vs := Val.cs v) rfl rfl (aS lW rfl rfl (o_neqV nV rfl rfl rfl (ab (Piece.mk rfl rfl (.cons rfl (.nil _)) (fun _ h => h))))))
 refine ai rfl rfl ?_
 refine' bd [_,_,_] [(1,_)] (dj := 95) (dr := 98) rfl rfl (fun g12 => ?_) ⟨_,rfl,rfl,rfl,(.cons rfl (.nil _))⟩ rfl ?_
 rotate_left
 · skip
   exact aj gk rfl rfl (ak bn N0 rfl rfl rfl (db rfl rfl rfl (ab (Piece.mk rfl rfl (.cons rfl (.nil _)) (fun _ h => h)))))
 refine ai rfl rfl ?_
 refine' bd [_,_,_] [(1,_)] (dj := 100) (dr := 103) rfl rfl (fun g13 => ?_) ⟨_,rfl,rfl,rfl,(.cons rfl (.nil _))⟩ rfl ?_
 rotate_left
 · skip
   exact aj gj rfl rfl (ak bn N0 rfl rfl rfl (db rfl rfl rfl (ab (Piece.mk rfl rfl (.cons rfl (.nil _)) (fun _ h => h)))))
 refine ai rfl rfl ?_
 refine' bd [_,_,_] [(1,_)] (dj := 105) (dr := 108) rfl rfl (fun g14 => ?_) ⟨_,rfl,rfl,rfl,(.cons rfl (.nil _))⟩ rfl ?_
 rotate_left
 · skip
   exact aj nY rfl rfl (ak bK N0 rfl rfl rfl (cw rfl rfl rfl (ab (Piece.mk rfl rfl (.cons rfl (.nil _)) (fun _ h => h)))))
 refine triL_nilN (aF rfl (fun q4 => ?_) (fun q4 => ?_))
 · skip
   refine ae (aa (o_assignN rfl rfl (aq (am (aW rfl rfl ?_))))); exact fun w1 hw1 => ⟨congrArg (fun b => Ending.returned (.bool b)) (by exact (may_bad v t n cc al hn1 hn2 q4).symm),hw1.chg⟩
 · skip
   refine an (ag (ae (ae (aa (aj dN rfl rfl (ak dW N0 rfl rfl rfl (aU Tryz.underlying28 rfl rfl (ai rfl rfl (triL_nilN (av (bC (ι := Nat) (F := fun i => [(111,.slice Ax al.length kx),(112,.int .i64 (al.length : Int)),(113,.int .i64 (i : Int))]) (HH := fun i => [box b1 30 ([.int .i64 o,.int .i64 v.k,.int .i64 v.n,.string (B v.s),.string (B t),.string (B n),.int .i64 cc,.slice Ax al.length kx] : List Value)]) (Pu := fun i => i ≤ al.length ∧ (al.take i).all Ex.may = true) (μ := fun i => al.length - i) (0) (.cons rfl (.cons rfl (.cons rfl (.nil _)))) (fun _ h => h) (⟨Nat.zero_le _,rfl⟩) (fun i hi => ae (aa (cv rfl rfl rfl (triL_nilN (ae (ar rfl (fun q5 => ?_) (fun q5 => ?_))))))))))))))))))
   · skip
     refine an (ag (ae (av (ae ?_))))
     obtain ⟨ca,hca,hka⟩ := ExsC.at i hxs (by omega)
     refine aa (aT Tryz.underlying28 aX rfl rfl rfl (hR _ _ rfl rfl) (by omega) (by omega) (by omega) (by decide) (bv aY aX rfl rfl (hR _ _ rfl rfl) (vs := ca) hca hka.len (by decide) (aM _ rfl cR rfl (fun b7 => bF rfl hka.xc aX N0 rfl rfl rfl (triL_nilN (ae (aa (dt hka.xc aY aX N0 rfl rfl (aA (first := []) (cap := []) rfl rfl rfl Tryz.call32 (fun w1 h1 => ih i (by omega) ca w1 (ExC.chg h1.chg _ _ hka) (Ex.ok_at ho (by omega)) (by have := Ex.size_at (o := o) (c := cc) (v := v) (t := t) (n := n) (l := al) (i := i) (by omega); omega)) (cZ rfl rfl (triL_nilN (aF rfl (fun q6 => ?_) (fun q6 => ?_)))))))))))))
     · skip
       have q6 := cn q6
       refine ae (aw [] (.nil _) (aa (o_assignN rfl rfl (aq (ap (am (am (ap (am (aW rfl rfl ?_)))))))))); exact fun w1 hw1 => ⟨congrArg (fun b => Ending.returned (.bool b)) (by rw [rf v t n cc al hn1 hn2 hj q4]; exact (all_hit (by omega) q6).symm),hw1.chg⟩
     · skip
       have q6 := bS q6
       exact an (ao (ag (tri_slo [(111,_),(112,_),(113,_)] rfl (aa (bD rfl rfl rfl (by omega) (ai rfl rfl (triL_nilN (⟨i + 1,(.cons rfl (.cons rfl (.cons rfl (.nil _)))),(fun w2 hw2 => hw2.tail),⟨by omega,all_step (by omega) hi.2 q6⟩,by omega⟩))))))))
   · skip
     refine bg (au (au (aK (ag (ae (aw [] (.nil _) (aa (o_assignN rfl rfl (aq (aW rfl rfl ?_)))))))))); exact fun w1 hw1 => ⟨congrArg (fun b => Ending.returned (.bool b)) (by rw [rf v t n cc al hn1 hn2 hj q4, ← hi.2,List.take_of_length_le (by omega)]),hw1.chg⟩
end Go.Proofs.YtjbpkcbefmpfgaaGreatDoor
namespace Go.Proofs.YtjbpkcbefmpfgaaGreatDoor
open Go.WK Go.RowKit 
theorem rv : Tryz.prog.built 67 [] = some ([.slice none 0 0,.int .i64 0,.int .i64 0] : List Value).toArray := by kernel_rfl
theorem mayXK : ∀ (n : Nat) (e : Ex),e.size < n → MX e := by
 intro n
 induction n with
 | zero => intro e h; omega
 | succ n ih =>
  intro e hs
  obtain ⟨o,v,t,nn,cc,al⟩ := e
  intro cs w hc ho hz
  obtain ⟨Ax,kx,xs,rfl,h1,h2,h3⟩ := hc
  exact mayStep o cc v t nn al Ax kx xs w h1 h2 h3 ho hz (fun i hi => ih _ (by have := Ex.size_at (o := o) (c := cc) (v := v) (t := t) (n := nn) hi; omega))
theorem m6 (e : Ex) (bl : List Nat) (y : SL) (w : World) (h : ExR bl w e y) (ho : e.ok) (hz : e.size ≤ 70368744177664) : Calls Tryz.prog 32 #[.agg (bH e y).toArray] w (cj w (.bool e.may)) := mayXK (e.size + 1) e (by omega) _ w (ExK.c _ _ h) ho hz
theorem nZ (e : Ex) (y : SL) (w : World) : Calls Tryz.prog 72 #[.agg (bH e y).toArray] w (cj w (.bool (fk e))) := by
 obtain ⟨o,v,t,n,c,al⟩ := e
 exact lacksK o c v t n al y.A y.k w
theorem m7 (e : Ex) (hm : e.may = true) (ho : e.ok) (low : Int) (bl : List Nat) (y : SL) (pb : Nat) (A : Option Addr) (c : Nat) (l : List UInt8) (d m : Int) (w : World) (hP : fw w pb A c l d m) (hV : PV w (prL pb A) bl) (hK : ExR bl w e y) (hdm : 0 ≤ d ∧ d ≤ m) (hd : d + ((e.txt low).1.length : Int) ≤ 140737488355328) (hb : l.length + (e.txt low).1.length ≤ 70368744177664) :
  Calls Tryz.prog 26 #[.pointer (some ⟨pb,0,none⟩),.agg (bH e y).toArray,.int .i64 low] w (PrT w pb A (l ++ (e.txt low).1) d (max m (d + ((e.txt low).2 : Int)))) :=
 exprK (e.size + 1) e (by omega) hm ho low bl _ pb A c l d m w hP hV hK hdm (by have := deep_le (e.size + 1) e (by omega) hm low; omega) hb
theorem qC (e : Ex) (y : SL) (bl : List Nat) (w : World) (hK : ExR bl w e y) (ho : e.ok) (hz : e.size ≤ 70368744177664) (hbl : ∀ k ∈ bl,k < w.heap.size) : Calls Tryz.prog 33 #[.agg (bH e y).toArray] w (cj w (.bool (gB e))) := by
 refine ax (args := [.agg (bH e y).toArray]) (lent := []) (H := []) Tryz.func33 rfl Tryz.ntmps33 rfl (Sat.start _ _ _ _) ((show Tri _ [(0,_)] _ _ _ from ae (aa (cl _ rfl rfl rfl (fun b1 => o_assignN rfl rfl (ae (aa (aQ aY aX .z rfl rfl (vs := bH e y) rfl rfl (aA (first := []) (cap := []) rfl rfl rfl Tryz.call72 (fun w1 h1 => nZ e y w1) (ai rfl rfl ?_))))))))))
 refine' bd [_,_] [(2,_)] (dj := 5) (dr := 7) rfl rfl (fun g1 => ?_) ⟨_,rfl,rfl,rfl,(.cons rfl (.nil _))⟩ rfl ?_
 rotate_left
 · skip
   exact aQ aY aX .z rfl rfl (vs := bH e y) rfl rfl (aA (first := []) (cap := []) rfl rfl rfl Tryz.call32 (fun w1 h1 => m6 e bl y w1 (hK.stab (fun k hk => h1.chg.block k (hbl k hk) (by simp))) ho hz) (ab (Piece.mk rfl rfl (.cons rfl (.nil _)) (fun _ h => h))))
 refine o_assignN rfl rfl (aq (aW rfl rfl ?_)); exact fun w1 hw1 => ⟨rfl,hw1.chg⟩
theorem Sat.nilRow {cx : Cx} {H : List Chunk} {w : World} (h : Sat cx H w) (t : Nat) : Sat cx (row (.slice none 0 0) t 1 0 [] :: H) w :=
 h.fuse (l := []) _ (fun _ => ⟨rfl,.inl ⟨rfl,rfl⟩⟩) (fun k hk => by cases hk)
theorem l9 (e : Ex) (y : SL) (bl : List Nat) (w : World) (hV : PV w [] bl) (hK : ExR bl w e y) (ho : e.ok) (hz : e.size ≤ 70368744177664) (hT : e.may = true → (e.txt 1).1.length ≤ 70368744177664) : Calls Tryz.prog 13 #[.agg (bH e y).toArray] w (cj w (.tuple #[.string (B (prX e).1),.int .i64 (prX e).2])) := by
 refine ax (args := [.agg (bH e y).toArray]) (lent := []) (H := []) Tryz.func13 rfl Tryz.ntmps13 rfl (Sat.start _ _ _ _) ((show Tri _ [(0,_)] _ _ _ from ?_))
 have hbl : ∀ k ∈ bl,k < w.heap.size := fun k hk => (hV.pe.lt k hk).1
 rw [prX_told]
 refine ae (aa (cl _ rfl rfl rfl (fun b1 => aG rfl rfl (o_assignN rfl rfl (ae (ae (aa (aQ aY aX .z rfl rfl (vs := bH e y) rfl rfl (aA (first := []) (cap := []) rfl rfl rfl Tryz.call32 (fun w1 h1 => m6 e bl y w1 (hK.stab (fun k hk => h1.chg.block k (hbl k hk) (by simp))) ho hz) (cZ rfl rfl (triL_nilN (aF rfl (fun q0 => ?_) (fun q0 => ?_)))))))))))))
 · skip
   have q0 := cn q0
   refine ae (aw [] (.nil _) (aa (aG rfl rfl (o_assignN rfl rfl (aq (am (hU rfl rfl rfl ?_))))))); exact fun w1 hw1 => ⟨by rw [if_neg (fH q0)],hw1.chg⟩
 · skip
   have q0 := bS q0
   refine an (ag (ae (tri_slo [(1,_)] rfl (aa (aS rv rfl rfl (cl _ rfl rfl rfl (fun b9 => o_assignN rfl rfl (ae ?_))))))))
   have hT2 := hT q0
   refine Tri.heap (H' := [box b1 30 (bH e y)] ++ prD b9 none 0 [] 0 0) (fun w hw => (Sat.nilRow hw 5).sel [2,1,0] (by decide)) (aa (ai rfl rfl (aQ aY aX .z rfl rfl (vs := bH e y) rfl rfl (aC (pb := b9) [_] rfl rfl rfl rfl Tryz.call26 (fun w1 h1 h2 h3 => m7 e q0 ho 1 bl y b9 _ _ _ _ _ w1 h2 (hV.sub (PSub.of h1 h3)) (hK.stab (hV.pe.st (PSub.of h1 h3))) (by omega) (by omega) (by simp only [List.length_nil]; omega)) (fun A12 c12 => triL_nilN (ae (tri_slo [(4,_)] rfl (aa (ai rfl rfl (fT (J := Unit) (val := fun _ => .tuple #[.string (B (hG _ _).1),.int .i64 (hG _ _).2]) (D' := fun _ => prD b9 _ _ _ _ _) (Pu := fun _ => True) [_] (prD b9 _ _ _ _ _) [] (prL b9 _) rfl rfl rfl rfl Tryz.call28 (prD1 _ _ _ _ _ _) (prD2 _ _ _ _ _ _) (fun w1 h1 h2 => toldK b9 _ _ _ _ _ w1 h2 (by (try simp only [List.nil_append]); omega)) (fun _ _ => bh rfl rfl rfl (bh rfl rfl rfl (aG rfl rfl (o_assignN rfl rfl (aq (hU rfl rfl rfl ?_)))))))))))))))); exact fun w1 hw1 => ⟨by rw [if_pos q0,List.nil_append,show max (0 : Int) (0 + ((e.txt 1).2 : Int)) = ((e.txt 1).2 : Int) by omega],hw1.chg⟩
end Go.Proofs.YtjbpkcbefmpfgaaGreatDoor
namespace Go.Proofs.YtjbpkcbefmpfgaaGreatDoor
open Go.WK Go.RowKit 
theorem asR_ (s : List UInt8) (pb : Nat) (A : Option Addr) (c : Nat) (l : List UInt8) (m : Int) (w : World) (hP : fw w pb A c l 0 m) (_ : 0 ≤ m) (hb : l.length + (asT s).length ≤ 70368744177664) : Calls Tryz.prog 119 #[.pointer (some ⟨pb,0,none⟩),.string (B s)] w (PrT w pb A (l ++ asT s) 0 m) := by
 refine ax (args := [.pointer (some ⟨pb,0,none⟩),.string (B s)]) (lent := prL pb A) (H := prD pb A c l 0 m) Tryz.func119 rfl Tryz.ntmps119 rfl (Sat.cx hP) ((show Tri _ [(0,_),(1,_)] _ _ _ from ?_))
 unfold asT at hb ⊢
 refine ae (aa (ai rfl rfl (db rfl rfl rfl (triL_nilN (aF rfl (fun q0 => ?_) (fun q0 => ?_))))))
 · skip
   have q0 := of_decide_eq_true q0
   rw [if_neg q0] at hb ⊢
   exact aa (ai rfl rfl (ai rfl rfl (eG (parts := [_,_]) (dP [[32,97,115,32],s]) Tryz.underlying23 zs9 rfl rfl rfl rfl (by decide) (by decide) (fun b8 => aC (pb := pb) [_] rfl rfl rfl rfl Tryz.call20 (fun w1 h1 h2 h3 => cL [[32,97,115,32],s] _ _ pb _ _ _ _ _ w1 h2 (RdS.row .z w1 h1) (fun a ha => by cases ha; exact aZ h1 (fun x hx => hx) rfl) (by (try simp only [List.length_append,List.length_cons,List.length_nil,List.flatten_cons,List.flatten_nil] at hb ⊢); omega) (by simp)) (fun A9 c9 => ab (bX rfl (bj (J := Option Addr × Nat) (A9,c9) rfl trivial (fun w2 hw2 => bO (by simp) rfl (by rfl) (hw2.sel [1,2] (by decide))))))))))
 · skip
   have q0 := Decidable.not_not.1 (of_decide_eq_false q0)
   rw [if_pos q0] at hb ⊢
   exact an (bX rfl (bj (J := Option Addr × Nat) (A,c) rfl trivial (fun w2 hw2 => bO (by simp) rfl (by rfl) (hw2.sel [0,1] (by decide)))))
theorem n6 (e : Ex) (y : SL) (bl : List Nat) (pb : Nat) (A : Option Addr) (c : Nat) (l : List UInt8) (m : Int) (w : World) (hP : fw w pb A c l 0 m) (hm0 : 0 ≤ m) (hV : PV w (prL pb A) bl) (hK : ExR bl w e y) (ho : e.ok) (hmy : gB e = true) (hb : l.length + (fM e).1.length ≤ 70368744177664) : Calls Tryz.prog 60 #[.pointer (some ⟨pb,0,none⟩),.agg (bH e y).toArray] w (PrT w pb A (l ++ (fM e).1) 0 (max m ((fM e).2 : Int))) := by
 refine ax (args := [.pointer (some ⟨pb,0,none⟩),.agg (bH e y).toArray]) (lent := prL pb A) (H := prD pb A c l 0 m) Tryz.func60 rfl Tryz.ntmps60 rfl (Sat.cx hP) ((show Tri _ [(0,_),(1,_)] _ _ _ from ?_))
 unfold fM at hb ⊢
 refine ae (aa (cl _ rfl rfl rfl (fun b3 => triL_nilN (ae (aa (aj cC rfl rfl (ak bK N0 rfl rfl rfl (cw rfl rfl rfl (triL_nilN (ar rfl (fun q0 => ?_) (fun q0 => ?_)))))))))))
 · skip
   rw [if_neg q0] at hb ⊢
   exact ae (tri_slo [(3,_),(0,_)] rfl (aa (ai rfl rfl (bA Tryz.underlying23 zs9 rfl rfl rfl rfl rfl (by decide) (by decide) (fun b8 => aC (pb := pb) [_,_] rfl rfl rfl rfl Tryz.call20 (fun w1 h1 h2 h3 => cL [[32,119,104,101,114,101,32]] _ _ pb _ _ _ _ _ w1 h2 (RdS.row .z w1 h1) (fun a ha => by cases ha; exact aZ h1 (fun x hx => (List.mem_cons_of_mem _ hx)) rfl) (by (try simp only [cat,raw,List.length_append,List.length_cons,List.length_nil,List.flatten_cons,List.flatten_nil] at hb ⊢); omega) (by simp)) (fun A9 c9 => triL_nilN (aa (ai rfl rfl (aQ aY aX (.s .z) rfl rfl (vs := bH e y) rfl rfl (aC (pb := pb) [_,_] rfl rfl rfl rfl Tryz.call26 (fun w1 h1 h2 h3 => m7 e (mayb_may hmy q0) ho 1 bl y pb _ _ _ _ _ w1 h2 (hV.sub (PSub.of h1 h3)) (hK.stab (hV.pe.st (PSub.of h1 h3))) (by omega) (by (try simp only [cat,raw,List.length_append,List.length_cons,List.length_nil] at hb ⊢); omega) (by (try simp only [cat,raw,List.length_append,List.length_cons,List.length_nil,List.flatten_cons,List.flatten_nil] at hb ⊢); omega)) (fun A12 c12 => ab (bX rfl (bj (J := Option Addr × Nat) (A12,c12) rfl trivial (fun w2 hw2 => bO (by simp [cat,raw]) rfl (by simp only [cat,raw]; omega) (hw2.sel [2,3] (by decide))))))))))))))))
 · skip
   have q0 := Decidable.not_not.1 q0
   rw [if_pos q0] at hb ⊢
   exact an (bX rfl (bj (J := Option Addr × Nat) (A,c) rfl trivial (fun w2 hw2 => bO (by simp) rfl (by simp only; omega) (hw2.sel [1,2] (by decide)))))
theorem m8 (g : Nat → Txt) (i : Nat) : ew g (i + 1) = cat (ew g i) (cat (raw (cm i)) (g i)) := rfl
theorem ry (g : Nat → Txt) {i n : Nat} (h : i < n) : (ew g i).1.length + ((cm i).length + (g i).1.length) ≤ (ew g n).1.length := by
 have := upT_at (fun i => cat (raw (cm i)) (g i)) h
 simpa [cat,raw,ew] using this
theorem f9 (g : Nat → Txt) (n : Nat) (q : Nat) (fst cap : List Value) (pb : Nat) (A : Option Addr) (c : Nat) (l : List UInt8) (m : Int) (w : World) (hP : fw w pb A c l 0 m) (hm0 : 0 ≤ m) (hn : n ≤ 70368744177664) (hb : l.length + (ew g n).1.length ≤ 70368744177664) (hcf : ∀ args w,(callFunc q args).run Tryz.prog w = .ok (.enter q args) w) (hone : ∀ (i : Nat) (A1 : Option Addr) (c1 : Nat) (l1 : List UInt8) (m1 : Int) (w1 : World),i < n → PSub w (prL pb A) w1 (prL pb A1) → fw w1 pb A1 c1 l1 0 m1 → 0 ≤ m1 → l1.length + (g i).1.length ≤ 70368744177664 → Calls Tryz.prog q (fst ++ [Value.int .i64 (i : Int)] ++ cap).toArray w1 (PrT w1 pb A1 (l1 ++ (g i).1) 0 (max m1 ((g i).2 : Int)))) : Calls Tryz.prog 21 #[.pointer (some ⟨pb,0,none⟩),.int .i64 (n : Int),.func (.func q) fst.toArray cap.toArray] w (PrT w pb A (l ++ (ew g n).1) 0 (max m ((ew g n).2 : Int))) := by
 refine ax (args := [.pointer (some ⟨pb,0,none⟩),.int .i64 (n : Int),.func (.func q) fst.toArray cap.toArray]) (lent := prL pb A) (H := prD pb A c l 0 m) Tryz.func21 rfl Tryz.ntmps21 rfl (Sat.cx hP) ((show Tri _ [(0,_),(1,_),(2,_)] _ _ _ from ae (aa (ai rfl rfl (ai rfl rfl (triL_nilN (av (bC (ι := Nat × Option Addr × Nat) (F := fun i => [(0,.pointer (some ⟨pb,0,none⟩)),(2,.func (.func q) fst.toArray cap.toArray),(7,.int .i64 (n : Int)),(8,.int .i64 (i.1 : Int))]) (HH := fun i => prD pb i.2.1 i.2.2 (l ++ (ew g i.1).1) 0 (max m ((ew g i.1).2 : Int))) (Pu := fun i => i.1 ≤ n) (μ := fun i => n - i.1) ((0,A,c)) (.cons rfl (.cons rfl (.cons rfl (.cons rfl (.nil _))))) (fun w2 hw2 => bO (by simp [ew,upT]) rfl (by simp only [ew,upT]; omega) hw2) (Nat.zero_le _) (fun i hi => ae (aa (cv rfl rfl rfl (triL_nilN (ae (ar rfl (fun q0 => ?_) (fun q0 => ?_)))))))))))))))
 · skip
   have hil : i.1 < n := by omega
   refine an (ag (ae (av (ae (aa (ai rfl rfl (o_assignN rfl rfl (cr (ι := Option Addr × Nat) (fun j => [(0,.pointer (some ⟨pb,0,none⟩)),(2,.func (.func q) fst.toArray cap.toArray),(6,.int .i64 (i.1 : Int)),(7,.int .i64 (n : Int)),(8,.int .i64 (i.1 : Int))]) (fun j => prD pb j.1 j.2 (l ++ ((ew g i.1).1 ++ cm i.1)) 0 (max m ((ew g i.1).2 : Int))) (fun j => True) ?_ (fun j hj => ?_)))))))))
   · skip
     refine ae (aa (ai rfl rfl (fA rfl rfl rfl (triL_nilN (ar rfl (fun q1 => ?_) (fun q1 => ?_))))))
     · skip
       exact tri_slo [(6,_),(0,_),(2,_),(7,_),(8,_)] rfl (aa (ai rfl rfl (bA Tryz.underlying23 zs9 rfl rfl rfl rfl rfl (by decide) (by decide) (fun b14 => aC (pb := pb) [_] rfl rfl rfl rfl Tryz.call20 (fun w1 h1 h2 h3 => cL [[44,32]] _ _ pb _ _ _ _ _ w1 h2 (RdS.row .z w1 h1) (fun a ha => by cases ha; exact aZ h1 (fun x hx => hx) rfl) (by have := ry g hil; rw [cm,if_neg (by omega)] at this; simp only [List.length_append,List.length_cons,List.length_nil,List.flatten_cons,List.flatten_nil] at this ⊢; omega) (by simp)) (fun A15 c15 => triL_nilN (⟨(A15,c15),(.cons rfl (.cons rfl (.cons rfl (.cons rfl (.cons rfl (.nil _)))))),(fun w2 hw2 => bO (by rw [cm,if_neg (by omega)]; simp) rfl rfl (hw2.sel [1,2] (by decide))),trivial⟩))))))
     · skip
       exact an (ag (⟨(i.2.1,i.2.2),(.cons rfl (.cons rfl (.cons rfl (.cons rfl (.cons rfl (.nil _)))))),(fun w2 hw2 => bO (by rw [cm,if_pos (by omega)]; simp) rfl rfl hw2),trivial⟩))
   exact aa (ai rfl rfl (ai rfl rfl (aC (pb := pb) [] rfl rfl rfl rfl hcf (fun w1 h1 h2 h3 => hone i.1 _ _ _ _ w1 hil (PSub.of h1 h3) h2 (by omega) (by have := ry g hil; simp only [List.length_append]; omega)) (fun A18 c18 => ab (ao (ag (tri_slo [(0,_),(2,_),(7,_),(8,_)] rfl (aa (bD rfl rfl rfl (by omega) (ai rfl rfl (triL_nilN (⟨(i.1 + 1,A18,c18),(.cons rfl (.cons rfl (.cons rfl (.cons rfl (.nil _))))),(fun w2 hw2 => bO (by rw [m8]; simp [cat,raw]) rfl (by rw [m8]; simp only [cat,raw]; omega) hw2),by simp only; omega,(by simp only; omega)⟩))))))))))))
 · skip
   exact bg (au (au (aK (bX rfl (bj (J := Option Addr × Nat) (i.2.1,i.2.2) rfl trivial (fun w2 hw2 => bO (by rw [show i.1 = n by omega]) rfl (by rw [show i.1 = n by omega]) hw2))))))
end Go.Proofs.YtjbpkcbefmpfgaaGreatDoor
namespace Go.Proofs.YtjbpkcbefmpfgaaGreatDoor
open Go.WK Go.RowKit 
theorem bP : cu Tryz.prog 64 = some false := by kernel_rfl
theorem ma : bs Tryz.prog 53 0 = some 0 := by kernel_rfl
theorem rz : bs Tryz.prog 121 0 = some 0 := by kernel_rfl
theorem fg : cu Tryz.prog 4 = some false := by kernel_rfl
theorem mayI_1 {a : ItemX} (h : jE a = true) : a.e.may = true := by
 unfold jE at h; simp only [Bool.and_eq_true] at h; exact h.1
theorem query1K (q : QryX) (y : QLay) (bl : List Nat) (bp bx i : Nat) (pb : Nat) (A : Option Addr) (c : Nat) (l : List UInt8) (m : Int) (w : World) (hP : fw w pb A c l 0 m) (hm0 : 0 ≤ m) (hV : PV w (prL pb A) bl) (hE : CEnv w bl bp pb bx (dL q y)) (hA : QAt bl w q y) (hi : i < q.items.length) (hmy : jE (q.items.getD i ItemX.zero) = true) (ho : (q.items.getD i ItemX.zero).e.ok) (hb : l.length + (hJ (q.items.getD i ItemX.zero)).1.length ≤ 70368744177664) : Calls Tryz.prog 118 #[.int .i64 (i : Int),.pointer (some ⟨bp,0,none⟩),.pointer (some ⟨bx,0,none⟩)] w (PrT w pb A (l ++ (hJ (q.items.getD i ItemX.zero)).1) 0 (max m ((hJ (q.items.getD i ItemX.zero)).2 : Int))) := by
 refine ax (args := [.int .i64 (i : Int),.pointer (some ⟨bp,0,none⟩),.pointer (some ⟨bx,0,none⟩)]) (lent := prL pb A) (H := prD pb A c l 0 m) Tryz.func118 rfl Tryz.ntmps118 rfl (Sat.cx hP) ((show Tri _ [(0,_),(1,_),(2,_)] _ _ _ from ?_))
 have hP_ := hE.rp hV.pe
 have hX_ := hE.rx hV.pe
 obtain ⟨xI,xF,xO,hI,_,_,_⟩ := hA
 obtain ⟨ye,hci,hye⟩ := jH hI i hi
 simp only [hJ,cat,raw,List.length_append] at hb
 refine ae (bo (_) [(0,true),(1,true),(2,true),(3,true),(4,true),(5,true),(6,true),(7,false)] [7] (by kernel_rfl) (by kernel_rfl) (fun _ h => h) (ah rfl (aH (A := some ⟨bp,0,none⟩) (kk := 0) bP rfl rfl (hP_ _ _ rfl rfl) rfl (ab ⟨rfl,ah rfl (aO (A := some ⟨bx,0,none⟩) (kk := 0) cJ rfl rfl (hX_ _ _ rfl rfl) rfl (ab ⟨rfl,ah rfl (aH dV rfl rfl (hX_ _ _ rfl rfl) rfl (ab ⟨rfl,ah rfl (ai rfl rfl (ab ⟨rfl,ah rfl (aT Tryz.underlying31 jj rfl rfl rfl (hI.rd hV.pe _ _ rfl rfl) (by omega) (by omega) hI.len (by decide) (ab ⟨rfl,ah rfl (aO ma rfl rfl (hI.rd hV.pe _ _ rfl rfl) (aL hci (j := 0) rfl) (ab ⟨rfl,ah rfl (bv aY aX rfl rfl (hI.rd hV.pe _ _ rfl rfl) (vs := bH ((q.items.getD i ItemX.zero).e) ye) (ey (p := []) (cs := bH ((q.items.getD i ItemX.zero).e) ye) (r := [_]) hci) rfl (by decide) (ab ⟨rfl,(bE [7] [_] rfl rfl (aC (pb := pb) [] rfl rfl rfl rfl Tryz.call26 (fun w1 h1 h2 h3 => m7 ((q.items.getD i ItemX.zero).e) (mayI_1 hmy) (ho) 1 bl ye pb _ _ _ _ _ w1 h2 (hV.sub (PSub.of h1 h3)) (hye.stab (hV.pe.st (PSub.of h1 h3))) (by omega) (by (try simp only [cat,raw,List.length_append,List.length_cons,List.length_nil,List.flatten_cons,List.flatten_nil] at hb ⊢); omega) (by (try simp only [cat,raw,List.length_append,List.length_cons,List.length_nil,List.flatten_cons,List.flatten_nil] at hb ⊢); omega)) (fun A11 c11 => ab ⟨rfl,(ag (tri_slo [(0,_),(1,_),(2,_)] rfl (bo (_) [(0,true),(1,true),(2,true),(3,true),(4,true),(5,true),(6,true),(7,false)] [7] (by kernel_rfl) (by kernel_rfl) (fun _ h => h) (ah rfl (aH (A := some ⟨bp,0,none⟩) (kk := 0) bP rfl rfl (hP_ _ _ rfl rfl) rfl (ab ⟨rfl,ah rfl (aO (A := some ⟨bx,0,none⟩) (kk := 0) cJ rfl rfl (hX_ _ _ rfl rfl) rfl (ab ⟨rfl,ah rfl (aH dV rfl rfl (hX_ _ _ rfl rfl) rfl (ab ⟨rfl,ah rfl (ai rfl rfl (ab ⟨rfl,ah rfl (aT Tryz.underlying31 jj rfl rfl rfl (hI.rd hV.pe _ _ rfl rfl) (by omega) (by omega) hI.len (by decide) (ab ⟨rfl,ah rfl (aO iB rfl rfl (hI.rd hV.pe _ _ rfl rfl) (aL hci (j := 0) rfl) (ab ⟨rfl,ah rfl (aH bn rfl rfl (hI.rd hV.pe _ _ rfl rfl) (aL hci (j := 8) rfl) (ab ⟨rfl,(bE [7] [_] rfl rfl (aC (pb := pb) [] rfl rfl rfl rfl Tryz.call119 (fun w1 h1 h2 h3 => asR_ (q.items.getD i ItemX.zero).s pb _ _ _ _ w1 h2 (by omega) (by (try simp only [List.length_append] at hb ⊢); omega)) (fun A19 c19 => ?_)))⟩))⟩))⟩))⟩))⟩))⟩))⟩))))))⟩)))⟩))⟩))⟩))⟩))⟩))⟩))⟩)))); exact ab ⟨rfl,(bX rfl (bj (J := Option Addr × Nat) (A19,c19) rfl trivial (fun w2 hw2 => bO (by simp [hJ,cat,raw]) rfl (by simp only [hJ,cat,raw]; omega) (hw2.sel [0,1] (by decide)))))⟩
theorem query2K (q : QryX) (y : QLay) (bl : List Nat) (bp bx i : Nat) (pb : Nat) (A : Option Addr) (c : Nat) (l : List UInt8) (m : Int) (w : World) (hP : fw w pb A c l 0 m) (hm0 : 0 ≤ m) (hV : PV w (prL pb A) bl) (hE : CEnv w bl bp pb bx (dL q y)) (hA : QAt bl w q y) (hi : i < q.ord.length) (hb : l.length + (ordT (q.ord.getD i OrdX.zero)).1.length ≤ 70368744177664) : Calls Tryz.prog 120 #[.int .i64 (i : Int),.pointer (some ⟨bp,0,none⟩),.pointer (some ⟨bx,0,none⟩)] w (PrT w pb A (l ++ (ordT (q.ord.getD i OrdX.zero)).1) 0 (max m ((ordT (q.ord.getD i OrdX.zero)).2 : Int))) := by
 refine ax (args := [.int .i64 (i : Int),.pointer (some ⟨bp,0,none⟩),.pointer (some ⟨bx,0,none⟩)]) (lent := prL pb A) (H := prD pb A c l 0 m) Tryz.func120 rfl Tryz.ntmps120 rfl (Sat.cx hP) ((show Tri _ [(0,_),(1,_),(2,_)] _ _ _ from ?_))
 have hP_ := hE.rp hV.pe
 have hX_ := hE.rx hV.pe
 obtain ⟨xI,xF,xO,_,_,_,hO⟩ := hA
 have hci := nH hO i hi
 simp only [ordT,raw,List.length_append] at hb
 refine ae (bo (_) [(0,true),(1,true),(2,true),(3,true),(4,true),(5,true),(6,true),(7,false),(8,false)] [8] (by kernel_rfl) (by kernel_rfl) (fun _ h => h) (ah rfl (aH (A := some ⟨bp,0,none⟩) (kk := 0) bP rfl rfl (hP_ _ _ rfl rfl) rfl (ab ⟨rfl,ah rfl (aO (A := some ⟨bx,0,none⟩) (kk := 0) eb rfl rfl (hX_ _ _ rfl rfl) rfl (ab ⟨rfl,ah rfl (aH f8 rfl rfl (hX_ _ _ rfl rfl) rfl (ab ⟨rfl,ah rfl (ai rfl rfl (ab ⟨rfl,ah rfl (aT Tryz.underlying33 iC rfl rfl rfl (hO.rd hV.pe _ _ rfl rfl) (by omega) (by omega) hO.len (by decide) (ab ⟨rfl,ah rfl (aO rz rfl rfl (hO.rd hV.pe _ _ rfl rfl) (aL hci (j := 0) rfl) (ab ⟨rfl,ah rfl (aH bn rfl rfl (hO.rd hV.pe _ _ rfl rfl) (aL hci (j := 0) rfl) (ab ⟨rfl,(ba rfl (bA Tryz.underlying23 zs9 rfl rfl rfl rfl rfl (by decide) (by decide) (fun b11 => ab ⟨rfl,fun _ _ h => Sat.dropS 1 h,(bE [8] [_] rfl rfl (aC (pb := pb) [_] rfl rfl rfl rfl Tryz.call20 (fun w1 h1 h2 h3 => cL [(q.ord.getD i OrdX.zero).n] _ _ pb _ _ _ _ _ w1 h2 (RdS.row .z w1 h1) (fun a ha => by cases ha; exact aZ h1 (fun x hx => hx) rfl) (by (try simp only [List.length_append,List.length_nil,List.flatten_cons,List.flatten_nil] at hb ⊢); omega) (by simp)) (fun A12 c12 => ab ⟨rfl,(ag (ae (tri_slo [(0,_),(1,_),(2,_)] rfl (aa (aO (A := some ⟨bx,0,none⟩) (kk := 0) eb rfl rfl (hX_ _ _ rfl rfl) rfl (aH f8 rfl rfl (hX_ _ _ rfl rfl) rfl (ai rfl rfl (aT Tryz.underlying33 iC rfl rfl rfl (hO.rd hV.pe _ _ rfl rfl) (by omega) (by omega) hO.len (by decide) (aO rs rfl rfl (hO.rd hV.pe _ _ rfl rfl) (aL hci (j := 0) rfl) (aH fg rfl rfl (hO.rd hV.pe _ _ rfl rfl) (aL hci (j := 1) rfl) (triL_nilN (aF rfl (fun q0 => ?_) (fun q0 => ?_)))))))))))))⟩)))⟩)))⟩))⟩))⟩))⟩))⟩))⟩))⟩))))
 · skip
   exact tri_slo [(1,_)] rfl (aa (aH (A := some ⟨bp,0,none⟩) (kk := 0) bP rfl rfl (hP_ _ _ rfl rfl) rfl (bA Tryz.underlying23 zs9 rfl rfl rfl rfl rfl (by decide) (by decide) (fun b20 => aC (pb := pb) [_,_] rfl rfl rfl rfl Tryz.call20 (fun w1 h1 h2 h3 => cL [[32,100,101,115,99]] _ _ pb _ _ _ _ _ w1 h2 (RdS.row .z w1 h1) (fun a ha => by cases ha; exact aZ h1 (fun x hx => (List.mem_cons_of_mem _ hx)) rfl) (by rw [q0] at hb; simp only [descT,if_true,List.length_append,List.length_cons,List.length_nil,List.flatten_cons,List.flatten_nil] at hb ⊢; omega) (by simp)) (fun A21 c21 => ab (bX rfl (bj (J := Option Addr × Nat) (A21,c21) rfl trivial (fun w2 hw2 => bO (by rw [ordT,q0]; simp [raw,descT]) rfl (by simp only [ordT,raw]; omega) (hw2.sel [2,3] (by decide))))))))))
 · skip
   exact an (bX rfl (bj (J := Option Addr × Nat) (A12,c12) rfl trivial (fun w2 hw2 => bO (by rw [ordT,q0]; simp [raw,descT]) rfl (by simp only [ordT,raw]; omega) (hw2.sel [1,2] (by decide)))))
end Go.Proofs.YtjbpkcbefmpfgaaGreatDoor
namespace Go.Proofs.YtjbpkcbefmpfgaaGreatDoor
open Go.WK Go.RowKit 
theorem built160 : ∀ (a b : ByteArray),Tryz.prog.built 160 [(0,.string a),(1,.string b)] = some ([.string a,.string b] : List Value).toArray := by intros; kernel_rfl
theorem iE : bs Tryz.prog 87 0 = some 0 := by kernel_rfl
theorem dO {F : List Chunk} {pb : Nat} {A : Option Addr} {c : Nat} {l l' : List UInt8} {d d' m m' : Int} {cx : Cx} {w : World} (h1 : l = l') (h2 : d = d') (h3 : m = m') (h : Sat cx (F ++ prD pb A c l d m) w) : Sat cx (F ++ prD pb A c l' d' m') w := by subst h1 h2 h3; exact h
theorem qD {q : QryX} (h : mayQ q = true) : gB q.wh = true ∧ (q.from_.length ≤ 4 ∧ q.ord.length ≤ 16 ∧ q.items.length ≤ 16) ∧ (∀ i,i < q.items.length → jE (q.items.getD i ItemX.zero) = true) ∧ (∀ i,i < q.from_.length → lK i (q.from_.getD i SrcX.zero) = true) := by
 unfold mayQ at h
 simp only [Bool.and_eq_true,decide_eq_true_eq] at h
 obtain ⟨⟨h1,h2,h3,_⟩,h4,h5,h6,_⟩ := h
 refine ⟨h1,⟨h2,h3, ?_⟩,fun i hi => gU h5 hi,fun i hi => gU h6 hi⟩
 split at h4
 · have := of_decide_eq_true h4; omega
 · unfold fL at h4; simp only [Bool.and_eq_true,decide_eq_true_eq] at h4; exact h4.2
theorem srcT_len (i : Nat) (a : SrcX) : (kI i a).1.length = 6 + (a.t.length + (asT a.s).length) + (if i = 0 then 0 else 4 + (a.e.txt 1).1.length) := by
 unfold kI
 by_cases h : i = 0
 · rw [if_pos h,if_pos h,if_pos h]; simp only [cat,raw,List.length_append,List.length_cons,List.length_nil]; try omega
 · rw [if_neg h,if_neg h,if_neg h]; simp only [cat,raw,List.length_append,List.length_cons,List.length_nil]; try omega
theorem fj_get (i : Nat) : ([.string (B [32,102,114,111,109,32]),.string (B [32,106,111,105,110,32])] : List Value)[(min (i : Int) 1).toNat]? = some (.string (B (if i = 0 then [32,102,114,111,109,32] else [32,106,111,105,110,32]))) := by
 by_cases h : i = 0
 · subst h; rfl
 · rw [if_neg h,show (min (i : Int) 1).toNat = 1 by omega]; rfl
theorem mayF_2 {i : Nat} {a : SrcX} (h : lK i a = true) (hi : 0 < i) : a.e.may = true := by
 unfold lK at h
 rw [if_neg (by omega)] at h
 simp only [Bool.and_eq_true] at h
 exact h.2.2
set_option maxHeartbeats 1000000 in
theorem cP (q : QryX) (y : QLay) (bl : List Nat) (pb : Nat) (A : Option Addr) (c : Nat) (l : List UInt8) (m : Int) (w : World) (hP : fw w pb A c l 0 m) (hm0 : 0 ≤ m) (hV : PV w (prL pb A) bl) (hA : QAt bl w q y) (hmy : mayQ q = true) (hok : QOk q) (hb : l.length + (qryT q).1.length ≤ 70368744177664) : Calls Tryz.prog 62 #[.pointer (some ⟨pb,0,none⟩),.agg (dL q y).toArray] w (PrT w pb A (l ++ (qryT q).1) 0 (max m ((qryT q).2 : Int))) := by
 refine ax (args := [.pointer (some ⟨pb,0,none⟩),.agg (dL q y).toArray]) (lent := prL pb A) (H := prD pb A c l 0 m) Tryz.func62 rfl Tryz.ntmps62 rfl (Sat.cx hP) ((show Tri _ [(0,_),(1,_)] _ _ _ from ?_))
 obtain ⟨my1,⟨my2,my3,my4⟩,my5,my6⟩ := qD hmy
 obtain ⟨xI,xF,xO,hI,hF,hW,hO⟩ := id hA
 simp only [qryT,cat,raw,List.length_append] at hb
 refine ae (aa (cl _ rfl rfl rfl (fun b2 => cl _ rfl rfl rfl (fun b3 => triL_nilN (ae (aa (ak bP N1 rfl rfl rfl (bA Tryz.underlying23 zs9 rfl rfl rfl rfl rfl (by decide) (by decide) (fun b7 => aC (pb := pb) [_,_,_] rfl rfl rfl rfl Tryz.call20 (fun w1 h1 h2 h3 => cL [[115,101,108,101,99,116,32]] _ _ pb _ _ _ _ _ w1 h2 (RdS.row .z w1 h1) (fun a ha => by cases ha; exact aZ h1 (fun x hx => (List.mem_cons_of_mem _ (List.mem_cons_of_mem _ hx))) rfl) (by (try simp only [List.length_append,List.length_cons,List.length_nil,List.flatten_cons,List.flatten_nil,gT] at hb ⊢); omega) (by simp)) (fun A8 c8 => triL_nilN (cr (ι := Option Addr × Nat) (fun j => [(2,.pointer (some ⟨b2,0,none⟩)),(3,.pointer (some ⟨b3,0,none⟩))]) (fun j => [box b3 35 (dL q y),box b2 64 [.pointer (some ⟨pb,0,none⟩)]] ++ prD pb j.1 j.2 (l ++ ([115,101,108,101,99,116,32] ++ (if q.di = true then [100,105,115,116,105,110,99,116,32] else []))) 0 (m)) (fun j => True) ?_ (fun j hj => ?_))))))))))))
 · skip
   refine ae (tri_slo [(3,_),(2,_)] rfl (aa (aj kq rfl rfl (ak fg N1 rfl rfl rfl (triL_nilN (aF rfl (fun q0 => ?_) (fun q0 => ?_)))))))
   · skip
     exact aa (ak bP N2 rfl rfl rfl (bA Tryz.underlying23 zs9 rfl rfl rfl rfl rfl (by decide) (by decide) (fun b12 => aC (pb := pb) [_,_,_,_] rfl rfl rfl rfl Tryz.call20 (fun w1 h1 h2 h3 => cL [[100,105,115,116,105,110,99,116,32]] _ _ pb _ _ _ _ _ w1 h2 (RdS.row .z w1 h1) (fun a ha => by cases ha; exact aZ h1 (fun x hx => (List.mem_cons_of_mem _ (List.mem_cons_of_mem _ (List.mem_cons_of_mem _ hx)))) rfl) (by rw [gT,q0] at hb; (try simp only [List.length_append,List.length_cons,List.length_nil,List.flatten_cons,List.flatten_nil,if_true] at hb ⊢); omega) (by simp)) (fun A13 c13 => triL_nilN (⟨(A13,c13),(.cons rfl (.cons rfl (.nil _))),(fun w2 hw2 => dO (by rw [q0]; simp) rfl (by rfl) (hw2.sel [2,3,4,5] (by decide))),trivial⟩)))))
   · skip
     exact an (ag (⟨(A8,c8),(.cons rfl (.cons rfl (.nil _))),(fun w2 hw2 => dO (by rw [q0]; simp) rfl (by rfl) (hw2.sel [1,2,3,4] (by decide))),trivial⟩))
 refine cr (ι := Option Addr × Nat) (fun j => [(2,.pointer (some ⟨b2,0,none⟩)),(3,.pointer (some ⟨b3,0,none⟩))]) (fun j => [box b3 35 (dL q y),box b2 64 [.pointer (some ⟨pb,0,none⟩)]] ++ prD pb j.1 j.2 (l ++ gT q) 0 (m)) (fun j => True) ?_ (fun j hj => ?_)
 · skip
   refine ae (aa (aj jk rfl rfl (ak fg N0 rfl rfl rfl (triL_nilN (aF rfl (fun q1 => ?_) (fun q1 => ?_))))))
   · skip
     exact aa (ak bP N1 rfl rfl rfl (bA Tryz.underlying23 zs9 rfl rfl rfl rfl rfl (by decide) (by decide) (fun b17 => aC (pb := pb) [_,_,_] rfl rfl rfl rfl Tryz.call20 (fun w1 h1 h2 h3 => cL [[42]] _ _ pb _ _ _ _ _ w1 h2 (RdS.row .z w1 h1) (fun a ha => by cases ha; exact aZ h1 (fun x hx => (List.mem_cons_of_mem _ (List.mem_cons_of_mem _ hx))) rfl) (by rw [gT,q1] at hb; (try simp only [List.length_append,List.length_cons,List.length_nil,List.flatten_cons,List.flatten_nil,if_true] at hb ⊢); omega) (by simp)) (fun A18 c18 => triL_nilN (⟨(A18,c18),(.cons rfl (.cons rfl (.nil _))),(fun w2 hw2 => dO (by rw [gT,q1]; simp) rfl (by rfl) (hw2.sel [1,2,3,4] (by decide))),trivial⟩)))))
   · skip
     exact an (ag (⟨j,(.cons rfl (.cons rfl (.nil _))),(fun w2 hw2 => dO (by rw [gT,q1]; simp) rfl (by rfl) (hw2.sel [0,1,2,3] (by decide))),trivial⟩))
 refine ae (aa (ak bP N1 rfl rfl rfl (aj cJ rfl rfl (ak dV N0 rfl rfl rfl (aU Tryz.underlying31 rfl rfl (bR rfl rfl rfl (aC (pb := pb) [_,_] rfl rfl rfl rfl Tryz.call21 (fun w1 h1 h2 h3 => f9 (fun i => hJ (q.items.getD i ItemX.zero)) q.items.length 118 [] [.pointer (some ⟨b2,0,none⟩),.pointer (some ⟨b3,0,none⟩)] pb _ _ _ _ w1 h2 (by omega) (by omega) (by (try simp only [List.length_append] at hb ⊢); omega) Tryz.call118 (fun i A1 c1 l1 m1 w2 hi hs hP1 hm1 hb1 => by have hce := cenv (F := [_,_]) hV.pe h1 (.s .z) .z; have hPV : PV w1 _ _ := ⟨hce.1,(hV.lv.chgL h1.chg (fun k hk => (hV.pe.g k hk).2))⟩; have hA2 := (hA.stab (hV.pe.st (PSub.of h1 h3))).mono (bl' := b2 :: b3 :: bl) (fun k hk => List.mem_cons_of_mem _ (List.mem_cons_of_mem _ hk)); exact query1K q y (b2 :: b3 :: bl) b2 b3 i pb A1 c1 l1 m1 w2 hP1 hm1 (hPV.sub hs) (hce.2.stab (hce.1.st hs)) (hA2.stab (hce.1.st hs)) hi (my5 i hi) (hok.items i hi) hb1)) (fun A24 c24 => triL_nilN (ae (ae (tri_slo [(2,_),(3,_)] rfl (aa (aj cB rfl rfl (ak dD N0 rfl rfl rfl (aU Tryz.underlying32 rfl rfl (ai rfl rfl (triL_nilN (av (bC (ι := Nat × Option Addr × Nat) (F := fun i => [(2,.pointer (some ⟨b2,0,none⟩)),(3,.pointer (some ⟨b3,0,none⟩)),(26,.slice y.F.A q.from_.length y.F.k),(27,.int .i64 (q.from_.length : Int)),(28,.int .i64 (i.1 : Int))]) (HH := fun i => [box b3 35 (dL q y),box b2 64 [.pointer (some ⟨pb,0,none⟩)]] ++ prD pb i.2.1 i.2.2 (l ++ (gT q ++ ((ew (fun i => hJ (q.items.getD i ItemX.zero)) q.items.length).1 ++ (upT (fun i => kI i (q.from_.getD i SrcX.zero)) i.1).1))) 0 (max (max m ((ew (fun i => hJ (q.items.getD i ItemX.zero)) q.items.length).2 : Int)) ((upT (fun i => kI i (q.from_.getD i SrcX.zero)) i.1).2 : Int))) (Pu := fun i => i.1 ≤ q.from_.length) (μ := fun i => q.from_.length - i.1) ((0,A24,c24)) (.cons rfl (.cons rfl (.cons rfl (.cons rfl (.cons rfl (.nil _)))))) ((fun w2 hw2 => dO (by simp [upT]) rfl (by simp only [upT]; omega) (hw2.sel [0,1,2,3] (by decide)))) (Nat.zero_le _) (fun i hi => ae (aa (cv rfl rfl rfl (triL_nilN (ae (ar rfl (fun q2 => ?_) (fun q2 => ?_))))))))))))))))))))))))))
 · skip
   have hil : i.1 < q.from_.length := by omega
   have hbF := upT_at (fun i => kI i (q.from_.getD i SrcX.zero)) hil
   simp only [srcT_len] at hbF
   have h6 : (if i.1 = 0 then [32,102,114,111,109,32] else [32,106,111,105,110,32] : List UInt8).length = 6 := by split <;> rfl
   refine an (ag (ae (av (ae ?_))))
   obtain ⟨ye,hci,hye⟩ := nE hF i.1 hil
   refine aa (ai rfl rfl (aT Tryz.underlying32 eN rfl rfl rfl (hF.rd hV.pe _ _ rfl rfl) (by omega) (by omega) hF.len (by decide) (bv lZ eN rfl rfl (hF.rd hV.pe _ _ rfl rfl) (vs := Value.string (B (q.from_.getD i.1 SrcX.zero).t) :: Value.string (B (q.from_.getD i.1 SrcX.zero).s) :: bH (q.from_.getD i.1 SrcX.zero).e ye) hci rfl (by decide) (aM _ rfl lY rfl (fun b5 => aG rfl rfl (aI eN N0 rfl rfl rfl rfl rfl (Nat.le_of_ble_eq_true rfl) rfl (triL_nilN (ae (tri_slo [(4,_),(5,_),(2,_),(3,_),(26,_),(27,_),(28,_)] rfl (bo (_) [(0,true),(1,true),(2,true),(3,true),(4,true),(5,true),(6,true),(7,false),(8,false)] [8] (by kernel_rfl) (by kernel_rfl) (fun _ h => h) (ah rfl (ak bP N2 rfl rfl rfl (ab ⟨rfl,ah rfl (aS (built160 _ _) rfl rfl (ab ⟨rfl,ah rfl (ai rfl rfl (ab ⟨rfl,ah rfl (o_min rfl rfl rfl (ab ⟨rfl,ah rfl (mO Tryz.underlying160 bn sz9 rfl rfl rfl (by omega) (by omega) rfl (fj_get i.1) (ab ⟨rfl,ah rfl (aj iE rfl rfl (ab ⟨rfl,ah rfl (ak bn N0 rfl rfl rfl (ab ⟨rfl,(ba rfl (eG (parts := [_,_]) (dP [if i.1 = 0 then [32,102,114,111,109,32] else [32,106,111,105,110,32],(q.from_.getD i.1 SrcX.zero).t]) Tryz.underlying23 zs9 rfl rfl rfl rfl (by decide) (by decide) (fun b40 => ab ⟨rfl,fun _ _ h => Sat.dropS 1 h,(bE [8] [_] rfl rfl (aC (pb := pb) [_,_,_,_] rfl rfl rfl rfl Tryz.call20 (fun w1 h1 h2 h3 => cL [if i.1 = 0 then [32,102,114,111,109,32] else [32,106,111,105,110,32],(q.from_.getD i.1 SrcX.zero).t] _ _ pb _ _ _ _ _ w1 h2 (RdS.row .z w1 h1) (fun a ha => by cases ha; exact aZ h1 (fun x hx => (List.mem_cons_of_mem _ (List.mem_cons_of_mem _ (List.mem_cons_of_mem _ hx)))) rfl) (by (try simp only [List.length_append,List.length_cons,List.length_nil,List.flatten_cons,List.flatten_nil,gT] at hb ⊢); omega) (by simp)) (fun A41 c41 => ab ⟨rfl,(ag (ae (tri_slo [(4,_),(5,_),(2,_),(3,_),(26,_),(27,_),(28,_)] rfl (aa (ak bP N3 rfl rfl rfl (aj iA rfl rfl (ak bn N1 rfl rfl rfl (aC (pb := pb) [_,_,_,_] rfl rfl rfl rfl Tryz.call119 (fun w1 h1 h2 h3 => asR_ (q.from_.getD i.1 SrcX.zero).s pb _ _ _ _ w1 h2 (by omega) (by (try simp only [List.length_append,List.length_cons,List.length_nil,List.flatten_cons,List.flatten_nil,gT] at hb ⊢); omega)) (fun A45 c45 => ?_)))))))))⟩)))⟩)))⟩))⟩))⟩))⟩))⟩))⟩))⟩))))))))))))); refine triL_nilN (ae (tri_slo [(4,_),(5,_),(2,_),(3,_),(26,_),(27,_),(28,_)] rfl (aa (ai rfl rfl (fA rfl rfl rfl (triL_nilN (ar rfl (fun q3 => ?_) (fun q3 => ?_))))))))
   · skip
     exact ae (aa (ak bP N3 rfl rfl rfl (bA Tryz.underlying23 zs9 rfl rfl rfl rfl rfl (by decide) (by decide) (fun b49 => aC (pb := pb) [_,_,_,_,_] rfl rfl rfl rfl Tryz.call20 (fun w1 h1 h2 h3 => cL [[32,111,110,32]] _ _ pb _ _ _ _ _ w1 h2 (RdS.row .z w1 h1) (fun a ha => by cases ha; exact aZ h1 (fun x hx => (List.mem_cons_of_mem _ (List.mem_cons_of_mem _ (List.mem_cons_of_mem _ (List.mem_cons_of_mem _ hx))))) rfl) (by rw [if_neg (by omega)] at hbF; (try simp only [List.length_append,List.length_cons,List.length_nil,List.flatten_cons,List.flatten_nil,gT] at hb ⊢); omega) (by simp)) (fun A50 c50 => triL_nilN (tri_slo [(5,_),(2,_),(3,_),(26,_),(27,_),(28,_)] rfl (aa (ak bP N4 rfl rfl rfl (aj kr rfl rfl (aQ aY aX (.s (.s .z)) rfl rfl (vs := bH (q.from_.getD i.1 SrcX.zero).e ye) rfl rfl (aC (pb := pb) [_,_,_,_,_] rfl rfl rfl rfl Tryz.call26 (fun w1 h1 h2 h3 => m7 (q.from_.getD i.1 SrcX.zero).e (mayF_2 (my6 i.1 hil) (by omega)) (hok.from_ i.1 hil) 1 bl ye pb _ _ _ _ _ w1 h2 (hV.sub (PSub.of h1 h3)) (hye.stab (hV.pe.st (PSub.of h1 h3))) (by omega) (by rw [if_neg (by omega)] at hbF; (try simp only [List.length_append,List.length_cons,List.length_nil,gT] at hb ⊢); omega) (by rw [if_neg (by omega)] at hbF; (try simp only [List.length_append,List.length_cons,List.length_nil,List.flatten_cons,List.flatten_nil,gT] at hb ⊢); omega)) (fun A54 c54 => ab (ao (ag (tri_slo [(2,_),(3,_),(26,_),(27,_),(28,_)] rfl (aa (bD rfl rfl rfl (by omega) (ai rfl rfl (triL_nilN (⟨(i.1 + 1,A54,c54),(.cons rfl (.cons rfl (.cons rfl (.cons rfl (.cons rfl (.nil _)))))),(fun w2 hw2 => dO (by simp only [upT,cat,raw,kI]; rw [if_neg (by omega),if_neg (by omega)]; simp) rfl (by simp only [upT,cat,raw,kI]; rw [if_neg (by omega)]; simp only; omega) (hw2.sel [3,4,5,6] (by decide))),by simp only; omega,(by simp only; omega)⟩))))))))))))))))))))
   · skip
     exact an (ao (ag (tri_slo [(2,_),(3,_),(26,_),(27,_),(28,_)] rfl (aa (bD rfl rfl rfl (by omega) (ai rfl rfl (triL_nilN (⟨(i.1 + 1,A45,c45),(.cons rfl (.cons rfl (.cons rfl (.cons rfl (.cons rfl (.nil _)))))),(fun w2 hw2 => dO (by simp only [upT,cat,raw,kI]; rw [if_pos (by omega),if_pos (by omega)]; simp) rfl (by simp only [upT,cat,raw,kI]; rw [if_pos (by omega)]; simp only; omega) (hw2.sel [2,3,4,5] (by decide))),by simp only; omega,(by simp only; omega)⟩))))))))
 · skip
   have hie : i.1 = q.from_.length := by omega
   rw [hie]
   refine bg (au (au (aK (ag (ae (tri_slo [(2,_),(3,_)] rfl (aa (ak bP N1 rfl rfl rfl (aj gX rfl rfl (aQ aY aX .z rfl rfl (vs := bH q.wh y.V) rfl rfl (aC (pb := pb) [_,_] rfl rfl rfl rfl Tryz.call60 (fun w1 h1 h2 h3 => n6 q.wh y.V bl pb _ _ _ _ w1 h2 (by omega) (hV.sub (PSub.of h1 h3)) (hW.stab (hV.pe.st (PSub.of h1 h3))) hok.wh my1 (by (try simp only [List.length_append,List.length_cons,List.length_nil,gT] at hb ⊢); omega)) (fun A59 c59 => triL_nilN (cr (ι := Option Addr × Nat) (fun j => [(2,.pointer (some ⟨b2,0,none⟩)),(3,.pointer (some ⟨b3,0,none⟩))]) (fun j => [box b3 35 (dL q y),box b2 64 [.pointer (some ⟨pb,0,none⟩)]] ++ prD pb j.1 j.2 (l ++ (gT q ++ ((ew (fun i => hJ (q.items.getD i ItemX.zero)) q.items.length).1 ++ ((upT (fun i => kI i (q.from_.getD i SrcX.zero)) q.from_.length).1 ++ ((fM q.wh).1 ++ oO q.ord.length))))) 0 (max (max (max m ((ew (fun i => hJ (q.items.getD i ItemX.zero)) q.items.length).2 : Int)) ((upT (fun i => kI i (q.from_.getD i SrcX.zero)) q.from_.length).2 : Int)) ((fM q.wh).2 : Int))) (fun j => True) ?_ (fun j hj => ?_))))))))))))))
   · skip
     refine ae (tri_slo [(2,_),(3,_)] rfl (aa (aj eb rfl rfl (ak f8 N0 rfl rfl rfl (aU Tryz.underlying33 rfl rfl (fA rfl rfl rfl (triL_nilN (ar rfl (fun q4 => ?_) (fun q4 => ?_)))))))))
     · skip
       exact tri_slo [(2,_),(3,_)] rfl (aa (ak bP N1 rfl rfl rfl (bA Tryz.underlying23 zs9 rfl rfl rfl rfl rfl (by decide) (by decide) (fun b65 => aC (pb := pb) [_,_,_] rfl rfl rfl rfl Tryz.call20 (fun w1 h1 h2 h3 => cL [[32,111,114,100,101,114,32,98,121,32]] _ _ pb _ _ _ _ _ w1 h2 (RdS.row .z w1 h1) (fun a ha => by cases ha; exact aZ h1 (fun x hx => (List.mem_cons_of_mem _ (List.mem_cons_of_mem _ hx))) rfl) (by rw [oO,if_pos (by omega)] at hb; (try simp only [List.length_append,List.length_cons,List.length_nil,List.flatten_cons,List.flatten_nil,gT] at hb ⊢); omega) (by simp)) (fun A66 c66 => triL_nilN (⟨(A66,c66),(.cons rfl (.cons rfl (.nil _))),(fun w2 hw2 => dO (by rw [oO,if_pos (by omega)]; simp) rfl (by rfl) (hw2.sel [1,2,3,4] (by decide))),trivial⟩))))))
     · skip
       exact an (ag (⟨(A59,c59),(.cons rfl (.cons rfl (.nil _))),(fun w2 hw2 => dO (by rw [oO,if_neg (by omega)]; simp) rfl (by rfl) (hw2.sel [0,1,2,3] (by decide))),trivial⟩))
   refine ae (aa (ak bP N1 rfl rfl rfl (aj eb rfl rfl (ak f8 N0 rfl rfl rfl (aU Tryz.underlying33 rfl rfl (bR rfl rfl rfl (aC (pb := pb) [_,_] rfl rfl rfl rfl Tryz.call21 (fun w1 h1 h2 h3 => f9 (fun i => ordT (q.ord.getD i OrdX.zero)) q.ord.length 120 [] [.pointer (some ⟨b2,0,none⟩),.pointer (some ⟨b3,0,none⟩)] pb _ _ _ _ w1 h2 (by omega) (by omega) (by (try simp only [List.length_append] at hb ⊢); omega) Tryz.call120 (fun i A1 c1 l1 m1 w2 hi hs hP1 hm1 hb1 => by have hce := cenv (F := [_,_]) hV.pe h1 (.s .z) .z; have hPV : PV w1 _ _ := ⟨hce.1,(hV.lv.chgL h1.chg (fun k hk => (hV.pe.g k hk).2))⟩; have hA2 := (hA.stab (hV.pe.st (PSub.of h1 h3))).mono (bl' := b2 :: b3 :: bl) (fun k hk => List.mem_cons_of_mem _ (List.mem_cons_of_mem _ hk)); exact query2K q y (b2 :: b3 :: bl) b2 b3 i pb A1 c1 l1 m1 w2 hP1 hm1 (hPV.sub hs) (hce.2.stab (hce.1.st hs)) (hA2.stab (hce.1.st hs)) hi hb1)) (fun A72 c72 => triL_nilN (ae (tri_slo [(2,_),(3,_)] rfl (aa (aj jl rfl rfl (ak fg N0 rfl rfl rfl (triL_nilN (aF rfl (fun q5 => ?_) (fun q5 => ?_))))))))))))))))
   · skip
     exact bo (_) [(0,true),(1,true),(2,true),(3,false),(4,false),(5,false)] [5] (by kernel_rfl) (by kernel_rfl) (fun _ h => h) (ah rfl (ak bP N1 rfl rfl rfl (ab ⟨rfl,ah rfl (aj iD rfl rfl (ab ⟨rfl,ah rfl (ak bK N0 rfl rfl rfl (ab ⟨rfl,(ba rfl (aA (first := []) (cap := []) rfl rfl rfl Tryz.call121 (fun w1 h1 => lib_itoa q.lim w1 hok.lim (hV.lv.chgL h1.chg (fun k hk => (hV.pe.g k hk).2))) (ab ⟨rfl,fun _ _ h => Sat.dropS 0 h,(ba rfl (eG (parts := [_,_]) (dP [[32,108,105,109,105,116,32],Lib.itoa q.lim]) Tryz.underlying23 zs9 rfl rfl rfl rfl (by decide) (by decide) (fun b79 => ab ⟨rfl,fun _ _ h => Sat.dropS 1 h,(bE [5] [_] rfl rfl (aC (pb := pb) [_,_,_] rfl rfl rfl rfl Tryz.call20 (fun w1 h1 h2 h3 => cL [[32,108,105,109,105,116,32],Lib.itoa q.lim] _ _ pb _ _ _ _ _ w1 h2 (RdS.row .z w1 h1) (fun a ha => by cases ha; exact aZ h1 (fun x hx => (List.mem_cons_of_mem _ (List.mem_cons_of_mem _ hx))) rfl) (by rw [limT,if_pos q5] at hb; (try simp only [List.length_append,List.length_cons,List.length_nil,List.flatten_cons,List.flatten_nil,gT] at hb ⊢); omega) (by simp)) (fun A80 c80 => ab ⟨rfl,(bX rfl (bj (J := Option Addr × Nat) (A80,c80) rfl trivial (fun w2 hw2 => bO (by rw [qryT,limT,if_pos q5]; simp [cat,raw]) rfl (by simp only [qryT,cat,raw]; omega) (hw2.sel [3,4] (by decide)))))⟩)))⟩)))⟩)))⟩))⟩))⟩)))
   · skip
     exact an (bX rfl (bj (J := Option Addr × Nat) (A72,c72) rfl trivial (fun w2 hw2 => bO (by rw [qryT,limT,if_neg (fH q5)]; simp [cat,raw]) rfl (by simp only [qryT,cat,raw]; omega) (hw2.sel [2,3] (by decide)))))
end Go.Proofs.YtjbpkcbefmpfgaaGreatDoor
namespace Go.Proofs.YtjbpkcbefmpfgaaGreatDoor
open Go.WK Go.RowKit 
theorem built72 : ∀ (a b c d : ByteArray),Tryz.prog.built 72 [(0,.string a),(1,.string b),(2,.string c),(3,.string d)] = some ([.string a,.string b,.string c,.string d] : List Value).toArray := by intros; kernel_rfl
theorem gl : bs Tryz.prog 37 3 = some 3 := by kernel_rfl
theorem jQ : cu Tryz.prog 22 = some false := by kernel_rfl
theorem agg71 : cu Tryz.prog 71 = some true := by kernel_rfl
theorem sz71 : szB Tryz.prog 71 = some 3 := by kernel_rfl
theorem zero71 : (Tryz.prog.info? 71).map (·.zero) = some (some (.agg #[.string .empty,.int .i64 0,.bool false])) := by kernel_rfl
theorem fo71_0 : bs Tryz.prog 71 0 = some 0 := by kernel_rfl
theorem qE : bs Tryz.prog 71 1 = some 1 := by kernel_rfl
theorem fo71_2 : bs Tryz.prog 71 2 = some 2 := by kernel_rfl
theorem fQ : bs Tryz.prog 37 4 = some 4 := by kernel_rfl
theorem jb : cu Tryz.prog 23 = some false := by kernel_rfl
theorem eE : bs Tryz.prog 37 6 = some 6 := by kernel_rfl
theorem gF : cu Tryz.prog 24 = some false := by kernel_rfl
theorem sz28 : szB Tryz.prog 28 = some 1 := by kernel_rfl
theorem dp : bs Tryz.prog 37 7 = some 7 := by kernel_rfl
theorem e7 : cu Tryz.prog 25 = some false := by kernel_rfl
theorem mb : szB Tryz.prog 82 = some 9 := by kernel_rfl
theorem kv : bs Tryz.prog 82 0 = some 0 := by kernel_rfl
theorem n7 : bs Tryz.prog 82 1 = some 1 := by kernel_rfl
theorem mc : cu Tryz.prog 35 = some true := by kernel_rfl
theorem kK : szB Tryz.prog 35 = some 15 := by kernel_rfl
theorem cq : bs Tryz.prog 37 1 = some 1 := by kernel_rfl
theorem eF : bs Tryz.prog 37 8 = some 8 := by kernel_rfl
theorem print1K (s : StmtX) (y : Lay) (bl : List Nat) (bp bx i : Nat) (pb : Nat) (A : Option Addr) (c : Nat) (l : List UInt8) (m : Int) (w : World) (hP : fw w pb A c l 0 m) (hm0 : 0 ≤ m) (hV : PV w (prL pb A) bl) (hE : CEnv w bl bp pb bx (bL s y)) (hA : SAt bl w s y) (hi : i < s.cols.length) (hmy : gh (s.cols.getD i ColX.zero) = true) (hb : l.length + (lM (s.cols.getD i ColX.zero)).1.length ≤ 70368744177664) : Calls Tryz.prog 22 #[.int .i64 (i : Int),.pointer (some ⟨bx,0,none⟩),.pointer (some ⟨bp,0,none⟩)] w (PrT w pb A (l ++ (lM (s.cols.getD i ColX.zero)).1) 0 (max m ((lM (s.cols.getD i ColX.zero)).2 : Int))) := by
 refine ax (args := [.int .i64 (i : Int),.pointer (some ⟨bx,0,none⟩),.pointer (some ⟨bp,0,none⟩)]) (lent := prL pb A) (H := prD pb A c l 0 m) Tryz.func22 rfl Tryz.ntmps22 rfl (Sat.cx hP) ((show Tri _ [(0,_),(1,_),(2,_)] _ _ _ from ?_))
 have hP_ := hE.rp hV.pe
 have hX_ := hE.rx hV.pe
 obtain ⟨xC,xN,xR,xS,xI,xF,xO,hC,hN,hR_,hS,hW,hQ⟩ := id hA
 have hci := nG hC i hi
 have hk := mayCol_k hmy
 simp only [lM,raw,List.length_append] at hb
 refine ae (aa (aO (A := some ⟨bx,0,none⟩) (kk := 0) gl rfl rfl (hX_ _ _ rfl rfl) rfl (aH jQ rfl rfl (hX_ _ _ rfl rfl) rfl (ai rfl rfl (aT Tryz.underlying22 sz71 rfl rfl rfl (hC.rd hV.pe _ _ rfl rfl) (by omega) (by omega) hC.len (by decide) (bv agg71 sz71 rfl rfl (hC.rd hV.pe _ _ rfl rfl) (vs := [Value.string (B (s.cols.getD i ColX.zero).n),Value.int .i64 (s.cols.getD i ColX.zero).k,Value.bool (s.cols.getD i ColX.zero).b]) hci rfl (by decide) (aM _ rfl zero71 rfl (fun b4 => aI sz71 N0 rfl rfl rfl rfl rfl (Nat.le_of_ble_eq_true rfl) rfl (triL_nilN (ae (tri_slo [(4,_),(2,_)] rfl (bo (_) [(0,true),(1,true),(2,true),(3,true),(4,true),(5,true),(6,true),(7,false),(8,false)] [8] (by kernel_rfl) (by kernel_rfl) (fun _ h => h) (ah rfl (aH (A := some ⟨bp,0,none⟩) (kk := 0) bP rfl rfl (hP_ _ _ rfl rfl) rfl (ab ⟨rfl,ah rfl (aj fo71_0 rfl rfl (ab ⟨rfl,ah rfl (ak bn N0 rfl rfl rfl (ab ⟨rfl,ah rfl (aS (built72 _ _ _ _) rfl rfl (ab ⟨rfl,ah rfl (aj qE rfl rfl (ab ⟨rfl,ah rfl (ak bK N0 rfl rfl rfl (ab ⟨rfl,ah rfl (mO Tryz.underlying72 bn sz9 rfl rfl rfl (by omega) (by omega) rfl (kd_get hk) (ab ⟨rfl,(ba rfl (eG (parts := [_,_]) (dP [(s.cols.getD i ColX.zero).n,kindT (s.cols.getD i ColX.zero).k]) Tryz.underlying23 zs9 rfl rfl rfl rfl (by decide) (by decide) (fun b17 => ab ⟨rfl,fun _ _ h => Sat.dropS 1 h,(bE [8] [_] rfl rfl (aC (pb := pb) [_,_] rfl rfl rfl rfl Tryz.call20 (fun w1 h1 h2 h3 => cL [(s.cols.getD i ColX.zero).n,kindT (s.cols.getD i ColX.zero).k] _ _ pb _ _ _ _ _ w1 h2 (RdS.row .z w1 h1) (fun a ha => by cases ha; exact aZ h1 (fun x hx => (List.mem_cons_of_mem _ hx)) rfl) (by (try simp only [List.length_append,List.length_nil,List.flatten_cons,List.flatten_nil] at hb ⊢); omega) (by simp)) (fun A18 c18 => ab ⟨rfl,(ag (ae (tri_slo [(4,_),(2,_)] rfl (aa (aj fo71_2 rfl rfl (ak fg N1 rfl rfl rfl (triL_nilN ?_)))))))⟩)))⟩)))⟩))⟩))⟩))⟩))⟩))⟩))⟩))))))))))))))); refine aF rfl (fun q0 => ?_) (fun q0 => ?_)
 · skip
   exact aa (aH (A := some ⟨bp,0,none⟩) (kk := 0) bP rfl rfl (hP_ _ _ rfl rfl) rfl (bA Tryz.underlying23 zs9 rfl rfl rfl rfl rfl (by decide) (by decide) (fun b22 => aC (pb := pb) [_,_,_] rfl rfl rfl rfl Tryz.call20 (fun w1 h1 h2 h3 => cL [[32,110,111,116,32,110,117,108,108]] _ _ pb _ _ _ _ _ w1 h2 (RdS.row .z w1 h1) (fun a ha => by cases ha; exact aZ h1 (fun x hx => (List.mem_cons_of_mem _ (List.mem_cons_of_mem _ hx))) rfl) (by rw [q0] at hb; simp only [jF,if_true,List.length_append,List.length_cons,List.length_nil,List.flatten_cons,List.flatten_nil] at hb ⊢; omega) (by simp)) (fun A23 c23 => ab (bX rfl (bj (J := Option Addr × Nat) (A23,c23) rfl trivial (fun w2 hw2 => bO (by rw [lM,q0]; simp [raw,jF]) rfl (by simp only [lM,raw]; omega) (hw2.sel [3,4] (by decide)))))))))
 · skip
   exact an (bX rfl (bj (J := Option Addr × Nat) (A18,c18) rfl trivial (fun w2 hw2 => bO (by rw [lM,q0]; simp [raw,jF]) rfl (by simp only [lM,raw]; omega) (hw2.sel [2,3] (by decide)))))
theorem rA (s : StmtX) (y : Lay) (bl : List Nat) (bp bx i : Nat) (pb : Nat) (A : Option Addr) (c : Nat) (l : List UInt8) (m : Int) (w : World) (hP : fw w pb A c l 0 m) (hm0 : 0 ≤ m) (hV : PV w (prL pb A) bl) (hE : CEnv w bl bp pb bx (bL s y)) (hA : SAt bl w s y) (hi : i < s.on.length) (hb : l.length + (raw (s.on.getD i [])).1.length ≤ 70368744177664) : Calls Tryz.prog 23 #[.int .i64 (i : Int),.pointer (some ⟨bp,0,none⟩),.pointer (some ⟨bx,0,none⟩)] w (PrT w pb A (l ++ (raw (s.on.getD i [])).1) 0 (max m ((raw (s.on.getD i [])).2 : Int))) := by
 refine ax (args := [.int .i64 (i : Int),.pointer (some ⟨bp,0,none⟩),.pointer (some ⟨bx,0,none⟩)]) (lent := prL pb A) (H := prD pb A c l 0 m) Tryz.func23 rfl Tryz.ntmps23 rfl (Sat.cx hP) ((show Tri _ [(0,_),(1,_),(2,_)] _ _ _ from ?_))
 have hP_ := hE.rp hV.pe
 have hX_ := hE.rx hV.pe
 obtain ⟨xC,xN,xR,xS,xI,xF,xO,hC,hN,hR_,hS,hW,hQ⟩ := id hA
 have hci := kQ hN i hi
 simp only [raw] at hb
 exact bo (_) [(0,true),(1,true),(2,true),(3,true),(4,true),(5,true),(6,false),(7,false)] [7] (by kernel_rfl) (by kernel_rfl) (fun _ h => h) (ah rfl (aH (A := some ⟨bp,0,none⟩) (kk := 0) bP rfl rfl (hP_ _ _ rfl rfl) rfl (ab ⟨rfl,ah rfl (aO (A := some ⟨bx,0,none⟩) (kk := 0) fQ rfl rfl (hX_ _ _ rfl rfl) rfl (ab ⟨rfl,ah rfl (aH jb rfl rfl (hX_ _ _ rfl rfl) rfl (ab ⟨rfl,ah rfl (ai rfl rfl (ab ⟨rfl,ah rfl (aT Tryz.underlying23 sz9 rfl rfl rfl (hN.rd hV.pe _ _ rfl rfl) (by omega) (by omega) hN.len (by decide) (ab ⟨rfl,ah rfl (aH bn rfl rfl (hN.rd hV.pe _ _ rfl rfl) (aL hci (j := 0) rfl) (ab ⟨rfl,(ba rfl (bA Tryz.underlying23 zs9 rfl rfl rfl rfl rfl (by decide) (by decide) (fun b10 => ab ⟨rfl,fun _ _ h => Sat.dropS 1 h,(bE [7] [_] rfl rfl (aC (pb := pb) [_] rfl rfl rfl rfl Tryz.call20 (fun w1 h1 h2 h3 => cL [(s.on.getD i [])] _ _ pb _ _ _ _ _ w1 h2 (RdS.row .z w1 h1) (fun a ha => by cases ha; exact aZ h1 (fun x hx => hx) rfl) (by (try simp only [List.length_append,List.length_nil,List.flatten_cons,List.flatten_nil] at hb ⊢); omega) (by simp)) (fun A11 c11 => ab ⟨rfl,(bX rfl (bj (J := Option Addr × Nat) (A11,c11) rfl trivial (fun w2 hw2 => bO (by simp [raw]) rfl (by simp only [raw]; omega) (hw2.sel [1,2] (by decide)))))⟩)))⟩)))⟩))⟩))⟩))⟩))⟩))⟩)))
theorem print31K (s : StmtX) (y : Lay) (bl : List Nat) (bp bx bi i k : Nat) (pb : Nat) (A : Option Addr) (c : Nat) (l : List UInt8) (m : Int) (w : World) (hP : fw w pb A c l 0 m) (hm0 : 0 ≤ m) (hV : PV w (prL pb A) bl) (hE : CEnv w bl bp pb bx (bL s y)) (hA : SAt bl w s y) (hBI : Rd w (some ⟨bi,0,none⟩) [.int .i64 (i : Int)]) (hbi : bi ∈ bl) (hi : i < s.rows.length) (hk : k < (s.rows.getD i []).length) (hmy : ((s.rows.getD i []).getD k Ex.zero).may = true) (ho : ((s.rows.getD i []).getD k Ex.zero).ok) (hb : l.length + (((s.rows.getD i []).getD k Ex.zero).txt 1).1.length ≤ 70368744177664) : Calls Tryz.prog 25 #[.int .i64 (k : Int),.pointer (some ⟨bp,0,none⟩),.pointer (some ⟨bx,0,none⟩),.pointer (some ⟨bi,0,none⟩)] w (PrT w pb A (l ++ (((s.rows.getD i []).getD k Ex.zero).txt 1).1) 0 (max m ((((s.rows.getD i []).getD k Ex.zero).txt 1).2 : Int))) := by
 refine ax (args := [.int .i64 (k : Int),.pointer (some ⟨bp,0,none⟩),.pointer (some ⟨bx,0,none⟩),.pointer (some ⟨bi,0,none⟩)]) (lent := prL pb A) (H := prD pb A c l 0 m) Tryz.func25 rfl Tryz.ntmps25 rfl (Sat.cx hP) ((show Tri _ [(0,_),(1,_),(2,_),(3,_)] _ _ _ from ?_))
 have hP_ := hE.rp hV.pe
 have hX_ := hE.rx hV.pe
 obtain ⟨xC,xN,xR,xS,xI,xF,xO,hC,hN,hR_,hS,hW,hQ⟩ := id hA
 obtain ⟨yr,xr,hcr,hRr⟩ := jI hR_ i hi
 obtain ⟨ye,hci,hye⟩ := ex_at hRr k hk
 have hB_ := fun cx H e1 e2 => hV.pe.rd hBI (fun a ha _ => by cases ha; exact hbi) cx H e1 e2
 exact bo (_) [(0,true),(1,true),(2,true),(3,true),(4,true),(5,true),(6,true),(7,true),(8,true),(9,false)] [9] (by kernel_rfl) (by kernel_rfl) (fun _ h => h) (ah rfl (aH (A := some ⟨bp,0,none⟩) (kk := 0) bP rfl rfl (hP_ _ _ rfl rfl) rfl (ab ⟨rfl,ah rfl (aO (A := some ⟨bx,0,none⟩) (kk := 0) eE rfl rfl (hX_ _ _ rfl rfl) rfl (ab ⟨rfl,ah rfl (aH gF rfl rfl (hX_ _ _ rfl rfl) rfl (ab ⟨rfl,ah rfl (aH (A := some ⟨bi,0,none⟩) (kk := 0) bK rfl rfl (hB_ _ _ rfl rfl) rfl (ab ⟨rfl,ah rfl (aT Tryz.underlying24 sz28 rfl rfl rfl (hR_.rd hV.pe _ _ rfl rfl) (by omega) (by omega) hR_.len (by decide) (ab ⟨rfl,ah rfl (aH dW rfl rfl (hR_.rd hV.pe _ _ rfl rfl) (aL hcr (j := 0) rfl) (ab ⟨rfl,ah rfl (ai rfl rfl (ab ⟨rfl,ah rfl (aT Tryz.underlying28 aX rfl rfl rfl (hRr.rd hV.pe _ _ rfl rfl) (by omega) (by omega) hRr.len (by decide) (ab ⟨rfl,ah rfl (bv aY aX rfl rfl (hRr.rd hV.pe _ _ rfl rfl) (vs := bH ((s.rows.getD i []).getD k Ex.zero) ye) hci rfl (by decide) (ab ⟨rfl,(bE [9] [_] rfl rfl (aC (pb := pb) [] rfl rfl rfl rfl Tryz.call26 (fun w1 h1 h2 h3 => m7 (((s.rows.getD i []).getD k Ex.zero)) (hmy) (ho) 1 bl ye pb _ _ _ _ _ w1 h2 (hV.sub (PSub.of h1 h3)) (hye.stab (hV.pe.st (PSub.of h1 h3))) (by omega) (by (try simp only [cat,raw,List.length_append,List.length_cons,List.length_nil,List.flatten_cons,List.flatten_nil] at hb ⊢); omega) (by (try simp only [cat,raw,List.length_append,List.length_cons,List.length_nil,List.flatten_cons,List.flatten_nil] at hb ⊢); omega)) (fun A14 c14 => ab ⟨rfl,(bX rfl (bj (J := Option Addr × Nat) (A14,c14) rfl trivial (fun w2 hw2 => bO (by rfl) rfl (by omega) (hw2.sel [0,1] (by decide)))))⟩)))⟩))⟩))⟩))⟩))⟩))⟩))⟩))⟩))⟩)))
theorem print3K (s : StmtX) (y : Lay) (bl : List Nat) (bp bx i : Nat) (pb : Nat) (A : Option Addr) (c : Nat) (l : List UInt8) (m : Int) (w : World) (hP : fw w pb A c l 0 m) (hm0 : 0 ≤ m) (hV : PV w (prL pb A) bl) (hE : CEnv w bl bp pb bx (bL s y)) (hA : SAt bl w s y) (hi : i < s.rows.length) (hmy : fe (s.rows.getD i []) = true) (hoR : ∀ j,j < (s.rows.getD i []).length → ((s.rows.getD i []).getD j Ex.zero).ok) (hb : l.length + (rowT (s.rows.getD i [])).1.length ≤ 70368744177664) : Calls Tryz.prog 24 #[.int .i64 (i : Int),.pointer (some ⟨bp,0,none⟩),.pointer (some ⟨bx,0,none⟩)] w (PrT w pb A (l ++ (rowT (s.rows.getD i [])).1) 0 (max m ((rowT (s.rows.getD i [])).2 : Int))) := by
 refine ax (args := [.int .i64 (i : Int),.pointer (some ⟨bp,0,none⟩),.pointer (some ⟨bx,0,none⟩)]) (lent := prL pb A) (H := prD pb A c l 0 m) Tryz.func24 rfl Tryz.ntmps24 rfl (Sat.cx hP) ((show Tri _ [(0,_),(1,_),(2,_)] _ _ _ from ?_))
 have hP_ := hE.rp hV.pe
 have hX_ := hE.rx hV.pe
 obtain ⟨xC,xN,xR,xS,xI,xF,xO,hC,hN,hR_,hS,hW,hQ⟩ := id hA
 obtain ⟨yr,xr,hcr,hRr⟩ := jI hR_ i hi
 obtain ⟨mr1,mr2⟩ := mayRow_p hmy
 simp only [rowT,cat,raw,List.length_append,List.length_cons,List.length_nil] at hb
 exact ae (aa (cl _ rfl rfl rfl (fun b3 => triL_nilN (ae (aa (aH (A := some ⟨bp,0,none⟩) (kk := 0) bP rfl rfl (hP_ _ _ rfl rfl) rfl (bA Tryz.underlying23 zs9 rfl rfl rfl rfl rfl (by decide) (by decide) (fun b5 => aC (pb := pb) [_,_] rfl rfl rfl rfl Tryz.call20 (fun w1 h1 h2 h3 => cL [[40]] _ _ pb _ _ _ _ _ w1 h2 (RdS.row .z w1 h1) (fun a ha => by cases ha; exact aZ h1 (fun x hx => (List.mem_cons_of_mem _ hx)) rfl) (by (try simp only [List.length_append,List.length_cons,List.length_nil,List.flatten_cons,List.flatten_nil] at hb ⊢); omega) (by simp)) (fun A6 c6 => triL_nilN (ae (tri_slo [(3,_),(1,_),(2,_)] rfl (bo (_) [(0,true),(1,true),(2,true),(3,true),(4,true),(5,true),(6,true),(7,true),(8,false)] [8] (by kernel_rfl) (by kernel_rfl) (fun _ h => h) (ah rfl (aH (A := some ⟨bp,0,none⟩) (kk := 0) bP rfl rfl (hP_ _ _ rfl rfl) rfl (ab ⟨rfl,ah rfl (aO (A := some ⟨bx,0,none⟩) (kk := 0) eE rfl rfl (hX_ _ _ rfl rfl) rfl (ab ⟨rfl,ah rfl (aH gF rfl rfl (hX_ _ _ rfl rfl) rfl (ab ⟨rfl,ah rfl (ak bK N1 rfl rfl rfl (ab ⟨rfl,ah rfl (aT Tryz.underlying24 sz28 rfl rfl rfl (hR_.rd hV.pe _ _ rfl rfl) (by omega) (by omega) hR_.len (by decide) (ab ⟨rfl,ah rfl (aH dW rfl rfl (hR_.rd hV.pe _ _ rfl rfl) (aL hcr (j := 0) rfl) (ab ⟨rfl,ah rfl (aU Tryz.underlying28 rfl rfl (ab ⟨rfl,ah rfl (bR rfl rfl rfl (ab ⟨rfl,(bE [8] [_] rfl rfl (aC (pb := pb) [_,_] rfl rfl rfl rfl Tryz.call21 (fun w1 h1 h2 h3 => f9 (fun k => ((s.rows.getD i []).getD k Ex.zero).txt 1) (s.rows.getD i []).length 25 [] [.pointer (some ⟨bp,0,none⟩),.pointer (some ⟨bx,0,none⟩),.pointer (some ⟨b3,0,none⟩)] pb _ _ _ _ w1 h2 (by omega) (by omega) (by (try simp only [List.length_append,List.length_cons,List.length_nil,List.flatten_cons,List.flatten_nil] at hb ⊢); omega) Tryz.call25 (fun k A1 c1 l1 m1 w2 hk hs hP1 hm1 hb1 => by have hbe := benv (F := [_,_]) h1 (.s .z); have hs1 := PSub.of h1 h3; have hPE := (hV.pe.sub hs1).cons hbe.2.1 hbe.2.2; have hPV : PV w1 _ _ := ⟨hPE,(hV.lv.chgL h1.chg (fun k hk => (hV.pe.g k hk).2))⟩; have hup : ∀ j ∈ bl,j ∈ b3 :: bl := fun j hj => List.mem_cons_of_mem _ hj; have hA2 := (hA.stab (hV.pe.st hs1)).mono hup; have hE2 := (hE.stab (hV.pe.st hs1)).mono hup; exact print31K s y (b3 :: bl) bp bx b3 i k pb A1 c1 l1 m1 w2 hP1 hm1 (hPV.sub hs) (hE2.stab (hPE.st hs)) (hA2.stab (hPE.st hs)) (hbe.1.same (fun a ha _ => by cases ha; exact hPE.st hs _ List.mem_cons_self)) List.mem_cons_self hi hk (mr2 k hk) (hoR k hk) hb1)) (fun A15 c15 => ab ⟨rfl,(ag (tri_slo [(1,_)] rfl (aa (aH (A := some ⟨bp,0,none⟩) (kk := 0) bP rfl rfl (hP_ _ _ rfl rfl) rfl (bA Tryz.underlying23 zs9 rfl rfl rfl rfl rfl (by decide) (by decide) (fun b17 => aC (pb := pb) [_,_,_] rfl rfl rfl rfl Tryz.call20 (fun w1 h1 h2 h3 => cL [[41]] _ _ pb _ _ _ _ _ w1 h2 (RdS.row .z w1 h1) (fun a ha => by cases ha; exact aZ h1 (fun x hx => (List.mem_cons_of_mem _ (List.mem_cons_of_mem _ hx))) rfl) (by (try simp only [List.length_append,List.length_cons,List.length_nil,List.flatten_cons,List.flatten_nil] at hb ⊢); omega) (by simp)) (fun A18 c18 => ab (bX rfl (bj (J := Option Addr × Nat) (A18,c18) rfl trivial (fun w2 hw2 => bO (by simp [rowT,cat,raw]) rfl (by simp only [rowT,cat,raw]; omega) (hw2.sel [3,4] (by decide))))))))))))⟩)))⟩))⟩))⟩))⟩))⟩))⟩))⟩))⟩)))))))))))))))
theorem others1K (s : StmtX) (y : Lay) (bl : List Nat) (bp bx i : Nat) (pb : Nat) (A : Option Addr) (c : Nat) (l : List UInt8) (m : Int) (w : World) (hP : fw w pb A c l 0 m) (hm0 : 0 ≤ m) (hV : PV w (prL pb A) bl) (hE : CEnv w bl bp pb bx (bL s y)) (hA : SAt bl w s y) (hi : i < s.sets.length) (hmy : gi (s.sets.getD i SetX.zero) = true) (ho : (s.sets.getD i SetX.zero).e.ok) (hb : l.length + (setT (s.sets.getD i SetX.zero)).1.length ≤ 70368744177664) : Calls Tryz.prog 61 #[.int .i64 (i : Int),.pointer (some ⟨bp,0,none⟩),.pointer (some ⟨bx,0,none⟩)] w (PrT w pb A (l ++ (setT (s.sets.getD i SetX.zero)).1) 0 (max m ((setT (s.sets.getD i SetX.zero)).2 : Int))) := by
 refine ax (args := [.int .i64 (i : Int),.pointer (some ⟨bp,0,none⟩),.pointer (some ⟨bx,0,none⟩)]) (lent := prL pb A) (H := prD pb A c l 0 m) Tryz.func61 rfl Tryz.ntmps61 rfl (Sat.cx hP) ((show Tri _ [(0,_),(1,_),(2,_)] _ _ _ from ?_))
 have hP_ := hE.rp hV.pe
 have hX_ := hE.rx hV.pe
 obtain ⟨xC,xN,xR,xS,xI,xF,xO,hC,hN,hR_,hS,hW,hQ⟩ := id hA
 obtain ⟨ye,hci,hye⟩ := nF hS i hi
 simp only [setT,cat,raw,List.length_append,List.length_cons,List.length_nil] at hb
 refine ae (bo (_) [(0,true),(1,true),(2,true),(3,true),(4,true),(5,true),(6,true),(7,false),(8,false)] [8] (by kernel_rfl) (by kernel_rfl) (fun _ h => h) (ah rfl (aH (A := some ⟨bp,0,none⟩) (kk := 0) bP rfl rfl (hP_ _ _ rfl rfl) rfl (ab ⟨rfl,ah rfl (aO (A := some ⟨bx,0,none⟩) (kk := 0) dp rfl rfl (hX_ _ _ rfl rfl) rfl (ab ⟨rfl,ah rfl (aH e7 rfl rfl (hX_ _ _ rfl rfl) rfl (ab ⟨rfl,ah rfl (ai rfl rfl (ab ⟨rfl,ah rfl (aT Tryz.underlying25 mb rfl rfl rfl (hS.rd hV.pe _ _ rfl rfl) (by omega) (by omega) hS.len (by decide) (ab ⟨rfl,ah rfl (aO kv rfl rfl (hS.rd hV.pe _ _ rfl rfl) (aL hci (j := 0) rfl) (ab ⟨rfl,ah rfl (aH bn rfl rfl (hS.rd hV.pe _ _ rfl rfl) (aL hci (j := 0) rfl) (ab ⟨rfl,(ba rfl (eG (parts := [_,_]) (dP [(s.sets.getD i SetX.zero).n,[32,61,32]]) Tryz.underlying23 zs9 rfl rfl rfl rfl (by decide) (by decide) (fun b11 => ab ⟨rfl,fun _ _ h => Sat.dropS 1 h,(bE [8] [_] rfl rfl (aC (pb := pb) [_] rfl rfl rfl rfl Tryz.call20 (fun w1 h1 h2 h3 => cL [(s.sets.getD i SetX.zero).n,[32,61,32]] _ _ pb _ _ _ _ _ w1 h2 (RdS.row .z w1 h1) (fun a ha => by cases ha; exact aZ h1 (fun x hx => hx) rfl) (by (try simp only [List.length_append,List.length_cons,List.length_nil,List.flatten_cons,List.flatten_nil] at hb ⊢); omega) (by simp)) (fun A12 c12 => ab ⟨rfl,(ag (tri_slo [(0,_),(1,_),(2,_)] rfl (bo (_) [(0,true),(1,true),(2,true),(3,true),(4,true),(5,true),(6,true),(7,false)] [7] (by kernel_rfl) (by kernel_rfl) (fun _ h => h) (ah rfl (aH (A := some ⟨bp,0,none⟩) (kk := 0) bP rfl rfl (hP_ _ _ rfl rfl) rfl (ab ⟨rfl,ah rfl (aO (A := some ⟨bx,0,none⟩) (kk := 0) dp rfl rfl (hX_ _ _ rfl rfl) rfl (ab ⟨rfl,ah rfl (aH e7 rfl rfl (hX_ _ _ rfl rfl) rfl (ab ⟨rfl,ah rfl (ai rfl rfl (ab ⟨rfl,ah rfl (aT Tryz.underlying25 mb rfl rfl rfl (hS.rd hV.pe _ _ rfl rfl) (by omega) (by omega) hS.len (by decide) (ab ⟨rfl,ah rfl (aO n7 rfl rfl (hS.rd hV.pe _ _ rfl rfl) (aL hci (j := 0) rfl) (ab ⟨rfl,ah rfl (bv aY aX rfl rfl (hS.rd hV.pe _ _ rfl rfl) (vs := bH ((s.sets.getD i SetX.zero).e) ye) (ey (p := [.string (B (s.sets.getD i SetX.zero).n)]) (cs := bH ((s.sets.getD i SetX.zero).e) ye) (r := []) hci) rfl (by decide) ?_)⟩))⟩))⟩))⟩))⟩))⟩))))))⟩)))⟩)))⟩))⟩))⟩))⟩))⟩))⟩))⟩)))); exact ab ⟨rfl,(bE [7] [_] rfl rfl (aC (pb := pb) [_] rfl rfl rfl rfl Tryz.call26 (fun w1 h1 h2 h3 => m7 ((s.sets.getD i SetX.zero).e) (maySet_1 hmy) (ho) 1 bl ye pb _ _ _ _ _ w1 h2 (hV.sub (PSub.of h1 h3)) (hye.stab (hV.pe.st (PSub.of h1 h3))) (by omega) (by (try simp only [cat,raw,List.length_append,List.length_cons,List.length_nil,List.flatten_cons,List.flatten_nil] at hb ⊢); omega) (by (try simp only [List.length_append,List.length_cons,List.length_nil,List.flatten_cons,List.flatten_nil] at hb ⊢); omega)) (fun A20 c20 => ab ⟨rfl,(bX rfl (bj (J := Option Addr × Nat) (A20,c20) rfl trivial (fun w2 hw2 => bO (by simp [setT,cat,raw]) rfl (by simp only [setT,cat,raw]; omega) (hw2.sel [1,2] (by decide)))))⟩)))⟩
set_option maxHeartbeats 1000000 in
theorem othersK (s : StmtX) (y : Lay) (bl : List Nat) (pb : Nat) (A : Option Addr) (c : Nat) (l : List UInt8) (m : Int) (w : World) (hP : fw w pb A c l 0 m) (hm0 : 0 ≤ m) (hV : PV w (prL pb A) bl) (hA : SAt bl w s y) (hk6 : 6 ≤ s.k) (hmy : dv s = true) (hok : SOk s) (hb : l.length + (dK s).1.length ≤ 70368744177664) : Calls Tryz.prog 27 #[.pointer (some ⟨pb,0,none⟩),.agg (bL s y).toArray] w (PrT w pb A (l ++ (dK s).1) 0 (max m ((dK s).2 : Int))) := by
 refine ax (args := [.pointer (some ⟨pb,0,none⟩),.agg (bL s y).toArray]) (lent := prL pb A) (H := prD pb A c l 0 m) Tryz.func27 rfl Tryz.ntmps27 rfl (Sat.cx hP) ((show Tri _ [(0,_),(1,_)] _ _ _ from ?_))
 obtain ⟨xC,xN,xR,xS,xI,xF,xO,hC,hN,hR_,hS,hW,hQ⟩ := id hA
 refine ae (aa (cl _ rfl rfl rfl (fun b2 => cl _ rfl rfl rfl (fun b3 => triL_nilN (ae (aa (aj jm rfl rfl (ak bK N0 rfl rfl rfl (triL_nilN (av (ae (aa (az rfl rfl rfl (o_assignN rfl rfl (ar rfl (fun q6 => ?_) (fun q6 => ?_))))))))))))))))
 · skip
   rw [st_6 q6] at hb ⊢
   simp only [cat,raw,List.length_append,List.length_cons,List.length_nil] at hb
   have hmw : gB s.wh = true := by rw [p7 q6] at hmy; simp only [Bool.and_eq_true] at hmy; exact hmy.2
   exact ae (tri_slo [(3,_),(2,_)] rfl (aa (ak bP N1 rfl rfl rfl (aj cq rfl rfl (ak bn N0 rfl rfl rfl (eG (parts := [_,_]) (dP [[100,101,108,101,116,101,32,102,114,111,109,32],s.t]) Tryz.underlying23 zs9 rfl rfl rfl rfl (by decide) (by decide) (fun b11 => aC (pb := pb) [_,_,_] rfl rfl rfl rfl Tryz.call20 (fun w1 h1 h2 h3 => cL [[100,101,108,101,116,101,32,102,114,111,109,32],s.t] _ _ pb _ _ _ _ _ w1 h2 (RdS.row .z w1 h1) (fun a ha => by cases ha; exact aZ h1 (fun x hx => (List.mem_cons_of_mem _ (List.mem_cons_of_mem _ hx))) rfl) (by (try simp only [List.length_append,List.length_cons,List.length_nil,List.flatten_cons,List.flatten_nil] at hb ⊢); omega) (by simp)) (fun A12 c12 => triL_nilN (tri_slo [(3,_),(2,_)] rfl (aa (ak bP N2 rfl rfl rfl (aj eF rfl rfl (aQ aY aX (.s .z) rfl rfl (vs := bH s.wh y.W) rfl rfl (aC (pb := pb) [_,_,_] rfl rfl rfl rfl Tryz.call60 (fun w1 h1 h2 h3 => n6 s.wh y.W bl pb _ _ _ _ w1 h2 (by omega) (hV.sub (PSub.of h1 h3)) (hW.stab (hV.pe.st (PSub.of h1 h3))) hok.wh hmw (by (try simp only [List.length_append,List.length_cons,List.length_nil,List.flatten_cons,List.flatten_nil] at hb ⊢); omega)) (fun A16 c16 => ab (ao (bX rfl (bj (J := Option Addr × Nat) (A16,c16) rfl trivial (fun w2 hw2 => bO (by simp [cat,raw]) rfl (by simp only [cat,raw]; omega) (hw2.sel [3,4] (by decide)))))))))))))))))))))
 · skip
   refine ae (tri_slo [(5,_),(3,_),(2,_)] rfl (aa (az rfl rfl rfl (o_assignN rfl rfl (ar rfl (fun q7 => ?_) (fun q7 => ?_))))))
   · skip
     rw [st_7 q7] at hb ⊢
     simp only [cat,raw,List.length_append,List.length_cons,List.length_nil] at hb
     rw [p8 q7] at hmy
     simp only [Bool.and_eq_true] at hmy
     obtain ⟨_,hmu,hmw,hma⟩ := hmy
     have hmu := rg hmu
     have hms : ∀ i,i < s.sets.length → gi (s.sets.getD i SetX.zero) = true := fun i hi => gU hma hi
     exact ae (aa (ak bP N1 rfl rfl rfl (aj cq rfl rfl (ak bn N0 rfl rfl rfl (eG (parts := [_,_,_]) (dP [[117,112,100,97,116,101,32],s.t,[32,115,101,116,32]]) Tryz.underlying23 zs9 rfl rfl rfl rfl (by decide) (by decide) (fun b22 => aC (pb := pb) [_,_,_] rfl rfl rfl rfl Tryz.call20 (fun w1 h1 h2 h3 => cL [[117,112,100,97,116,101,32],s.t,[32,115,101,116,32]] _ _ pb _ _ _ _ _ w1 h2 (RdS.row .z w1 h1) (fun a ha => by cases ha; exact aZ h1 (fun x hx => (List.mem_cons_of_mem _ (List.mem_cons_of_mem _ hx))) rfl) (by (try simp only [List.length_append,List.length_cons,List.length_nil,List.flatten_cons,List.flatten_nil] at hb ⊢); omega) (by simp)) (fun A23 c23 => triL_nilN (ae (tri_slo [(3,_),(2,_)] rfl (aa (ak bP N2 rfl rfl rfl (aj dp rfl rfl (ak e7 N1 rfl rfl rfl (aU Tryz.underlying25 rfl rfl (bR rfl rfl rfl (aC (pb := pb) [_,_,_] rfl rfl rfl rfl Tryz.call21 (fun w1 h1 h2 h3 => f9 (fun i => setT (s.sets.getD i SetX.zero)) s.sets.length 61 [] [.pointer (some ⟨b2,0,none⟩),.pointer (some ⟨b3,0,none⟩)] pb _ _ _ _ w1 h2 (by omega) (by omega) (by (try simp only [List.length_append,List.length_cons,List.length_nil,List.flatten_cons,List.flatten_nil] at hb ⊢); omega) Tryz.call61 (fun i A1 c1 l1 m1 w2 hi hs hP1 hm1 hb1 => by have hce := cenv (F := [_,_,_]) hV.pe h1 (.s (.s .z)) (.s .z); have hPV : PV w1 _ _ := ⟨hce.1,(hV.lv.chgL h1.chg (fun k hk => (hV.pe.g k hk).2))⟩; have hA2 := (hA.stab (hV.pe.st (PSub.of h1 h3))).mono (bl' := b2 :: b3 :: bl) (fun k hk => List.mem_cons_of_mem _ (List.mem_cons_of_mem _ hk)); exact others1K s y (b2 :: b3 :: bl) b2 b3 i pb A1 c1 l1 m1 w2 hP1 hm1 (hPV.sub hs) (hce.2.stab (hce.1.st hs)) (hA2.stab (hce.1.st hs)) hi (hms i hi) (hok.sets i hi) hb1)) (fun A29 c29 => triL_nilN (tri_slo [(3,_),(2,_)] rfl (aa (ak bP N2 rfl rfl rfl (aj eF rfl rfl (aQ aY aX (.s .z) rfl rfl (vs := bH s.wh y.W) rfl rfl (aC (pb := pb) [_,_,_] rfl rfl rfl rfl Tryz.call60 (fun w1 h1 h2 h3 => n6 s.wh y.W bl pb _ _ _ _ w1 h2 (by omega) (hV.sub (PSub.of h1 h3)) (hW.stab (hV.pe.st (PSub.of h1 h3))) hok.wh hmw (by (try simp only [List.length_append,List.length_cons,List.length_nil,List.flatten_cons,List.flatten_nil] at hb ⊢); omega)) (fun A33 c33 => ab (ao (bX rfl (bj (J := Option Addr × Nat) (A33,c33) rfl trivial (fun w2 hw2 => bO (by simp [cat,raw]) rfl (by simp only [cat,raw]; omega) (hw2.sel [3,4] (by decide))))))))))))))))))))))))))))))
   · skip
     refine ae (aa (az rfl rfl rfl (o_assignN rfl rfl (ar rfl (fun q8 => ?_) (fun q8 => ?_)))))
     · skip
       rw [st_8 q8] at hb ⊢
       exact tri_slo [(3,_),(2,_)] rfl (aa (ak bP N1 rfl rfl rfl (aj fP rfl rfl (aQ mc kK .z rfl rfl (vs := dL s.q y.q) rfl rfl (aC (pb := pb) [_,_] rfl rfl rfl rfl Tryz.call62 (fun w1 h1 h2 h3 => cP s.q y.q bl pb _ _ _ _ w1 h2 (by omega) (hV.sub (PSub.of h1 h3)) (hA.q.stab (hV.pe.st (PSub.of h1 h3))) (by rw [p9 q8] at hmy; exact hmy) hok.q (by omega)) (fun A39 c39 => ab (ao (bX rfl (bj (J := Option Addr × Nat) (A39,c39) rfl trivial (fun w2 hw2 => bO (by rfl) rfl (by rfl) (hw2.sel [2,3] (by decide))))))))))))
     · skip
       refine ae (tri_slo [(5,_),(2,_)] rfl (aa (az rfl rfl rfl (o_assignN rfl rfl (ar rfl (fun q9 => ?_) (fun q9 => ?_))))))
       · skip
         rw [st_9 q9] at hb ⊢
         simp only [raw,List.length_cons,List.length_nil] at hb
         exact aa (ak bP N1 rfl rfl rfl (bA Tryz.underlying23 zs9 rfl rfl rfl rfl rfl (by decide) (by decide) (fun b43 => aC (pb := pb) [_,_,_] rfl rfl rfl rfl Tryz.call20 (fun w1 h1 h2 h3 => cL [[98,101,103,105,110]] _ _ pb _ _ _ _ _ w1 h2 (RdS.row .z w1 h1) (fun a ha => by cases ha; exact aZ h1 (fun x hx => (List.mem_cons_of_mem _ (List.mem_cons_of_mem _ hx))) rfl) (by (try simp only [List.length_append,List.length_cons,List.length_nil,List.flatten_cons,List.flatten_nil] at hb ⊢); omega) (by simp)) (fun A44 c44 => ab (ao (bX rfl (bj (J := Option Addr × Nat) (A44,c44) rfl trivial (fun w2 hw2 => bO (by simp [raw]) rfl (by simp only [raw]; omega) (hw2.sel [3,4] (by decide))))))))))
       · skip
         refine ae (aa (az rfl rfl rfl (o_assignN rfl rfl (ar rfl (fun q10 => ?_) (fun q10 => ?_)))))
         · skip
           rw [st_10 q10] at hb ⊢
           simp only [raw,List.length_cons,List.length_nil] at hb
           exact tri_slo [(2,_)] rfl (aa (ak bP N1 rfl rfl rfl (bA Tryz.underlying23 zs9 rfl rfl rfl rfl rfl (by decide) (by decide) (fun b48 => aC (pb := pb) [_,_,_] rfl rfl rfl rfl Tryz.call20 (fun w1 h1 h2 h3 => cL [[99,111,109,109,105,116]] _ _ pb _ _ _ _ _ w1 h2 (RdS.row .z w1 h1) (fun a ha => by cases ha; exact aZ h1 (fun x hx => (List.mem_cons_of_mem _ (List.mem_cons_of_mem _ hx))) rfl) (by (try simp only [List.length_append,List.length_cons,List.length_nil,List.flatten_cons,List.flatten_nil] at hb ⊢); omega) (by simp)) (fun A49 c49 => ab (ao (bX rfl (bj (J := Option Addr × Nat) (A49,c49) rfl trivial (fun w2 hw2 => bO (by simp [raw]) rfl (by simp only [raw]; omega) (hw2.sel [3,4] (by decide)))))))))))
         · skip
           refine ae (tri_slo [(5,_),(2,_)] rfl (aa (az rfl rfl rfl (o_assignN rfl rfl (ar rfl (fun q11 => ?_) (fun q11 => ?_))))))
           · skip
             rw [st_11 q11] at hb ⊢
             simp only [raw,List.length_cons,List.length_nil] at hb
             exact aa (ak bP N1 rfl rfl rfl (bA Tryz.underlying23 zs9 rfl rfl rfl rfl rfl (by decide) (by decide) (fun b53 => aC (pb := pb) [_,_,_] rfl rfl rfl rfl Tryz.call20 (fun w1 h1 h2 h3 => cL [[114,111,108,108,98,97,99,107]] _ _ pb _ _ _ _ _ w1 h2 (RdS.row .z w1 h1) (fun a ha => by cases ha; exact aZ h1 (fun x hx => (List.mem_cons_of_mem _ (List.mem_cons_of_mem _ hx))) rfl) (by (try simp only [List.length_append,List.length_cons,List.length_nil,List.flatten_cons,List.flatten_nil] at hb ⊢); omega) (by simp)) (fun A54 c54 => ab (ao (bX rfl (bj (J := Option Addr × Nat) (A54,c54) rfl trivial (fun w2 hw2 => bO (by simp [raw]) rfl (by simp only [raw]; omega) (hw2.sel [3,4] (by decide))))))))))
           · skip
             exfalso
             rw [nI (by omega)] at hmy
             have := of_decide_eq_true hmy
             omega
end Go.Proofs.YtjbpkcbefmpfgaaGreatDoor
namespace Go.Proofs.YtjbpkcbefmpfgaaGreatDoor
open Go.WK Go.RowKit 
set_option maxHeartbeats 1000000 in
theorem mayQK (q : QryX) (y : QLay) (bl : List Nat) (w : World) (hA : QAt bl w q y) (hbl : ∀ k ∈ bl,k < w.heap.size) (hok : QOk q) (hbd : QBd q) : Calls Tryz.prog 34 #[.agg (dL q y).toArray] w (cj w (.bool (mayQ q))) := by
 refine ax (args := [.agg (dL q y).toArray]) (lent := []) (H := []) Tryz.func34 rfl Tryz.ntmps34 rfl (Sat.start _ _ _ _) ((show Tri _ [(0,_)] _ _ _ from ?_))
 obtain ⟨xI,xF,xO,hI,hF,hW,hO⟩ := id hA
 have n1 : q.items.length ≤ 70368744177664 := hbd.ni
 have n2 : q.from_.length ≤ 70368744177664 := hbd.nf
 have n3 : q.ord.length ≤ 70368744177664 := hbd.no
 refine ae (aa (cl _ rfl rfl rfl (fun b1 => o_assignN rfl rfl (ae (aa (aj gX rfl rfl (aQ aY aX .z rfl rfl (vs := bH q.wh y.V) rfl rfl (aA (first := []) (cap := []) rfl rfl rfl Tryz.call33 (fun w1 h1 => qC q.wh y.V bl w1 (hW.stab (fun k hk => h1.chg.block k (hbl k hk) (by simp))) hok.wh hbd.wh (fun k hk => Nat.lt_of_lt_of_le (hbl k hk) h1.chg.size)) (ai rfl rfl ?_)))))))))
 refine' aD [_,_,_,_] [(1,_)] (dj := 13) (dr := 17) rfl rfl (fun g1 => ?_) ⟨_,rfl,rfl,rfl,(.cons rfl (.nil _))⟩ rfl ?_
 rotate_left
 · skip
   exact aj cB rfl rfl (ak dD N0 rfl rfl rfl (aU Tryz.underlying32 rfl rfl (iW rfl rfl rfl (ab (Piece.mk rfl rfl (.cons rfl (.nil _)) (fun _ h => h))))))
 refine ai rfl rfl ?_
 refine' aD [_,_,_,_] [(1,_)] (dj := 19) (dr := 23) rfl rfl (fun g2 => ?_) ⟨_,rfl,rfl,rfl,(.cons rfl (.nil _))⟩ rfl ?_
 rotate_left
 · skip
   exact aj eb rfl rfl (ak f8 N0 rfl rfl rfl (aU Tryz.underlying33 rfl rfl (iW rfl rfl rfl (ab (Piece.mk rfl rfl (.cons rfl (.nil _)) (fun _ h => h))))))
 refine ai rfl rfl ?_
 refine' aD [_,_,_] [(1,_)] (dj := 25) (dr := 28) rfl rfl (fun g3 => ?_) ⟨_,rfl,rfl,rfl,(.cons rfl (.nil _))⟩ rfl ?_
 rotate_left
 · skip
   exact aj iD rfl rfl (ak bK N0 rfl rfl rfl (jp rfl rfl rfl (ab (Piece.mk rfl rfl (.cons rfl (.nil _)) (fun _ h => h)))))
 refine ai rfl rfl ?_
 refine' aD [_,_,_,_,_,_,_] [(1,_)] (dj := 30) (dr := 37) rfl rfl (fun g4 => ?_) ⟨_,rfl,rfl,rfl,(.cons rfl (.nil _))⟩ rfl ?_
 rotate_left
 · skip
   refine aj jl rfl rfl (ak fg N0 rfl rfl rfl (ai rfl rfl ?_))
   refine' bd [_,_,_] [(30,_),(1,_)] (dj := 33) (dr := 36) rfl rfl (fun g5 => ?_) ⟨_,rfl,rfl,rfl,(.cons rfl (.cons rfl (.nil _)))⟩ rfl ?_
   rotate_left
   · skip
     exact aj iD rfl rfl (ak bK N0 rfl rfl rfl (az rfl rfl rfl (ab (Piece.mk rfl rfl (.cons rfl (.cons rfl (.nil _))) (fun _ h => h)))))
   exact ab (Piece.mk rfl rfl (.cons rfl (.nil _)) (fun _ h => h))
 refine o_assignN rfl rfl (cr (ι := Nat) (fun i => [(1,.pointer (some ⟨b1,0,none⟩)),(3,.bool (mqA q && mqB q))]) (fun i => [box b1 35 (dL q y)]) (fun i => True) ?_ (fun i hj => ?_))
 · skip
   refine ae (aa (aj jk rfl rfl (ak fg N0 rfl rfl rfl (triL_nilN (aF rfl (fun q0 => ?_) (fun q0 => ?_))))))
   · skip
     refine aa (ai rfl rfl (ai rfl rfl ?_))
     refine' aD [_,_,_,_] [(3,_),(1,_)] (dj := 42) (dr := 46) rfl rfl (fun g6 => ?_) ⟨_,rfl,rfl,rfl,(.cons rfl (.cons rfl (.nil _)))⟩ rfl ?_
     rotate_left
     · skip
       exact aj cJ rfl rfl (ak dV N0 rfl rfl rfl (aU Tryz.underlying31 rfl rfl (az rfl rfl rfl (ab (Piece.mk rfl rfl (.cons rfl (.cons rfl (.nil _))) (fun _ h => h))))))
     exact o_assignN rfl rfl (⟨0,(.cons rfl (.cons (congrArg (fun b => some (Value.bool b)) (by unfold mqA mqB; rw [if_pos q0])) (.nil _))),fun _ h => h,trivial⟩)
   · skip
     refine aa (ai rfl rfl (ai rfl rfl ?_))
     refine' aD [_,_,_,_] [(3,_),(1,_)] (dj := 49) (dr := 53) rfl rfl (fun g7 => ?_) ⟨_,rfl,rfl,rfl,(.cons rfl (.cons rfl (.nil _)))⟩ rfl ?_
     rotate_left
     · skip
       exact aj cJ rfl rfl (ak dV N0 rfl rfl rfl (aU Tryz.underlying31 rfl rfl (aA (first := []) (cap := []) rfl rfl rfl Tryz.call31 (fun w1 h1 => pc q.items.length 16 w1) (ab (Piece.mk rfl rfl (.cons rfl (.cons rfl (.nil _))) (fun _ h => h))))))
     exact o_assignN rfl rfl (⟨0,(.cons rfl (.cons (congrArg (fun b => some (Value.bool b)) (by unfold mqA mqB; rw [if_neg (fH q0)])) (.nil _))),fun _ h => h,trivial⟩)
 refine ae (ae (aa (aj cJ rfl rfl (ak dV N0 rfl rfl rfl (aU Tryz.underlying31 rfl rfl (ai rfl rfl (triL_nilN (av (bC (ι := Nat) (F := fun i => [(1,.pointer (some ⟨b1,0,none⟩)),(3,.bool ((mqA q && mqB q) && bY (fun i => jE (q.items.getD i ItemX.zero)) i)),(56,.slice y.I.A q.items.length y.I.k),(57,.int .i64 (q.items.length : Int)),(58,.int .i64 (i : Int))]) (HH := fun i => [box b1 35 (dL q y)]) (Pu := fun i => i ≤ q.items.length) (μ := fun i => q.items.length - i) (0) (.cons rfl (.cons (congrArg (fun b => some (Value.bool b)) (by simp [bY])) (.cons rfl (.cons rfl (.cons rfl (.nil _)))))) (fun _ h => h) (Nat.zero_le _) (fun i hi => ae (aa (cv rfl rfl rfl (triL_nilN (ae (ar rfl (fun q1 => ?_) (fun q1 => ?_))))))))))))))))
 · skip
   have hil : i < q.items.length := by omega
   refine an (ag (ae (av (ae ?_))))
   obtain ⟨ye,hci,hye⟩ := jH hI i hil
   refine aa (aT Tryz.underlying31 jj rfl rfl rfl (hI.rd0 _ _ rfl rfl) (by omega) (by omega) hI.len (by decide) (bv agg53 jj rfl rfl (hI.rd0 _ _ rfl rfl) (vs := bH (q.items.getD i ItemX.zero).e ye ++ [Value.string (B (q.items.getD i ItemX.zero).s)]) hci rfl (by decide) (aM _ rfl zero53 rfl (fun b5 => aI jj N0 rfl rfl rfl rfl rfl (Nat.le_of_ble_eq_true rfl) rfl (triL_nilN (aa (ai rfl rfl (ai rfl rfl ?_))))))))
   refine' aD [_,_,_] [(5,_),(1,_),(3,_),(56,_),(57,_),(58,_)] (dj := 63) (dr := 66) rfl rfl (fun g8 => ?_) ⟨_,rfl,rfl,rfl,(.cons rfl (.cons rfl (.cons rfl (.cons rfl (.cons rfl (.cons rfl (.nil _)))))))⟩ rfl ?_
   rotate_left
   · skip
     exact aj ma rfl rfl (aQ aY aX .z rfl rfl (vs := bH (q.items.getD i ItemX.zero).e ye) rfl rfl (aA (first := []) (cap := []) rfl rfl rfl Tryz.call32 (fun w1 h1 => m6 (q.items.getD i ItemX.zero).e bl ye w1 (hye.stab (fun k hk => h1.chg.block k (hbl k hk) (by simp))) (hok.items i hil) (hbd.items i hil).1) (ab (Piece.mk rfl rfl (.cons rfl (.cons rfl (.cons rfl (.cons rfl (.cons rfl (.cons rfl (.nil _))))))) (fun _ h => h)))))
   refine ai rfl rfl ?_
   refine' aD [_,_,_,_,_,_,_,_] [(1,_),(3,_),(56,_),(57,_),(58,_)] (dj := 68) (dr := 76) rfl rfl (fun g9 => ?_) ⟨_,rfl,rfl,rfl,(.cons rfl (.cons rfl (.cons rfl (.cons rfl (.cons rfl (.nil _))))))⟩ rfl ?_
   rotate_left
   · skip
     refine aj iB rfl rfl (ak bn N0 rfl rfl rfl (bz rfl rfl rfl (ai rfl rfl ?_)))
     refine' bd [_,_,_] [(68,_),(1,_),(3,_),(56,_),(57,_),(58,_)] (dj := 72) (dr := 75) rfl rfl (fun g10 => ?_) ⟨_,rfl,rfl,rfl,(.cons rfl (.cons rfl (.cons rfl (.cons rfl (.cons rfl (.cons rfl (.nil _)))))))⟩ rfl ?_
     rotate_left
     · skip
       exact aj iB rfl rfl (ak bn N0 rfl rfl rfl (aA (first := []) (cap := []) rfl rfl rfl Tryz.call30 (fun w1 h1 => dE (q.items.getD i ItemX.zero).s w1 (hbd.items i hil).2) (ab (Piece.mk rfl rfl (.cons rfl (.cons rfl (.cons rfl (.cons rfl (.cons rfl (.cons rfl (.nil _))))))) (fun _ h => h)))))
     exact ab (Piece.mk rfl rfl (.cons rfl (.cons rfl (.cons rfl (.cons rfl (.cons rfl (.nil _)))))) (fun _ h => h))
   exact aG rfl rfl (ab (ao (ag (aa (bD rfl rfl rfl (by omega) (ai rfl rfl (triL_nilN (⟨i + 1,(.cons rfl (.cons (congrArg (fun b => some (Value.bool b)) (by exact sv (mqA q && mqB q) (fun i => q.items.getD i ItemX.zero) i)) (.cons rfl (.cons rfl (.cons rfl (.nil _)))))),(fun w2 hw2 => hw2.tail),by omega,by omega⟩))))))))
 · skip
   have hie : i = q.items.length := by omega
   rw [hie]
   refine bg (au (au (aK (ag (ae (ae (tri_slo [(1,_),(3,_)] rfl (aa (aj cB rfl rfl (ak dD N0 rfl rfl rfl (aU Tryz.underlying32 rfl rfl (ai rfl rfl (triL_nilN (av (bC (ι := Nat) (F := fun i => [(1,.pointer (some ⟨b1,0,none⟩)),(3,.bool (((mqA q && mqB q) && bY (fun i => jE (q.items.getD i ItemX.zero)) q.items.length) && bY (fun i => lK i (q.from_.getD i SrcX.zero)) i)),(80,.slice y.F.A q.from_.length y.F.k),(81,.int .i64 (q.from_.length : Int)),(82,.int .i64 (i : Int))]) (HH := fun i => [box b1 35 (dL q y)]) (Pu := fun i => i ≤ q.from_.length) (μ := fun i => q.from_.length - i) (0) (.cons rfl (.cons (congrArg (fun b => some (Value.bool b)) (by simp [bY])) (.cons rfl (.cons rfl (.cons rfl (.nil _)))))) (fun _ h => h) (Nat.zero_le _) (fun i hi => ae (aa (cv rfl rfl rfl (triL_nilN (ae (ar rfl (fun q2 => ?_) (fun q2 => ?_))))))))))))))))))))))
   · skip
     have hil : i < q.from_.length := by omega
     refine an (ag (ae (av (ae ?_))))
     obtain ⟨ye,hci,hye⟩ := nE hF i hil
     refine aa (ai rfl rfl (aT Tryz.underlying32 eN rfl rfl rfl (hF.rd0 _ _ rfl rfl) (by omega) (by omega) hF.len (by decide) (bv lZ eN rfl rfl (hF.rd0 _ _ rfl rfl) (vs := Value.string (B (q.from_.getD i SrcX.zero).t) :: Value.string (B (q.from_.getD i SrcX.zero).s) :: bH (q.from_.getD i SrcX.zero).e ye) hci rfl (by decide) (aM _ rfl lY rfl (fun b7 => aG rfl rfl (aI eN N0 rfl rfl rfl rfl rfl (Nat.le_of_ble_eq_true rfl) rfl (triL_nilN (tri_slo [(6,_),(7,_),(1,_),(3,_),(80,_),(81,_),(82,_)] rfl (aa (ai rfl rfl (ai rfl rfl ?_)))))))))))
     refine' aD [_,_,_] [(6,_),(7,_),(1,_),(3,_),(80,_),(81,_),(82,_)] (dj := 88) (dr := 91) rfl rfl (fun g11 => ?_) ⟨_,rfl,rfl,rfl,(.cons rfl (.cons rfl (.cons rfl (.cons rfl (.cons rfl (.cons rfl (.cons rfl (.nil _))))))))⟩ rfl ?_
     rotate_left
     · skip
       exact aj iE rfl rfl (ak bn N0 rfl rfl rfl (aA (first := []) (cap := []) rfl rfl rfl Tryz.call30 (fun w1 h1 => dE (q.from_.getD i SrcX.zero).t w1 (hbd.from_ i hil).2.1) (ab (Piece.mk rfl rfl (.cons rfl (.cons rfl (.cons rfl (.cons rfl (.cons rfl (.cons rfl (.cons rfl (.nil _)))))))) (fun _ h => h)))))
     refine ai rfl rfl ?_
     refine' aD [_,_,_,_,_,_,_,_] [(6,_),(7,_),(1,_),(3,_),(80,_),(81,_),(82,_)] (dj := 93) (dr := 101) rfl rfl (fun g12 => ?_) ⟨_,rfl,rfl,rfl,(.cons rfl (.cons rfl (.cons rfl (.cons rfl (.cons rfl (.cons rfl (.cons rfl (.nil _))))))))⟩ rfl ?_
     rotate_left
     · skip
       refine aj iA rfl rfl (ak bn N0 rfl rfl rfl (bz rfl rfl rfl (ai rfl rfl ?_)))
       refine' bd [_,_,_] [(93,_),(6,_),(7,_),(1,_),(3,_),(80,_),(81,_),(82,_)] (dj := 97) (dr := 100) rfl rfl (fun g13 => ?_) ⟨_,rfl,rfl,rfl,(.cons rfl (.cons rfl (.cons rfl (.cons rfl (.cons rfl (.cons rfl (.cons rfl (.cons rfl (.nil _)))))))))⟩ rfl ?_
       rotate_left
       · skip
         exact aj iA rfl rfl (ak bn N0 rfl rfl rfl (aA (first := []) (cap := []) rfl rfl rfl Tryz.call30 (fun w1 h1 => dE (q.from_.getD i SrcX.zero).s w1 (hbd.from_ i hil).2.2) (ab (Piece.mk rfl rfl (.cons rfl (.cons rfl (.cons rfl (.cons rfl (.cons rfl (.cons rfl (.cons rfl (.cons rfl (.nil _))))))))) (fun _ h => h)))))
       exact ab (Piece.mk rfl rfl (.cons rfl (.cons rfl (.cons rfl (.cons rfl (.cons rfl (.cons rfl (.cons rfl (.nil _)))))))) (fun _ h => h))
     refine ai rfl rfl ?_
     refine' aD [_,_,_,_,_,_,_,_,_,_,_,_,_,_,_,_] [(1,_),(3,_),(80,_),(81,_),(82,_)] (dj := 103) (dr := 119) rfl rfl (fun g14 => ?_) ⟨_,rfl,rfl,rfl,(.cons rfl (.cons rfl (.cons rfl (.cons rfl (.cons rfl (.nil _))))))⟩ rfl ?_
     rotate_left
     · skip
       refine ai rfl rfl (az rfl rfl rfl (ai rfl rfl ?_))
       refine' aD [_,_,_] [(103,_),(6,_),(7,_),(1,_),(3,_),(80,_),(81,_),(82,_)] (dj := 106) (dr := 109) rfl rfl (fun g15 => ?_) ⟨_,rfl,rfl,rfl,(.cons rfl (.cons rfl (.cons rfl (.cons rfl (.cons rfl (.cons rfl (.cons rfl (.cons rfl (.nil _)))))))))⟩ rfl ?_
       rotate_left
       · skip
         exact aj kr rfl rfl (aQ aY aX .z rfl rfl (vs := bH (q.from_.getD i SrcX.zero).e ye) rfl rfl (aA (first := []) (cap := []) rfl rfl rfl Tryz.call72 (fun w1 h1 => nZ (q.from_.getD i SrcX.zero).e ye w1) (ab (Piece.mk rfl rfl (.cons rfl (.cons rfl (.cons rfl (.cons rfl (.cons rfl (.cons rfl (.cons rfl (.cons rfl (.nil _))))))))) (fun _ h => h)))))
       refine ai rfl rfl ?_
       refine' bd [_,_,_,_,_,_,_] [(103,_),(1,_),(3,_),(80,_),(81,_),(82,_)] (dj := 111) (dr := 118) rfl rfl (fun g16 => ?_) ⟨_,rfl,rfl,rfl,(.cons rfl (.cons rfl (.cons rfl (.cons rfl (.cons rfl (.cons rfl (.nil _)))))))⟩ rfl ?_
       rotate_left
       · skip
         refine ai rfl rfl (fA rfl rfl rfl (ai rfl rfl ?_))
         refine' aD [_,_,_] [(111,_),(103,_),(1,_),(3,_),(80,_),(81,_),(82,_)] (dj := 114) (dr := 117) rfl rfl (fun g17 => ?_) ⟨_,rfl,rfl,rfl,(.cons rfl (.cons rfl (.cons rfl (.cons rfl (.cons rfl (.cons rfl (.cons rfl (.nil _))))))))⟩ rfl ?_
         rotate_left
         · skip
           exact aj kr rfl rfl (aQ aY aX .z rfl rfl (vs := bH (q.from_.getD i SrcX.zero).e ye) rfl rfl (aA (first := []) (cap := []) rfl rfl rfl Tryz.call32 (fun w1 h1 => m6 (q.from_.getD i SrcX.zero).e bl ye w1 (hye.stab (fun k hk => h1.chg.block k (hbl k hk) (by simp))) (hok.from_ i hil) (hbd.from_ i hil).1) (ab (Piece.mk rfl rfl (.cons rfl (.cons rfl (.cons rfl (.cons rfl (.cons rfl (.cons rfl (.cons rfl (.nil _)))))))) (fun _ h => h)))))
         exact ab (Piece.mk rfl rfl (.cons rfl (.cons rfl (.cons rfl (.cons rfl (.cons rfl (.cons rfl (.nil _))))))) (fun _ h => h))
       exact ab (Piece.mk rfl rfl (.cons rfl (.cons rfl (.cons rfl (.cons rfl (.cons rfl (.nil _)))))) (fun _ h => h))
     exact aG rfl rfl (ab (ao (ag (aa (bD rfl rfl rfl (by omega) (ai rfl rfl (triL_nilN (⟨i + 1,(.cons rfl (.cons (congrArg (fun b => some (Value.bool b)) (by exact sw ((mqA q && mqB q) && bY (fun i => jE (q.items.getD i ItemX.zero)) q.items.length) (fun i => q.from_.getD i SrcX.zero) i)) (.cons rfl (.cons rfl (.cons rfl (.nil _)))))),(fun w2 hw2 => hw2.tail),by omega,by omega⟩))))))))
   · skip
     have hie : i = q.from_.length := by omega
     rw [hie]
     refine bg (au (au (aK (ag (ae (ae (tri_slo [(1,_),(3,_)] rfl (aa (aj eb rfl rfl (ak f8 N0 rfl rfl rfl (aU Tryz.underlying33 rfl rfl (ai rfl rfl (triL_nilN (av (bC (ι := Nat) (F := fun i => [(3,.bool ((((mqA q && mqB q) && bY (fun i => jE (q.items.getD i ItemX.zero)) q.items.length) && bY (fun i => lK i (q.from_.getD i SrcX.zero)) q.from_.length) && bY (fun i => nameOk (q.ord.getD i OrdX.zero).n) i)),(123,.slice y.O.A q.ord.length y.O.k),(124,.int .i64 (q.ord.length : Int)),(125,.int .i64 (i : Int))]) (HH := fun i => [box b1 35 (dL q y)]) (Pu := fun i => i ≤ q.ord.length) (μ := fun i => q.ord.length - i) (0) (.cons (congrArg (fun b => some (Value.bool b)) (by simp [bY])) (.cons rfl (.cons rfl (.cons rfl (.nil _))))) (fun _ h => h) (Nat.zero_le _) (fun i hi => ae (aa (cv rfl rfl rfl (triL_nilN (ae (ar rfl (fun q3 => ?_) (fun q3 => ?_))))))))))))))))))))))
     · skip
       have hil : i < q.ord.length := by omega
       refine an (ag (ae (av (ae ?_))))
       have hci := nH hO i hil
       refine aa (aT Tryz.underlying33 iC rfl rfl rfl (hO.rd0 _ _ rfl rfl) (by omega) (by omega) hO.len (by decide) (bv nU iC rfl rfl (hO.rd0 _ _ rfl rfl) (vs := [Value.string (B (q.ord.getD i OrdX.zero).n),Value.bool (q.ord.getD i OrdX.zero).b]) hci rfl (by decide) (aM _ rfl rr rfl (fun b9 => aI iC N0 rfl rfl rfl rfl rfl (Nat.le_of_ble_eq_true rfl) rfl (triL_nilN (aa (ai rfl rfl (ai rfl rfl ?_))))))))
       refine' aD [_,_,_] [(3,_),(123,_),(124,_),(125,_)] (dj := 130) (dr := 133) rfl rfl (fun g18 => ?_) ⟨_,rfl,rfl,rfl,(.cons rfl (.cons rfl (.cons rfl (.cons rfl (.nil _)))))⟩ rfl ?_
       rotate_left
       · skip
         exact aj rz rfl rfl (ak bn N0 rfl rfl rfl (aA (first := []) (cap := []) rfl rfl rfl Tryz.call30 (fun w1 h1 => dE (q.ord.getD i OrdX.zero).n w1 (hbd.ord i hil)) (ab (Piece.mk rfl rfl (.cons rfl (.cons rfl (.cons rfl (.cons rfl (.nil _))))) (fun _ h => h)))))
       exact aG rfl rfl (ab (ao (ag (aa (bD rfl rfl rfl (by omega) (ai rfl rfl (triL_nilN (⟨i + 1,(.cons (congrArg (fun b => some (Value.bool b)) (by exact mP (((mqA q && mqB q) && bY (fun i => jE (q.items.getD i ItemX.zero)) q.items.length) && bY (fun i => lK i (q.from_.getD i SrcX.zero)) q.from_.length) (fun i => (q.ord.getD i OrdX.zero).n) i)) (.cons rfl (.cons rfl (.cons rfl (.nil _))))),(fun w2 hw2 => hw2.tail),by omega,by omega⟩))))))))
     · skip
       have hie : i = q.ord.length := by omega
       rw [hie]
       refine bg (au (au (aK (ag (ae (tri_slo [(3,_)] rfl (aa (ai rfl rfl (o_assignN rfl rfl (aq (aW rfl rfl ?_))))))))))); exact fun w1 hw1 => ⟨congrArg (fun b => Ending.returned (.bool b)) (by exact mayQ_eq q),hw1.chg⟩
end Go.Proofs.YtjbpkcbefmpfgaaGreatDoor
namespace Go.Proofs.YtjbpkcbefmpfgaaGreatDoor
open Go.WK Go.RowKit 
theorem n9 : (Tryz.prog.info? 35).map (·.zero) = some (some (.agg #[.bool false,.bool false,.slice none 0 0,.slice none 0 0,.int .i64 0,.int .i64 0,.int .i64 0,.string .empty,.string .empty,.string .empty,.int .i64 0,.slice none 0 0,.slice none 0 0,.bool false,.int .i64 0])) := by kernel_rfl
theorem eP : bs Tryz.prog 37 2 = some 2 := by kernel_rfl
theorem jo : bs Tryz.prog 37 5 = some 5 := by kernel_rfl
theorem sz22 : szB Tryz.prog 22 = some 1 := by kernel_rfl
theorem sz23 : szB Tryz.prog 23 = some 1 := by kernel_rfl
theorem sz24 : szB Tryz.prog 24 = some 1 := by kernel_rfl
theorem sz25 : szB Tryz.prog 25 = some 1 := by kernel_rfl
theorem agg82 : cu Tryz.prog 82 = some true := by kernel_rfl
theorem sG (x0 : Int) : Tryz.prog.built 37 [(0,.int .i64 x0)] = some ([.int .i64 x0,.string .empty,.string .empty,.slice none 0 0,.slice none 0 0,.bool false,.slice none 0 0,.slice none 0 0,.int .i64 0,.int .i64 0,.int .i64 0,.string .empty,.string .empty,.string .empty,.int .i64 0,.slice none 0 0,.bool false,.bool false,.slice none 0 0,.slice none 0 0,.int .i64 0,.int .i64 0,.int .i64 0,.string .empty,.string .empty,.string .empty,.int .i64 0,.slice none 0 0,.slice none 0 0,.bool false,.int .i64 0] : List Value).toArray := by kernel_rfl
theorem zero82 : (Tryz.prog.info? 82).map (·.zero) = some (some (.agg #[.string .empty,.int .i64 0,.int .i64 0,.int .i64 0,.string .empty,.string .empty,.string .empty,.int .i64 0,.slice none 0 0])) := by kernel_rfl
set_option maxRecDepth 100000 in
set_option maxHeartbeats 1000000 in
theorem restK (s t : StmtX) (y z : Lay) (w : World)  : Calls Tryz.prog 35 #[.agg (bL s y).toArray,.agg (bL t z).toArray] w (cj w (.bool (restB s t))) := by
 refine ax (args := [.agg (bL s y).toArray,.agg (bL t z).toArray]) (lent := []) (H := []) Tryz.func35 rfl Tryz.ntmps35 rfl (Sat.start _ _ _ _) ((show Tri _ [(0,_),(1,_)] _ _ _ from ae (aa (cl _ rfl rfl rfl (fun b2 => cl _ rfl rfl rfl (fun b3 => o_assignN rfl rfl (ae (Tri.mono (Q := fun e fs' H' => e = .normal ∧ ∃ b5 b6 : Nat,Sub fs' [(2,.pointer (some ⟨b2,0,none⟩)),(3,.pointer (some ⟨b3,0,none⟩)),(5,.pointer (some ⟨b5,0,none⟩)),(6,.pointer (some ⟨b6,0,none⟩))] ∧ ∀ w2,Sat ⟨Tryz.prog,161,[],w,[]⟩ H' w2 → Sat ⟨Tryz.prog,161,[],w,[]⟩ [box b5 35 (dL s.q y.q),box b6 35 (dL t.q z.q),box b3 37 (bL t z),box b2 37 (bL s y)] w2) ?_ (fun e fs1 H1 hq => ?_)))))))))
 · skip
   refine tri_mixT [box b3 37 (bL t z),box b2 37 (bL s y)] (.fix 0 (.fix 1 (.fix 2 (.fix 3 (.two 4 5 (.op 5 (.op 6 (.op 7 .nil))) (.op 4 (.op 6 (.op 7 .nil)))))))) (by kernel_rfl) (by kernel_rfl) (fun _ h => h) (jJ rfl (aj fP rfl rfl (ab ⟨rfl,(jJ rfl (aQ mc kK (.s .z) rfl rfl (vs := dL s.q y.q) rfl rfl (ab ⟨rfl,(jJ rfl (aj fP rfl rfl (ab ⟨rfl,(jJ rfl (aQ mc kK .z rfl rfl (vs := dL t.q z.q) rfl rfl (ab ⟨rfl,(mixT_two rfl rfl ?_ ?_)⟩)))⟩)))⟩)))⟩)))
   · skip
     exact aM _ rfl n9 rfl (fun b5 => ab ⟨rfl,fun _ h => Sat.dropS 1 h,(iQ rfl (aM _ rfl n9 rfl (fun b6 => ab ⟨rfl,fun _ h => Sat.dropS 2 h,(iQ rfl (aI kK (.s .z) rfl rfl rfl rfl rfl (Nat.le_of_ble_eq_true rfl) rfl (ab ⟨rfl,fun _ h => Sat.dropS 2 h,(iQ rfl (aI kK .z rfl rfl rfl rfl rfl (Nat.le_of_ble_eq_true rfl) rfl (ab ⟨rfl,fun _ h => Sat.dropS 2 h,(oS ⟨rfl,b5,b6,(.cons rfl (.cons rfl (.cons rfl (.cons rfl (.nil _))))),fun w2 hw2 => hw2.sel [1,0,2,3] (by decide)⟩)⟩)))⟩)))⟩)))⟩)
   · skip
     exact aM _ rfl n9 rfl (fun b6 => ab ⟨rfl,fun _ h => Sat.dropS 1 h,(iQ rfl (aM _ rfl n9 rfl (fun b5 => ab ⟨rfl,fun _ h => Sat.dropS 2 h,(iQ rfl (aI kK .z rfl rfl rfl rfl rfl (Nat.le_of_ble_eq_true rfl) rfl (ab ⟨rfl,fun _ h => Sat.dropS 2 h,(iQ rfl (aI kK (.s .z) rfl rfl rfl rfl rfl (Nat.le_of_ble_eq_true rfl) rfl (ab ⟨rfl,fun _ h => Sat.dropS 2 h,(oS ⟨rfl,b5,b6,(.cons rfl (.cons rfl (.cons rfl (.cons rfl (.nil _))))),fun w2 hw2 => hw2.sel [0,1,2,3] (by decide)⟩)⟩)))⟩)))⟩)))⟩)
 obtain ⟨rfl,b5,b6,hsub,hheap⟩ := hq
 refine ag (ae (Tri.sub hsub (Tri.heap hheap (aa (aj cq rfl rfl (ak bn N3 rfl rfl rfl (aj cq rfl rfl (ak bn N2 rfl rfl rfl (bz rfl rfl rfl (ai rfl rfl ?_))))))))))
 refine' aD [_,_,_,_,_] [(2,_),(3,_),(5,_),(6,_)] (dj := 16) (dr := 21) rfl rfl (fun g1 => ?_) ⟨_,rfl,rfl,rfl,(.cons rfl (.cons rfl (.cons rfl (.cons rfl (.nil _)))))⟩ rfl ?_
 rotate_left
 · skip
   exact aj eP rfl rfl (ak bn N3 rfl rfl rfl (aj eP rfl rfl (ak bn N2 rfl rfl rfl (bz rfl rfl rfl (ab (Piece.mk rfl rfl (.cons rfl (.cons rfl (.cons rfl (.cons rfl (.nil _))))) (fun _ h => h)))))))
 refine ai rfl rfl ?_
 refine' aD [_,_,_,_,_,_,_] [(2,_),(3,_),(5,_),(6,_)] (dj := 23) (dr := 30) rfl rfl (fun g2 => ?_) ⟨_,rfl,rfl,rfl,(.cons rfl (.cons rfl (.cons rfl (.cons rfl (.nil _)))))⟩ rfl ?_
 rotate_left
 · skip
   exact aj gl rfl rfl (ak jQ N3 rfl rfl rfl (aU Tryz.underlying22 rfl rfl (aj gl rfl rfl (ak jQ N2 rfl rfl rfl (aU Tryz.underlying22 rfl rfl (az rfl rfl rfl (ab (Piece.mk rfl rfl (.cons rfl (.cons rfl (.cons rfl (.cons rfl (.nil _))))) (fun _ h => h)))))))))
 refine ai rfl rfl ?_
 refine' aD [_,_,_,_,_,_,_] [(2,_),(3,_),(5,_),(6,_)] (dj := 32) (dr := 39) rfl rfl (fun g3 => ?_) ⟨_,rfl,rfl,rfl,(.cons rfl (.cons rfl (.cons rfl (.cons rfl (.nil _)))))⟩ rfl ?_
 rotate_left
 · skip
   exact aj fQ rfl rfl (ak jb N3 rfl rfl rfl (aU Tryz.underlying23 rfl rfl (aj fQ rfl rfl (ak jb N2 rfl rfl rfl (aU Tryz.underlying23 rfl rfl (az rfl rfl rfl (ab (Piece.mk rfl rfl (.cons rfl (.cons rfl (.cons rfl (.cons rfl (.nil _))))) (fun _ h => h)))))))))
 refine ai rfl rfl ?_
 refine' aD [_,_,_,_,_] [(2,_),(3,_),(5,_),(6,_)] (dj := 41) (dr := 46) rfl rfl (fun g4 => ?_) ⟨_,rfl,rfl,rfl,(.cons rfl (.cons rfl (.cons rfl (.cons rfl (.nil _)))))⟩ rfl ?_
 rotate_left
 · skip
   exact aj jo rfl rfl (ak fg N3 rfl rfl rfl (aj jo rfl rfl (ak fg N2 rfl rfl rfl (m9 rfl Tryz.underlying4 rfl rfl (ab (Piece.mk rfl rfl (.cons rfl (.cons rfl (.cons rfl (.cons rfl (.nil _))))) (fun _ h => h)))))))
 refine ai rfl rfl ?_
 refine' aD [_,_,_,_,_,_,_] [(2,_),(3,_),(5,_),(6,_)] (dj := 48) (dr := 55) rfl rfl (fun g5 => ?_) ⟨_,rfl,rfl,rfl,(.cons rfl (.cons rfl (.cons rfl (.cons rfl (.nil _)))))⟩ rfl ?_
 rotate_left
 · skip
   exact aj eE rfl rfl (ak gF N3 rfl rfl rfl (aU Tryz.underlying24 rfl rfl (aj eE rfl rfl (ak gF N2 rfl rfl rfl (aU Tryz.underlying24 rfl rfl (az rfl rfl rfl (ab (Piece.mk rfl rfl (.cons rfl (.cons rfl (.cons rfl (.cons rfl (.nil _))))) (fun _ h => h)))))))))
 refine ai rfl rfl ?_
 refine' aD [_,_,_,_,_,_,_] [(2,_),(3,_),(5,_),(6,_)] (dj := 57) (dr := 64) rfl rfl (fun g6 => ?_) ⟨_,rfl,rfl,rfl,(.cons rfl (.cons rfl (.cons rfl (.cons rfl (.nil _)))))⟩ rfl ?_
 rotate_left
 · skip
   exact aj dp rfl rfl (ak e7 N3 rfl rfl rfl (aU Tryz.underlying25 rfl rfl (aj dp rfl rfl (ak e7 N2 rfl rfl rfl (aU Tryz.underlying25 rfl rfl (az rfl rfl rfl (ab (Piece.mk rfl rfl (.cons rfl (.cons rfl (.cons rfl (.cons rfl (.nil _))))) (fun _ h => h)))))))))
 refine ai rfl rfl ?_
 refine' aD [_,_,_,_,_,_,_,_,_,_,_,_,_,_,_,_,_,_] [(5,_),(6,_)] (dj := 66) (dr := 84) rfl rfl (fun g7 => ?_) ⟨_,rfl,rfl,rfl,(.cons rfl (.cons rfl (.nil _)))⟩ rfl ?_
 rotate_left
 · skip
   refine aj eF rfl rfl (aj cC rfl rfl (ak bK N3 rfl rfl rfl (aj eF rfl rfl (aj cC rfl rfl (ak bK N2 rfl rfl rfl (az rfl rfl rfl (ai rfl rfl ?_)))))))
   refine' aD [_,_,_,_,_,_,_,_,_] [(66,_),(5,_),(6,_)] (dj := 74) (dr := 83) rfl rfl (fun g8 => ?_) ⟨_,rfl,rfl,rfl,(.cons rfl (.cons rfl (.cons rfl (.nil _))))⟩ rfl ?_
   rotate_left
   · skip
     refine aj eF rfl rfl (aj cC rfl rfl (ak bK N2 rfl rfl rfl (cw rfl rfl rfl (ai rfl rfl ?_))))
     refine' bd [_,_,_] [(74,_),(66,_),(5,_),(6,_)] (dj := 79) (dr := 82) rfl rfl (fun g9 => ?_) ⟨_,rfl,rfl,rfl,(.cons rfl (.cons rfl (.cons rfl (.cons rfl (.nil _)))))⟩ rfl ?_
     rotate_left
     · skip
       exact aj eF rfl rfl (aQ aY aX (.s (.s (.s .z))) rfl rfl (vs := bH s.wh y.W) rfl rfl (aA (first := []) (cap := []) rfl rfl rfl Tryz.call72 (fun w1 h1 => nZ s.wh y.W w1) (ab (Piece.mk rfl rfl (.cons rfl (.cons rfl (.cons rfl (.cons rfl (.nil _))))) (fun _ h => h)))))
     exact ab (Piece.mk rfl rfl (.cons rfl (.cons rfl (.cons rfl (.nil _)))) (fun _ h => h))
   exact ab (Piece.mk rfl rfl (.cons rfl (.cons rfl (.nil _))) (fun _ h => h))
 refine ai rfl rfl ?_
 refine' aD [_,_,_,_,_] [(5,_),(6,_)] (dj := 86) (dr := 91) rfl rfl (fun g10 => ?_) ⟨_,rfl,rfl,rfl,(.cons rfl (.cons rfl (.nil _)))⟩ rfl ?_
 rotate_left
 · skip
   exact aj kq rfl rfl (ak fg N0 rfl rfl rfl (aj kq rfl rfl (ak fg N1 rfl rfl rfl (m9 rfl Tryz.underlying4 rfl rfl (ab (Piece.mk rfl rfl (.cons rfl (.cons rfl (.nil _))) (fun _ h => h)))))))
 refine ai rfl rfl ?_
 refine' aD [_,_,_,_,_] [(5,_),(6,_)] (dj := 93) (dr := 98) rfl rfl (fun g11 => ?_) ⟨_,rfl,rfl,rfl,(.cons rfl (.cons rfl (.nil _)))⟩ rfl ?_
 rotate_left
 · skip
   exact aj jk rfl rfl (ak fg N0 rfl rfl rfl (aj jk rfl rfl (ak fg N1 rfl rfl rfl (m9 rfl Tryz.underlying4 rfl rfl (ab (Piece.mk rfl rfl (.cons rfl (.cons rfl (.nil _))) (fun _ h => h)))))))
 refine ai rfl rfl ?_
 refine' aD [_,_,_,_,_,_,_] [(5,_),(6,_)] (dj := 100) (dr := 107) rfl rfl (fun g12 => ?_) ⟨_,rfl,rfl,rfl,(.cons rfl (.cons rfl (.nil _)))⟩ rfl ?_
 rotate_left
 · skip
   exact aj cJ rfl rfl (ak dV N0 rfl rfl rfl (aU Tryz.underlying31 rfl rfl (aj cJ rfl rfl (ak dV N1 rfl rfl rfl (aU Tryz.underlying31 rfl rfl (az rfl rfl rfl (ab (Piece.mk rfl rfl (.cons rfl (.cons rfl (.nil _))) (fun _ h => h)))))))))
 refine ai rfl rfl ?_
 refine' aD [_,_,_,_,_,_,_] [(5,_),(6,_)] (dj := 109) (dr := 116) rfl rfl (fun g13 => ?_) ⟨_,rfl,rfl,rfl,(.cons rfl (.cons rfl (.nil _)))⟩ rfl ?_
 rotate_left
 · skip
   exact aj cB rfl rfl (ak dD N0 rfl rfl rfl (aU Tryz.underlying32 rfl rfl (aj cB rfl rfl (ak dD N1 rfl rfl rfl (aU Tryz.underlying32 rfl rfl (az rfl rfl rfl (ab (Piece.mk rfl rfl (.cons rfl (.cons rfl (.nil _))) (fun _ h => h)))))))))
 refine ai rfl rfl ?_
 refine' aD [_,_,_,_,_,_,_,_,_,_,_,_,_,_,_,_,_,_] [(5,_),(6,_)] (dj := 118) (dr := 136) rfl rfl (fun g14 => ?_) ⟨_,rfl,rfl,rfl,(.cons rfl (.cons rfl (.nil _)))⟩ rfl ?_
 rotate_left
 · skip
   refine aj gX rfl rfl (aj cC rfl rfl (ak bK N0 rfl rfl rfl (aj gX rfl rfl (aj cC rfl rfl (ak bK N1 rfl rfl rfl (az rfl rfl rfl (ai rfl rfl ?_)))))))
   refine' aD [_,_,_,_,_,_,_,_,_] [(118,_),(5,_),(6,_)] (dj := 126) (dr := 135) rfl rfl (fun g15 => ?_) ⟨_,rfl,rfl,rfl,(.cons rfl (.cons rfl (.cons rfl (.nil _))))⟩ rfl ?_
   rotate_left
   · skip
     refine aj gX rfl rfl (aj cC rfl rfl (ak bK N1 rfl rfl rfl (cw rfl rfl rfl (ai rfl rfl ?_))))
     refine' bd [_,_,_] [(126,_),(118,_),(5,_),(6,_)] (dj := 131) (dr := 134) rfl rfl (fun g16 => ?_) ⟨_,rfl,rfl,rfl,(.cons rfl (.cons rfl (.cons rfl (.cons rfl (.nil _)))))⟩ rfl ?_
     rotate_left
     · skip
       exact aj gX rfl rfl (aQ aY aX .z rfl rfl (vs := bH s.q.wh y.q.V) rfl rfl (aA (first := []) (cap := []) rfl rfl rfl Tryz.call72 (fun w1 h1 => nZ s.q.wh y.q.V w1) (ab (Piece.mk rfl rfl (.cons rfl (.cons rfl (.cons rfl (.cons rfl (.nil _))))) (fun _ h => h)))))
     exact ab (Piece.mk rfl rfl (.cons rfl (.cons rfl (.cons rfl (.nil _)))) (fun _ h => h))
   exact ab (Piece.mk rfl rfl (.cons rfl (.cons rfl (.nil _))) (fun _ h => h))
 refine ai rfl rfl ?_
 refine' aD [_,_,_,_,_,_,_] [(5,_),(6,_)] (dj := 138) (dr := 145) rfl rfl (fun g17 => ?_) ⟨_,rfl,rfl,rfl,(.cons rfl (.cons rfl (.nil _)))⟩ rfl ?_
 rotate_left
 · skip
   exact aj eb rfl rfl (ak f8 N0 rfl rfl rfl (aU Tryz.underlying33 rfl rfl (aj eb rfl rfl (ak f8 N1 rfl rfl rfl (aU Tryz.underlying33 rfl rfl (az rfl rfl rfl (ab (Piece.mk rfl rfl (.cons rfl (.cons rfl (.nil _))) (fun _ h => h)))))))))
 refine ai rfl rfl ?_
 refine' aD [_,_,_,_,_] [(5,_),(6,_)] (dj := 147) (dr := 152) rfl rfl (fun g18 => ?_) ⟨_,rfl,rfl,rfl,(.cons rfl (.cons rfl (.nil _)))⟩ rfl ?_
 rotate_left
 · skip
   exact aj jl rfl rfl (ak fg N0 rfl rfl rfl (aj jl rfl rfl (ak fg N1 rfl rfl rfl (m9 rfl Tryz.underlying4 rfl rfl (ab (Piece.mk rfl rfl (.cons rfl (.cons rfl (.nil _))) (fun _ h => h)))))))
 refine ai rfl rfl ?_
 refine' aD [_,_,_,_,_] [] (dj := 154) (dr := 159) rfl rfl (fun g19 => ?_) ⟨_,rfl,rfl,rfl,(.nil _)⟩ rfl ?_
 rotate_left
 · skip
   exact aj iD rfl rfl (ak bK N0 rfl rfl rfl (aj iD rfl rfl (ak bK N1 rfl rfl rfl (az rfl rfl rfl (ab (Piece.mk rfl rfl (.nil _) (fun _ h => h)))))))
 refine o_assignN rfl rfl (aq (aW rfl rfl ?_)); exact fun w1 hw1 => ⟨congrArg (fun b => Ending.returned (.bool b)) (by rfl),hw1.chg⟩
set_option maxHeartbeats 2000000 in
theorem mayStK (s : StmtX) (y : Lay) (bl : List Nat) (w : World) (hA : SAt bl w s y) (hbl : ∀ k ∈ bl,k < w.heap.size) (hok : SOk s) (hbd : SBd s) : Calls Tryz.prog 10 #[.agg (bL s y).toArray] w (cj w (.bool (lL s))) := by
 refine ax (args := [.agg (bL s y).toArray]) (lent := []) (H := []) Tryz.func10 rfl Tryz.ntmps10 rfl (Sat.start _ _ _ _) ((show Tri _ [(0,_)] _ _ _ from ?_))
 obtain ⟨xC,xN,xR,xS,xI,xF,xO,hC,hN,hR_,hS,hW,hQ⟩ := id hA
 have n1 : s.cols.length ≤ 70368744177664 := hbd.nc
 have n2 : s.on.length ≤ 70368744177664 := hbd.nn
 have n3 : s.rows.length ≤ 70368744177664 := hbd.nr
 have n4 : s.sets.length ≤ 70368744177664 := hbd.ns
 refine ae (aa (cl _ rfl rfl rfl (fun b1 => o_assignN rfl rfl (ae (aa (aj jm rfl rfl (ak bK N0 rfl rfl rfl (aS (sG _) rfl rfl (aM _ rfl gY rfl (fun b3 => dn (us := [.int .i64 0,.string .empty,.string .empty,.slice none 0 0,.slice none 0 0,.bool false,.slice none 0 0,.slice none 0 0,.int .i64 0,.int .i64 0,.int .i64 0,.string .empty,.string .empty,.string .empty,.int .i64 0,.slice none 0 0,.bool false,.bool false,.slice none 0 0,.slice none 0 0,.int .i64 0,.int .i64 0,.int .i64 0,.string .empty,.string .empty,.string .empty,.int .i64 0,.slice none 0 0,.slice none 0 0,.bool false,.int .i64 0]) (cs := bL { StmtX.zero with k := s.k } Lay.nil) rfl rfl rfl eO .z rfl rfl rfl (triL_nilN (ae (tri_slo [(3,_),(1,_)] rfl (aa (o_assignN rfl rfl (cr (ι := StmtX × Lay) (fun j => [(1,.pointer (some ⟨b1,0,none⟩)),(3,.pointer (some ⟨b3,0,none⟩)),(4,.bool (dv s))]) (fun j => [box b3 37 (bL j.1 j.2),box b1 37 (bL s y)]) (fun j => j.1 = dS s) ?_ (fun j hj => ?_)))))))))))))))))
 · skip
   refine ae (aa (aj jm rfl rfl (ak bK N1 rfl rfl rfl (triL_nilN (av (ae (aa (az rfl rfl rfl (o_assignN rfl rfl (ar rfl (fun q1 => ?_) (fun q1 => ?_)))))))))))
   · skip
     refine ae (tri_slo [(3,_),(1,_)] rfl (bo ([box b1 37 (bL s y)]) [(0,true),(1,true),(2,true),(3,true),(4,true),(5,false),(6,false),(7,false)] [6,7] (by kernel_rfl) (by kernel_rfl) (fun _ h => Sat.dropS 1 h) (ah rfl (aj cq rfl rfl (ab ⟨rfl,ah rfl (ak bn N0 rfl rfl rfl (ab ⟨rfl,ah rfl (aj gl rfl rfl (ab ⟨rfl,ah rfl (ak jQ N0 rfl rfl rfl (ab ⟨rfl,ah rfl (aj cq rfl rfl (ab ⟨rfl,(ba rfl (cE (bL { StmtX.zero with k := s.k,t := s.t } Lay.nil) sz9 .z rfl rfl rfl rfl rfl (Nat.le_of_ble_eq_true rfl) rfl rfl (ab ⟨rfl,fun _ _ h => Sat.dropS 1 h,(bE [6,7] [_,_] rfl rfl (aj gl rfl rfl (cE (bL { StmtX.zero with k := s.k,t := s.t,cols := s.cols } { Lay.nil with C := y.C }) sz22 .z rfl rfl rfl rfl rfl (Nat.le_of_ble_eq_true rfl) rfl rfl (ab ⟨rfl,(ag (ae (tri_slo [(3,_),(1,_)] rfl (aa (aj cq rfl rfl (ak bn N1 rfl rfl rfl (aA (first := []) (cap := []) rfl rfl rfl Tryz.call30 (fun w1 h1 => dE s.t w1 hbd.t) (ai rfl rfl ?_))))))))⟩))))⟩)))⟩))⟩))⟩))⟩))⟩)))))
     refine' aD [_,_,_,_] [(3,_),(1,_)] (dj := 31) (dr := 35) rfl rfl (fun g1 => ?_) ⟨_,rfl,rfl,rfl,(.cons rfl (.cons rfl (.nil _)))⟩ rfl ?_
     rotate_left
     · skip
       exact aj gl rfl rfl (ak jQ N1 rfl rfl rfl (aU Tryz.underlying22 rfl rfl (aA (first := []) (cap := []) rfl rfl rfl Tryz.call31 (fun w1 h1 => pc s.cols.length 16 w1) (ab (Piece.mk rfl rfl (.cons rfl (.cons rfl (.nil _))) (fun _ h => h))))))
     refine o_assignN rfl rfl (ae (aa (aj gl rfl rfl (ak jQ N1 rfl rfl rfl (aU Tryz.underlying22 rfl rfl (ai rfl rfl (triL_nilN (av (bC (ι := Nat) (F := fun i => [(1,.pointer (some ⟨b1,0,none⟩)),(3,.pointer (some ⟨b3,0,none⟩)),(4,.bool ((nameOk s.t && fL s.cols.length 16) && bY (fun i => gh (s.cols.getD i ColX.zero)) i)),(38,.slice y.C.A s.cols.length y.C.k),(39,.int .i64 (s.cols.length : Int)),(40,.int .i64 (i : Int))]) (HH := fun i => [box b3 37 (bL { StmtX.zero with k := s.k,t := s.t,cols := s.cols } { Lay.nil with C := y.C }),box b1 37 (bL s y)]) (Pu := fun i => i ≤ s.cols.length) (μ := fun i => s.cols.length - i) (0) (.cons rfl (.cons rfl (.cons (congrArg (fun b => some (Value.bool b)) (by simp [bY])) (.cons rfl (.cons rfl (.cons rfl (.nil _))))))) (fun _ h => h) (Nat.zero_le _) (fun i hi => ae (aa (cv rfl rfl rfl (triL_nilN (ae (ar rfl (fun qa => ?_) (fun qa => ?_))))))))))))))))
     · skip
       have hil : i < s.cols.length := by omega
       refine an (ag (ae (av (ae ?_))))
       have hci := nG hC i hil
       refine aa (aT Tryz.underlying22 sz71 rfl rfl rfl (hC.rd0 _ _ rfl rfl) (by omega) (by omega) hC.len (by decide) (bv agg71 sz71 rfl rfl (hC.rd0 _ _ rfl rfl) (vs := [Value.string (B (s.cols.getD i ColX.zero).n),Value.int .i64 (s.cols.getD i ColX.zero).k,Value.bool (s.cols.getD i ColX.zero).b]) hci rfl (by decide) (aM _ rfl zero71 rfl (fun b6 => aI sz71 N0 rfl rfl rfl rfl rfl (Nat.le_of_ble_eq_true rfl) rfl (triL_nilN (aa (ai rfl rfl (ai rfl rfl ?_))))))))
       refine' aD [_,_,_] [(6,_),(1,_),(3,_),(4,_),(38,_),(39,_),(40,_)] (dj := 45) (dr := 48) rfl rfl (fun g2 => ?_) ⟨_,rfl,rfl,rfl,(.cons rfl (.cons rfl (.cons rfl (.cons rfl (.cons rfl (.cons rfl (.cons rfl (.nil _))))))))⟩ rfl ?_
       rotate_left
       · skip
         exact aj fo71_0 rfl rfl (ak bn N0 rfl rfl rfl (aA (first := []) (cap := []) rfl rfl rfl Tryz.call30 (fun w1 h1 => dE (s.cols.getD i ColX.zero).n w1 (hbd.cols i hil)) (ab (Piece.mk rfl rfl (.cons rfl (.cons rfl (.cons rfl (.cons rfl (.cons rfl (.cons rfl (.cons rfl (.nil _)))))))) (fun _ h => h)))))
       refine ai rfl rfl ?_
       refine' aD [_,_,_] [(6,_),(1,_),(3,_),(4,_),(38,_),(39,_),(40,_)] (dj := 50) (dr := 53) rfl rfl (fun g3 => ?_) ⟨_,rfl,rfl,rfl,(.cons rfl (.cons rfl (.cons rfl (.cons rfl (.cons rfl (.cons rfl (.cons rfl (.nil _))))))))⟩ rfl ?_
       rotate_left
       · skip
         exact aj qE rfl rfl (ak bK N0 rfl rfl rfl (jp rfl rfl rfl (ab (Piece.mk rfl rfl (.cons rfl (.cons rfl (.cons rfl (.cons rfl (.cons rfl (.cons rfl (.cons rfl (.nil _)))))))) (fun _ h => h)))))
       refine ai rfl rfl ?_
       refine' aD [_,_,_] [(1,_),(3,_),(4,_),(38,_),(39,_),(40,_)] (dj := 55) (dr := 58) rfl rfl (fun g4 => ?_) ⟨_,rfl,rfl,rfl,(.cons rfl (.cons rfl (.cons rfl (.cons rfl (.cons rfl (.cons rfl (.nil _)))))))⟩ rfl ?_
       rotate_left
       · skip
         exact aj qE rfl rfl (ak bK N0 rfl rfl rfl (iW rfl rfl rfl (ab (Piece.mk rfl rfl (.cons rfl (.cons rfl (.cons rfl (.cons rfl (.cons rfl (.cons rfl (.nil _))))))) (fun _ h => h)))))
       exact aG rfl rfl (ab (ao (ag (aa (bD rfl rfl rfl (by omega) (ai rfl rfl (triL_nilN (⟨i + 1,(.cons rfl (.cons rfl (.cons (congrArg (fun b => some (Value.bool b)) (by exact col_step (nameOk s.t && fL s.cols.length 16) (fun i => s.cols.getD i ColX.zero) i)) (.cons rfl (.cons rfl (.cons rfl (.nil _))))))),(fun w2 hw2 => hw2.tail),by omega,by omega⟩))))))))
     · skip
       have hie : i = s.cols.length := by omega
       rw [hie]
       exact bg (au (au (aK (ao (ag (⟨({ StmtX.zero with k := s.k,t := s.t,cols := s.cols }, { Lay.nil with C := y.C }),(.cons rfl (.cons rfl (.cons (congrArg (fun b => some (Value.bool b)) (by rw [part_1 q1,Bool.and_assoc])) (.nil _)))),fun _ h => h,by rw [keep_1 q1]; simp only [q1]⟩))))))
   · skip
     refine ae (aa (az rfl rfl rfl (o_assignN rfl rfl (ar rfl (fun q2 => ?_) (fun q2 => ?_)))))
     · skip
       exact ae (tri_slo [(3,_),(1,_)] rfl (aa (aj cq rfl rfl (ak bn N1 rfl rfl rfl (aj cq rfl rfl (cE (bL { StmtX.zero with k := s.k,t := s.t } Lay.nil) sz9 .z rfl rfl rfl rfl rfl (Nat.le_of_ble_eq_true rfl) rfl rfl (triL_nilN (aa (aj cq rfl rfl (ak bn N1 rfl rfl rfl (aA (first := []) (cap := []) rfl rfl rfl Tryz.call30 (fun w1 h1 => dE s.t w1 hbd.t) (aG rfl rfl (ab (ao (ag (⟨({ StmtX.zero with k := s.k,t := s.t },Lay.nil),(.cons rfl (.cons rfl (.cons (congrArg (fun b => some (Value.bool b)) (by exact (part_2 q2).symm)) (.nil _)))),fun _ h => h,by rw [keep_2 q2]; simp only [q2]⟩))))))))))))))))
     · skip
       refine ae (tri_slo [(19,_),(4,_),(3,_),(1,_)] rfl (aa (az rfl rfl rfl (o_assignN rfl rfl (ar rfl (fun q3 => ?_) (fun q3 => ?_))))))
       · skip
         refine ae (tri_slo [(3,_),(1,_)] rfl (bo ([box b1 37 (bL s y)]) [(0,true),(1,true),(2,true),(3,true),(4,true),(5,true),(6,true),(7,true),(8,true),(9,false),(10,true),(11,false),(12,true),(13,false),(14,false),(15,false)] [14,15] (by kernel_rfl) (by kernel_rfl) (fun _ h => Sat.dropS 1 h) (ah rfl (aj cq rfl rfl (ab ⟨rfl,ah rfl (ak bn N0 rfl rfl rfl (ab ⟨rfl,ah rfl (aj eP rfl rfl (ab ⟨rfl,ah rfl (ak bn N0 rfl rfl rfl (ab ⟨rfl,ah rfl (aj fQ rfl rfl (ab ⟨rfl,ah rfl (ak jb N0 rfl rfl rfl (ab ⟨rfl,ah rfl (aj jo rfl rfl (ab ⟨rfl,ah rfl (ak fg N0 rfl rfl rfl (ab ⟨rfl,ah rfl (aj cq rfl rfl (ab ⟨rfl,(ba rfl (cE (bL { StmtX.zero with k := s.k,t := s.t } Lay.nil) sz9 .z rfl rfl rfl rfl rfl (Nat.le_of_ble_eq_true rfl) rfl rfl (ab ⟨rfl,fun _ _ h => Sat.dropS 1 h,(ah rfl (aj eP rfl rfl (ab ⟨rfl,(ba rfl (cE (bL { StmtX.zero with k := s.k,t := s.t,n := s.n } Lay.nil) sz9 .z rfl rfl rfl rfl rfl (Nat.le_of_ble_eq_true rfl) rfl rfl (ab ⟨rfl,fun _ _ h => Sat.dropS 1 h,(ah rfl (aj fQ rfl rfl (ab ⟨rfl,(ba rfl (cE (bL { StmtX.zero with k := s.k,t := s.t,n := s.n,on := s.on } { Lay.nil with N := y.N }) sz23 .z rfl rfl rfl rfl rfl (Nat.le_of_ble_eq_true rfl) rfl rfl (ab ⟨rfl,fun _ _ h => Sat.dropS 1 h,(bE [14,15] [_,_] rfl rfl (aj jo rfl rfl (cE (bL { StmtX.zero with k := s.k,t := s.t,n := s.n,on := s.on,un := s.un } { Lay.nil with N := y.N }) sz4 .z rfl rfl rfl rfl rfl (Nat.le_of_ble_eq_true rfl) rfl rfl ?_)))⟩)))⟩)))⟩)))⟩)))⟩)))⟩))⟩))⟩))⟩))⟩))⟩))⟩))⟩))⟩))))); refine ab ⟨rfl,(ag (ae (tri_slo [(3,_),(1,_)] rfl (aa (aj cq rfl rfl (ak bn N1 rfl rfl rfl (aA (first := []) (cap := []) rfl rfl rfl Tryz.call30 (fun w1 h1 => dE s.t w1 hbd.t) (ai rfl rfl ?_))))))))⟩
         refine' aD [_,_,_] [(3,_),(1,_)] (dj := 86) (dr := 89) rfl rfl (fun g5 => ?_) ⟨_,rfl,rfl,rfl,(.cons rfl (.cons rfl (.nil _)))⟩ rfl ?_
         rotate_left
         · skip
           exact aj eP rfl rfl (ak bn N1 rfl rfl rfl (aA (first := []) (cap := []) rfl rfl rfl Tryz.call30 (fun w1 h1 => dE s.n w1 hbd.n) (ab (Piece.mk rfl rfl (.cons rfl (.cons rfl (.nil _))) (fun _ h => h)))))
         refine ai rfl rfl ?_
         refine' aD [_,_,_,_] [(3,_),(1,_)] (dj := 91) (dr := 95) rfl rfl (fun g6 => ?_) ⟨_,rfl,rfl,rfl,(.cons rfl (.cons rfl (.nil _)))⟩ rfl ?_
         rotate_left
         · skip
           exact aj fQ rfl rfl (ak jb N1 rfl rfl rfl (aU Tryz.underlying23 rfl rfl (aA (first := []) (cap := []) rfl rfl rfl Tryz.call31 (fun w1 h1 => pc s.on.length 16 w1) (ab (Piece.mk rfl rfl (.cons rfl (.cons rfl (.nil _))) (fun _ h => h))))))
         refine o_assignN rfl rfl (ae (aa (aj fQ rfl rfl (ak jb N1 rfl rfl rfl (aU Tryz.underlying23 rfl rfl (ai rfl rfl (triL_nilN (av (bC (ι := Nat) (F := fun i => [(1,.pointer (some ⟨b1,0,none⟩)),(3,.pointer (some ⟨b3,0,none⟩)),(4,.bool (((nameOk s.t && nameOk s.n) && fL s.on.length 16) && bY (fun i => nameOk (s.on.getD i [])) i)),(98,.slice y.N.A s.on.length y.N.k),(99,.int .i64 (s.on.length : Int)),(100,.int .i64 (i : Int))]) (HH := fun i => [box b3 37 (bL { StmtX.zero with k := s.k,t := s.t,n := s.n,on := s.on,un := s.un } { Lay.nil with N := y.N }),box b1 37 (bL s y)]) (Pu := fun i => i ≤ s.on.length) (μ := fun i => s.on.length - i) (0) (.cons rfl (.cons rfl (.cons (congrArg (fun b => some (Value.bool b)) (by simp [bY])) (.cons rfl (.cons rfl (.cons rfl (.nil _))))))) (fun _ h => h) (Nat.zero_le _) (fun i hi => ae (aa (cv rfl rfl rfl (triL_nilN (ae (ar rfl (fun qb => ?_) (fun qb => ?_))))))))))))))))
         · skip
           have hil : i < s.on.length := by omega
           refine an (ag (ae (av (ae ?_))))
           have hci := kQ hN i hil
           refine aa (aT Tryz.underlying23 sz9 rfl rfl rfl (hN.rd0 _ _ rfl rfl) (by omega) (by omega) hN.len (by decide) (aH bn rfl rfl (hN.rd0 _ _ rfl rfl) (aL hci (j := 0) rfl) (o_assignN rfl rfl (aa (ai rfl rfl (ai rfl rfl ?_))))))
           refine' aD [_,_] [(1,_),(3,_),(4,_),(98,_),(99,_),(100,_)] (dj := 105) (dr := 107) rfl rfl (fun g7 => ?_) ⟨_,rfl,rfl,rfl,(.cons rfl (.cons rfl (.cons rfl (.cons rfl (.cons rfl (.cons rfl (.nil _)))))))⟩ rfl ?_
           rotate_left
           · skip
             exact ai rfl rfl (aA (first := []) (cap := []) rfl rfl rfl Tryz.call30 (fun w1 h1 => dE (s.on.getD i []) w1 (hbd.on i hil)) (ab (Piece.mk rfl rfl (.cons rfl (.cons rfl (.cons rfl (.cons rfl (.cons rfl (.cons rfl (.nil _))))))) (fun _ h => h))))
           exact aG rfl rfl (ab (ao (ag (aa (bD rfl rfl rfl (by omega) (ai rfl rfl (triL_nilN (⟨i + 1,(.cons rfl (.cons rfl (.cons (congrArg (fun b => some (Value.bool b)) (by exact mP ((nameOk s.t && nameOk s.n) && fL s.on.length 16) (fun i => s.on.getD i []) i)) (.cons rfl (.cons rfl (.cons rfl (.nil _))))))),(fun w2 hw2 => hw2),by omega,by omega⟩))))))))
         · skip
           have hie : i = s.on.length := by omega
           rw [hie]
           exact bg (au (au (aK (ao (ag (⟨({ StmtX.zero with k := s.k,t := s.t,n := s.n,on := s.on,un := s.un }, { Lay.nil with N := y.N }),(.cons rfl (.cons rfl (.cons (congrArg (fun b => some (Value.bool b)) (by rw [part_3 q3]; simp only [Bool.and_assoc])) (.nil _)))),fun _ h => h,by rw [keep_3 q3]; simp only [q3]⟩))))))
       · skip
         refine ae (aa (az rfl rfl rfl (o_assignN rfl rfl (ar rfl (fun q4 => ?_) (fun q4 => ?_)))))
         · skip
           exact ae (tri_slo [(3,_),(1,_)] rfl (aa (aj eP rfl rfl (ak bn N1 rfl rfl rfl (aj eP rfl rfl (cE (bL { StmtX.zero with k := s.k,n := s.n } Lay.nil) sz9 .z rfl rfl rfl rfl rfl (Nat.le_of_ble_eq_true rfl) rfl rfl (triL_nilN (aa (aj eP rfl rfl (ak bn N1 rfl rfl rfl (aA (first := []) (cap := []) rfl rfl rfl Tryz.call30 (fun w1 h1 => dE s.n w1 hbd.n) (aG rfl rfl (ab (ao (ag (⟨({ StmtX.zero with k := s.k,n := s.n },Lay.nil),(.cons rfl (.cons rfl (.cons (congrArg (fun b => some (Value.bool b)) (by exact (part_4 q4).symm)) (.nil _)))),fun _ h => h,by rw [keep_4 q4]; simp only [q4]⟩))))))))))))))))
         · skip
           refine ae (tri_slo [(19,_),(4,_),(3,_),(1,_)] rfl (aa (az rfl rfl rfl (o_assignN rfl rfl (ar rfl (fun q5 => ?_) (fun q5 => ?_))))))
           · skip
             refine ae (tri_slo [(3,_),(1,_)] rfl (bo ([box b1 37 (bL s y)]) [(0,true),(1,true),(2,true),(3,true),(4,true),(5,false),(6,false),(7,false)] [6,7] (by kernel_rfl) (by kernel_rfl) (fun _ h => Sat.dropS 1 h) (ah rfl (aj cq rfl rfl (ab ⟨rfl,ah rfl (ak bn N0 rfl rfl rfl (ab ⟨rfl,ah rfl (aj eE rfl rfl (ab ⟨rfl,ah rfl (ak gF N0 rfl rfl rfl (ab ⟨rfl,ah rfl (aj cq rfl rfl (ab ⟨rfl,(ba rfl (cE (bL { StmtX.zero with k := s.k,t := s.t } Lay.nil) sz9 .z rfl rfl rfl rfl rfl (Nat.le_of_ble_eq_true rfl) rfl rfl (ab ⟨rfl,fun _ _ h => Sat.dropS 1 h,(bE [6,7] [_,_] rfl rfl (aj eE rfl rfl (cE (bL { StmtX.zero with k := s.k,t := s.t,rows := s.rows } { Lay.nil with R := y.R }) sz24 .z rfl rfl rfl rfl rfl (Nat.le_of_ble_eq_true rfl) rfl rfl (ab ⟨rfl,(ag (ae (tri_slo [(3,_),(1,_)] rfl (aa (aj cq rfl rfl (ak bn N1 rfl rfl rfl (aA (first := []) (cap := []) rfl rfl rfl Tryz.call30 (fun w1 h1 => dE s.t w1 hbd.t) (ai rfl rfl ?_))))))))⟩))))⟩)))⟩))⟩))⟩))⟩))⟩)))))
             refine' aD [_,_,_,_] [(3,_),(1,_)] (dj := 129) (dr := 133) rfl rfl (fun g8 => ?_) ⟨_,rfl,rfl,rfl,(.cons rfl (.cons rfl (.nil _)))⟩ rfl ?_
             rotate_left
             · skip
               exact aj eE rfl rfl (ak gF N1 rfl rfl rfl (aU Tryz.underlying24 rfl rfl (fA rfl rfl rfl (ab (Piece.mk rfl rfl (.cons rfl (.cons rfl (.nil _))) (fun _ h => h))))))
             refine o_assignN rfl rfl (ae (aa (aj eE rfl rfl (ak gF N1 rfl rfl rfl (aU Tryz.underlying24 rfl rfl (ai rfl rfl (triL_nilN (av (bC (ι := Nat) (F := fun i => [(1,.pointer (some ⟨b1,0,none⟩)),(3,.pointer (some ⟨b3,0,none⟩)),(4,.bool ((nameOk s.t && decide (0 < (s.rows.length : Int))) && bY (fun i => fe (s.rows.getD i [])) i)),(136,.slice y.R.A s.rows.length y.R.k),(137,.int .i64 (s.rows.length : Int)),(138,.int .i64 (i : Int))]) (HH := fun i => [box b3 37 (bL { StmtX.zero with k := s.k,t := s.t,rows := s.rows } { Lay.nil with R := y.R }),box b1 37 (bL s y)]) (Pu := fun i => i ≤ s.rows.length) (μ := fun i => s.rows.length - i) (0) (.cons rfl (.cons rfl (.cons (congrArg (fun b => some (Value.bool b)) (by simp [bY])) (.cons rfl (.cons rfl (.cons rfl (.nil _))))))) (fun _ h => h) (Nat.zero_le _) (fun i hi => ae (aa (cv rfl rfl rfl (triL_nilN (ae (ar rfl (fun qc => ?_) (fun qc => ?_))))))))))))))))
             · skip
               have hil : i < s.rows.length := by omega
               have nr : (s.rows.getD i []).length ≤ 70368744177664 := (hbd.rows i hil).1
               refine an (ag (ae (av (ae ?_))))
               obtain ⟨yr,xr,hcr,hRr⟩ := jI hR_ i hil
               refine aa (aT Tryz.underlying24 sz28 rfl rfl rfl (hR_.rd0 _ _ rfl rfl) (by omega) (by omega) hR_.len (by decide) (aH dW rfl rfl (hR_.rd0 _ _ rfl rfl) (aL hcr (j := 0) rfl) (o_assignN rfl rfl (ae (aa (ai rfl rfl (ai rfl rfl ?_)))))))
               refine' aD [_,_,_] [(10,_),(1,_),(3,_),(4,_),(136,_),(137,_),(138,_)] (dj := 143) (dr := 146) rfl rfl (fun g9 => ?_) ⟨_,rfl,rfl,rfl,(.cons rfl (.cons rfl (.cons rfl (.cons rfl (.cons rfl (.cons rfl (.cons rfl (.nil _))))))))⟩ rfl ?_
               rotate_left
               · skip
                 exact ai rfl rfl (aU Tryz.underlying28 rfl rfl (aA (first := []) (cap := []) rfl rfl rfl Tryz.call31 (fun w1 h1 => pc (s.rows.getD i []).length 16 w1) (ab (Piece.mk rfl rfl (.cons rfl (.cons rfl (.cons rfl (.cons rfl (.cons rfl (.cons rfl (.cons rfl (.nil _)))))))) (fun _ h => h)))))
               refine o_assignN rfl rfl (ae (aa (ai rfl rfl (aU Tryz.underlying28 rfl rfl (ai rfl rfl (triL_nilN (av (bC (ι := Nat) (F := fun k => [(1,.pointer (some ⟨b1,0,none⟩)),(3,.pointer (some ⟨b3,0,none⟩)),(4,.bool ((((nameOk s.t && decide (0 < (s.rows.length : Int))) && bY (fun i => fe (s.rows.getD i [])) i) && fL (s.rows.getD i []).length 16) && bY (fun k => ((s.rows.getD i []).getD k Ex.zero).may) k)),(136,.slice y.R.A s.rows.length y.R.k),(137,.int .i64 (s.rows.length : Int)),(138,.int .i64 (i : Int)),(148,.slice yr.A (s.rows.getD i []).length yr.k),(149,.int .i64 ((s.rows.getD i []).length : Int)),(150,.int .i64 (k : Int))]) (HH := fun k => [box b3 37 (bL { StmtX.zero with k := s.k,t := s.t,rows := s.rows } { Lay.nil with R := y.R }),box b1 37 (bL s y)]) (Pu := fun k => k ≤ (s.rows.getD i []).length) (μ := fun k => (s.rows.getD i []).length - k) (0) (.cons rfl (.cons rfl (.cons (congrArg (fun b => some (Value.bool b)) (by simp [bY])) (.cons rfl (.cons rfl (.cons rfl (.cons rfl (.cons rfl (.cons rfl (.nil _)))))))))) (fun _ h => h) (Nat.zero_le _) (fun k hk => ae (aa (cv rfl rfl rfl (triL_nilN (ae (ar rfl (fun qd => ?_) (fun qd => ?_)))))))))))))))
               · skip
                 have hkl : k < (s.rows.getD i []).length := by omega
                 refine an (ag (ae (av (ae ?_))))
                 obtain ⟨ye,hci,hye⟩ := ex_at hRr k hkl
                 refine aa (aT Tryz.underlying28 aX rfl rfl rfl (hRr.rd0 _ _ rfl rfl) (by omega) (by omega) hRr.len (by decide) (bv aY aX rfl rfl (hRr.rd0 _ _ rfl rfl) (vs := bH ((s.rows.getD i []).getD k Ex.zero) ye) hci rfl (by decide) (aM _ rfl cR rfl (fun b12 => aI aX N0 rfl rfl rfl rfl rfl (Nat.le_of_ble_eq_true rfl) rfl (triL_nilN (aa (ai rfl rfl (ai rfl rfl ?_))))))))
                 refine' aD [_,_] [(1,_),(3,_),(4,_),(136,_),(137,_),(138,_),(148,_),(149,_),(150,_)] (dj := 155) (dr := 157) rfl rfl (fun g10 => ?_) ⟨_,rfl,rfl,rfl,(.cons rfl (.cons rfl (.cons rfl (.cons rfl (.cons rfl (.cons rfl (.cons rfl (.cons rfl (.cons rfl (.nil _))))))))))⟩ rfl ?_
                 rotate_left
                 · skip
                   exact aQ aY aX .z rfl rfl (vs := bH ((s.rows.getD i []).getD k Ex.zero) ye) rfl rfl (aA (first := []) (cap := []) rfl rfl rfl Tryz.call32 (fun w1 h1 => m6 ((s.rows.getD i []).getD k Ex.zero) bl ye w1 (hye.stab (fun k hk => h1.chg.block k (hbl k hk) (by simp))) (hok.rows i hil k hkl) ((hbd.rows i hil).2 k hkl)) (ab (Piece.mk rfl rfl (.cons rfl (.cons rfl (.cons rfl (.cons rfl (.cons rfl (.cons rfl (.cons rfl (.cons rfl (.cons rfl (.nil _)))))))))) (fun _ h => h))))
                 exact aG rfl rfl (ab (ao (ag (aa (bD rfl rfl rfl (by omega) (ai rfl rfl (triL_nilN (⟨k + 1,(.cons rfl (.cons rfl (.cons (congrArg (fun b => some (Value.bool b)) (by exact ex_step (((nameOk s.t && decide (0 < (s.rows.length : Int))) && bY (fun i => fe (s.rows.getD i [])) i) && fL (s.rows.getD i []).length 16) (fun k => (s.rows.getD i []).getD k Ex.zero) k)) (.cons rfl (.cons rfl (.cons rfl (.cons rfl (.cons rfl (.cons rfl (.nil _)))))))))),(fun w2 hw2 => hw2.tail),by omega,by omega⟩))))))))
               · skip
                 have hke : k = (s.rows.getD i []).length := by omega
                 rw [hke]
                 exact bg (au (au (aK (ao (ag (tri_slo [(1,_),(3,_),(4,_),(136,_),(137,_),(138,_)] rfl (aa (bD rfl rfl rfl (by omega) (ai rfl rfl (triL_nilN (⟨i + 1,(.cons rfl (.cons rfl (.cons (congrArg (fun b => some (Value.bool b)) (by exact row_step (nameOk s.t && decide (0 < (s.rows.length : Int))) (fun i => s.rows.getD i []) i)) (.cons rfl (.cons rfl (.cons rfl (.nil _))))))),(fun w2 hw2 => hw2),by omega,by omega⟩)))))))))))
             · skip
               have hie : i = s.rows.length := by omega
               rw [hie]
               exact bg (au (au (aK (ao (ag (⟨({ StmtX.zero with k := s.k,t := s.t,rows := s.rows }, { Lay.nil with R := y.R }),(.cons rfl (.cons rfl (.cons (congrArg (fun b => some (Value.bool b)) (by rw [part_5 q5,Bool.and_assoc]; congr 2; exact decide_eq_decide.2 (by omega))) (.nil _)))),fun _ h => h,by rw [keep_5 q5]; simp only [q5]⟩))))))
           · skip
             refine ae (aa (az rfl rfl rfl (o_assignN rfl rfl (ar rfl (fun q6 => ?_) (fun q6 => ?_)))))
             · skip
               refine ae (tri_slo [(3,_),(1,_)] rfl (bo ([box b1 37 (bL s y)]) [(0,true),(1,true),(2,true),(3,true),(4,true),(5,false),(6,false),(7,false)] [6,7] (by kernel_rfl) (by kernel_rfl) (fun _ h => Sat.dropS 1 h) (ah rfl (aj cq rfl rfl (ab ⟨rfl,ah rfl (ak bn N0 rfl rfl rfl (ab ⟨rfl,ah rfl (aj eF rfl rfl (ab ⟨rfl,ah rfl (aQ aY aX .z rfl rfl (vs := bH s.wh y.W) rfl rfl (ab ⟨rfl,ah rfl (aj cq rfl rfl (ab ⟨rfl,(ba rfl (cE (bL { StmtX.zero with k := s.k,t := s.t } Lay.nil) sz9 .z rfl rfl rfl rfl rfl (Nat.le_of_ble_eq_true rfl) rfl rfl (ab ⟨rfl,fun _ _ h => Sat.dropS 1 h,(bE [6,7] [_,_] rfl rfl (aj eF rfl rfl (cE (bL { StmtX.zero with k := s.k,t := s.t,wh := s.wh } { Lay.nil with W := y.W }) aX .z rfl rfl rfl rfl rfl (Nat.le_of_ble_eq_true rfl) rfl rfl (ab ⟨rfl,(ag (tri_slo [(3,_),(1,_)] rfl (aa (aj cq rfl rfl (ak bn N1 rfl rfl rfl (aA (first := []) (cap := []) rfl rfl rfl Tryz.call30 (fun w1 h1 => dE s.t w1 hbd.t) (ai rfl rfl ?_)))))))⟩))))⟩)))⟩))⟩))⟩))⟩))⟩)))))
               refine' aD [_,_,_] [(3,_),(1,_)] (dj := 172) (dr := 175) rfl rfl (fun g11 => ?_) ⟨_,rfl,rfl,rfl,(.cons rfl (.cons rfl (.nil _)))⟩ rfl ?_
               rotate_left
               · skip
                 exact aj eF rfl rfl (aQ aY aX (.s .z) rfl rfl (vs := bH s.wh y.W) rfl rfl (aA (first := []) (cap := []) rfl rfl rfl Tryz.call33 (fun w1 h1 => qC s.wh y.W bl w1 (hW.stab (fun k hk => h1.chg.block k (hbl k hk) (by simp))) hok.wh hbd.wh (fun k hk => Nat.lt_of_lt_of_le (hbl k hk) h1.chg.size)) (ab (Piece.mk rfl rfl (.cons rfl (.cons rfl (.nil _))) (fun _ h => h)))))
               exact aG rfl rfl (ab (ao (ag (⟨({ StmtX.zero with k := s.k,t := s.t,wh := s.wh }, { Lay.nil with W := y.W }),(.cons rfl (.cons rfl (.cons (congrArg (fun b => some (Value.bool b)) (by exact (p7 q6).symm)) (.nil _)))),fun _ h => h,by rw [keep_6 q6]; simp only [q6]⟩))))
             · skip
               refine ae (tri_slo [(19,_),(4,_),(3,_),(1,_)] rfl (aa (az rfl rfl rfl (o_assignN rfl rfl (ar rfl (fun q7 => ?_) (fun q7 => ?_))))))
               · skip
                 refine ae (tri_slo [(3,_),(1,_)] rfl (bo ([box b1 37 (bL s y)]) [(0,true),(1,true),(2,true),(3,true),(4,true),(5,true),(6,true),(7,false),(8,true),(9,false),(10,false),(11,false)] [10,11] (by kernel_rfl) (by kernel_rfl) (fun _ h => Sat.dropS 1 h) (ah rfl (aj cq rfl rfl (ab ⟨rfl,ah rfl (ak bn N0 rfl rfl rfl (ab ⟨rfl,ah rfl (aj dp rfl rfl (ab ⟨rfl,ah rfl (ak e7 N0 rfl rfl rfl (ab ⟨rfl,ah rfl (aj eF rfl rfl (ab ⟨rfl,ah rfl (aQ aY aX .z rfl rfl (vs := bH s.wh y.W) rfl rfl (ab ⟨rfl,ah rfl (aj cq rfl rfl (ab ⟨rfl,(ba rfl (cE (bL { StmtX.zero with k := s.k,t := s.t } Lay.nil) sz9 .z rfl rfl rfl rfl rfl (Nat.le_of_ble_eq_true rfl) rfl rfl (ab ⟨rfl,fun _ _ h => Sat.dropS 1 h,(ah rfl (aj dp rfl rfl (ab ⟨rfl,(ba rfl (cE (bL { StmtX.zero with k := s.k,t := s.t,sets := s.sets } { Lay.nil with S := y.S }) sz25 .z rfl rfl rfl rfl rfl (Nat.le_of_ble_eq_true rfl) rfl rfl (ab ⟨rfl,fun _ _ h => Sat.dropS 1 h,(bE [10,11] [_,_] rfl rfl (aj eF rfl rfl (cE (bL { StmtX.zero with k := s.k,t := s.t,sets := s.sets,wh := s.wh } { Lay.nil with S := y.S,W := y.W }) aX .z rfl rfl rfl rfl rfl (Nat.le_of_ble_eq_true rfl) rfl rfl (ab ⟨rfl,(ag (ae (tri_slo [(3,_),(1,_)] rfl (aa (aj cq rfl rfl (ak bn N1 rfl rfl rfl (aA (first := []) (cap := []) rfl rfl rfl Tryz.call30 (fun w1 h1 => dE s.t w1 hbd.t) (ai rfl rfl ?_))))))))⟩))))⟩)))⟩)))⟩)))⟩))⟩))⟩))⟩))⟩))⟩))⟩)))))
                 refine' aD [_,_,_,_] [(3,_),(1,_)] (dj := 191) (dr := 195) rfl rfl (fun g12 => ?_) ⟨_,rfl,rfl,rfl,(.cons rfl (.cons rfl (.nil _)))⟩ rfl ?_
                 rotate_left
                 · skip
                   exact aj dp rfl rfl (ak e7 N1 rfl rfl rfl (aU Tryz.underlying25 rfl rfl (aA (first := []) (cap := []) rfl rfl rfl Tryz.call31 (fun w1 h1 => pc s.sets.length 16 w1) (ab (Piece.mk rfl rfl (.cons rfl (.cons rfl (.nil _))) (fun _ h => h))))))
                 refine ai rfl rfl ?_
                 refine' aD [_,_,_] [(3,_),(1,_)] (dj := 197) (dr := 200) rfl rfl (fun g13 => ?_) ⟨_,rfl,rfl,rfl,(.cons rfl (.cons rfl (.nil _)))⟩ rfl ?_
                 rotate_left
                 · skip
                   exact aj eF rfl rfl (aQ aY aX (.s .z) rfl rfl (vs := bH s.wh y.W) rfl rfl (aA (first := []) (cap := []) rfl rfl rfl Tryz.call33 (fun w1 h1 => qC s.wh y.W bl w1 (hW.stab (fun k hk => h1.chg.block k (hbl k hk) (by simp))) hok.wh hbd.wh (fun k hk => Nat.lt_of_lt_of_le (hbl k hk) h1.chg.size)) (ab (Piece.mk rfl rfl (.cons rfl (.cons rfl (.nil _))) (fun _ h => h)))))
                 refine o_assignN rfl rfl (ae (aa (aj dp rfl rfl (ak e7 N1 rfl rfl rfl (aU Tryz.underlying25 rfl rfl (ai rfl rfl (triL_nilN (av (bC (ι := Nat) (F := fun i => [(1,.pointer (some ⟨b1,0,none⟩)),(3,.pointer (some ⟨b3,0,none⟩)),(4,.bool (((nameOk s.t && fL s.sets.length 16) && gB s.wh) && bY (fun i => gi (s.sets.getD i SetX.zero)) i)),(203,.slice y.S.A s.sets.length y.S.k),(204,.int .i64 (s.sets.length : Int)),(205,.int .i64 (i : Int))]) (HH := fun i => [box b3 37 (bL { StmtX.zero with k := s.k,t := s.t,sets := s.sets,wh := s.wh } { Lay.nil with S := y.S,W := y.W }),box b1 37 (bL s y)]) (Pu := fun i => i ≤ s.sets.length) (μ := fun i => s.sets.length - i) (0) (.cons rfl (.cons rfl (.cons (congrArg (fun b => some (Value.bool b)) (by simp [bY])) (.cons rfl (.cons rfl (.cons rfl (.nil _))))))) (fun _ h => h) (Nat.zero_le _) (fun i hi => ae (aa (cv rfl rfl rfl (triL_nilN (ae (ar rfl (fun qe => ?_) (fun qe => ?_))))))))))))))))
                 · skip
                   have hil : i < s.sets.length := by omega
                   refine an (ag (ae (av (ae ?_))))
                   obtain ⟨ye,hci,hye⟩ := nF hS i hil
                   refine aa (aT Tryz.underlying25 mb rfl rfl rfl (hS.rd0 _ _ rfl rfl) (by omega) (by omega) hS.len (by decide) (bv agg82 mb rfl rfl (hS.rd0 _ _ rfl rfl) (vs := Value.string (B (s.sets.getD i SetX.zero).n) :: bH (s.sets.getD i SetX.zero).e ye) hci rfl (by decide) (aM _ rfl zero82 rfl (fun b14 => aI mb N0 rfl rfl rfl rfl rfl (Nat.le_of_ble_eq_true rfl) rfl (triL_nilN (aa (ai rfl rfl (ai rfl rfl ?_))))))))
                   refine' aD [_,_,_] [(14,_),(1,_),(3,_),(4,_),(203,_),(204,_),(205,_)] (dj := 210) (dr := 213) rfl rfl (fun g14 => ?_) ⟨_,rfl,rfl,rfl,(.cons rfl (.cons rfl (.cons rfl (.cons rfl (.cons rfl (.cons rfl (.cons rfl (.nil _))))))))⟩ rfl ?_
                   rotate_left
                   · skip
                     exact aj kv rfl rfl (ak bn N0 rfl rfl rfl (aA (first := []) (cap := []) rfl rfl rfl Tryz.call30 (fun w1 h1 => dE (s.sets.getD i SetX.zero).n w1 (hbd.sets i hil).2) (ab (Piece.mk rfl rfl (.cons rfl (.cons rfl (.cons rfl (.cons rfl (.cons rfl (.cons rfl (.cons rfl (.nil _)))))))) (fun _ h => h)))))
                   refine ai rfl rfl ?_
                   refine' aD [_,_,_] [(1,_),(3,_),(4,_),(203,_),(204,_),(205,_)] (dj := 215) (dr := 218) rfl rfl (fun g15 => ?_) ⟨_,rfl,rfl,rfl,(.cons rfl (.cons rfl (.cons rfl (.cons rfl (.cons rfl (.cons rfl (.nil _)))))))⟩ rfl ?_
                   rotate_left
                   · skip
                     exact aj n7 rfl rfl (aQ aY aX .z rfl rfl (vs := bH (s.sets.getD i SetX.zero).e ye) rfl rfl (aA (first := []) (cap := []) rfl rfl rfl Tryz.call32 (fun w1 h1 => m6 (s.sets.getD i SetX.zero).e bl ye w1 (hye.stab (fun k hk => h1.chg.block k (hbl k hk) (by simp))) (hok.sets i hil) (hbd.sets i hil).1) (ab (Piece.mk rfl rfl (.cons rfl (.cons rfl (.cons rfl (.cons rfl (.cons rfl (.cons rfl (.nil _))))))) (fun _ h => h)))))
                   exact aG rfl rfl (ab (ao (ag (aa (bD rfl rfl rfl (by omega) (ai rfl rfl (triL_nilN (⟨i + 1,(.cons rfl (.cons rfl (.cons (congrArg (fun b => some (Value.bool b)) (by exact set_step ((nameOk s.t && fL s.sets.length 16) && gB s.wh) (fun i => s.sets.getD i SetX.zero) i)) (.cons rfl (.cons rfl (.cons rfl (.nil _))))))),(fun w2 hw2 => hw2.tail),by omega,by omega⟩))))))))
                 · skip
                   have hie : i = s.sets.length := by omega
                   rw [hie]
                   exact bg (au (au (aK (ao (ag (⟨({ StmtX.zero with k := s.k,t := s.t,sets := s.sets,wh := s.wh }, { Lay.nil with S := y.S,W := y.W }),(.cons rfl (.cons rfl (.cons (congrArg (fun b => some (Value.bool b)) (by rw [p8 q7]; simp only [Bool.and_assoc])) (.nil _)))),fun _ h => h,by rw [keep_7 q7]; simp only [q7]⟩))))))
               · skip
                 refine ae (aa (az rfl rfl rfl (o_assignN rfl rfl (ar rfl (fun q8 => ?_) (fun q8 => ?_)))))
                 · skip
                   exact ae (tri_slo [(3,_),(1,_)] rfl (aa (aj fP rfl rfl (aQ mc kK (.s .z) rfl rfl (vs := dL s.q y.q) rfl rfl (aj fP rfl rfl (cE (bL { StmtX.zero with k := s.k,q := s.q } { Lay.nil with q := y.q }) kK .z rfl rfl rfl rfl rfl (Nat.le_of_ble_eq_true rfl) rfl rfl (triL_nilN (aa (aj fP rfl rfl (aQ mc kK (.s .z) rfl rfl (vs := dL s.q y.q) rfl rfl (aA (first := []) (cap := []) rfl rfl rfl Tryz.call34 (fun w1 h1 => mayQK s.q y.q bl w1 (hA.q.stab (fun k hk => h1.chg.block k (hbl k hk) (by simp))) (fun k hk => Nat.lt_of_lt_of_le (hbl k hk) h1.chg.size) hok.q hbd.q) (aG rfl rfl (ab (ao (ag (⟨({ StmtX.zero with k := s.k,q := s.q }, { Lay.nil with q := y.q }),(.cons rfl (.cons rfl (.cons (congrArg (fun b => some (Value.bool b)) (by exact (p9 q8).symm)) (.nil _)))),fun _ h => h,by rw [keep_8 q8]; simp only [q8]⟩))))))))))))))))
                 · skip
                   refine cr (ι := Nat) (fun i => [(1,.pointer (some ⟨b1,0,none⟩)),(3,.pointer (some ⟨b3,0,none⟩)),(4,.bool false),(229,.bool (decide (9 ≤ s.k ∧ s.k ≤ 11)))]) (fun i => [box b3 37 (bL { StmtX.zero with k := s.k } Lay.nil),box b1 37 (bL s y)]) (fun i => True) ?_ (fun i hj => ?_)
                   · skip
                     refine ae (tri_slo [(19,_),(4,_),(3,_),(1,_)] rfl (aa (az rfl rfl rfl (o_assignN rfl rfl (ar rfl (fun q9 => ?_) (fun q9 => ?_))))))
                     · skip
                       exact an (ag (⟨0,(.cons rfl (.cons rfl (.cons rfl (.cons (congrArg (fun b => some (Value.bool b)) (by rw [decide_eq_true q9,decide_eq_true (by omega)])) (.nil _))))),fun _ h => h,trivial⟩))
                     · skip
                       refine ae (aa (az rfl rfl rfl (o_assignN rfl rfl (ar rfl (fun q10 => ?_) (fun q10 => ?_)))))
                       · skip
                         exact an (ag (⟨0,(.cons rfl (.cons rfl (.cons rfl (.cons (congrArg (fun b => some (Value.bool b)) (by rw [decide_eq_true q10,decide_eq_true (by omega)])) (.nil _))))),fun _ h => h,trivial⟩))
                       · skip
                         exact aa (az rfl rfl rfl (o_assignN rfl rfl (⟨0,(.cons rfl (.cons rfl (.cons rfl (.cons (congrArg (fun b => some (Value.bool b)) (by exact decide_eq_decide.2 (by omega))) (.nil _))))),fun _ h => h,trivial⟩)))
                   refine aF rfl (fun qz => ?_) (fun qz => ?_)
                   · skip
                     exact aa (aG rfl rfl (ab (ao (ag (⟨({ StmtX.zero with k := s.k },Lay.nil),(.cons rfl (.cons rfl (.cons (congrArg (fun b => some (Value.bool b)) (by rw [nI (by omega)]; exact qz.symm)) (.nil _)))),fun _ h => h,by rw [qg (by omega)]⟩)))))
                   · skip
                     exact an (ao (ag (⟨({ StmtX.zero with k := s.k },Lay.nil),(.cons rfl (.cons rfl (.cons (congrArg (fun b => some (Value.bool b)) (by rw [nI (by omega)]; exact qz.symm)) (.nil _)))),fun _ h => h,by rw [qg (by omega)]⟩)))
 refine ae (aa (ai rfl rfl (ai rfl rfl ?_)))
 refine' aD [_,_,_] [] (dj := 234) (dr := 237) rfl rfl (fun g16 => ?_) ⟨_,rfl,rfl,rfl,(.nil _)⟩ rfl ?_
 rotate_left
 · skip
   exact aQ fq eO (.s .z) rfl rfl (vs := bL s y) rfl rfl (aQ fq eO .z rfl rfl (vs := bL j.1 j.2) rfl rfl (aA (first := []) (cap := []) rfl rfl rfl Tryz.call35 (fun w1 h1 => restK s j.1 y j.2 w1) (ab (Piece.mk rfl rfl (.nil _) (fun _ h => h)))))
 refine o_assignN rfl rfl (aq (aW rfl rfl ?_)); exact fun w1 hw1 => ⟨congrArg (fun b => Ending.returned (.bool b)) (by rw [hj]; exact rest_may s),hw1.chg⟩
end Go.Proofs.YtjbpkcbefmpfgaaGreatDoor
namespace Go.Proofs.YtjbpkcbefmpfgaaGreatDoor
open Go.WK Go.RowKit 
theorem zero64 : (Tryz.prog.info? 64).map (·.zero) = some (some (.pointer none)) := by kernel_rfl
theorem sz64 : szB Tryz.prog 64 = some 1 := by kernel_rfl
set_option maxHeartbeats 2000000 in
theorem printStK (s : StmtX) (y : Lay) (bl : List Nat) (w : World) (hV : PV w [] bl) (hA : SAt bl w s y) (hok : SOk s) (hbd : SBd s) (hT : lL s = true → (dK s).1.length ≤ 70368744177664) : Calls Tryz.prog 8 #[.agg (bL s y).toArray] w (cj w (.tuple #[.string (B (prS s).1),.int .i64 (prS s).2])) := by
 refine ax (args := [.agg (bL s y).toArray]) (lent := []) (H := []) Tryz.func8 rfl Tryz.ntmps8 rfl (Sat.start _ _ _ _) ((show Tri _ [(0,_)] _ _ _ from ?_))
 have hbl : ∀ k ∈ bl,k < w.heap.size := fun k hk => (hV.pe.lt k hk).1
 obtain ⟨xC,xN,xR,xS,xI,xF,xO,hC,hN,hR_,hS,hW,hQ⟩ := id hA
 have n1 : s.cols.length ≤ 70368744177664 := hbd.nc
 have n2 : s.on.length ≤ 70368744177664 := hbd.nn
 have n3 : s.rows.length ≤ 70368744177664 := hbd.nr
 unfold prS
 refine ae (aa (cl _ rfl rfl rfl (fun b1 => aG rfl rfl (o_assignN rfl rfl (ae (ae (aa (aQ fq eO .z rfl rfl (vs := bL s y) rfl rfl (aA (first := []) (cap := []) rfl rfl rfl Tryz.call10 (fun w1 h1 => mayStK s y bl w1 (hA.stab (fun k hk => h1.chg.block k (hbl k hk) (by simp))) (fun k hk => Nat.lt_of_lt_of_le (hbl k hk) h1.chg.size) hok hbd) (cZ rfl rfl (triL_nilN (aF rfl (fun q0 => ?_) (fun q0 => ?_)))))))))))))
 · skip
   have q0 := cn q0
   refine ae (aw [] (.nil _) (aa (aG rfl rfl (o_assignN rfl rfl (aq (am (hU rfl rfl rfl ?_))))))); exact fun w1 hw1 => ⟨by rw [if_neg (fH q0)],hw1.chg⟩
 · skip
   have q0 := bS q0
   refine an (ag (ae (tri_slo [(1,_)] rfl (aa (aS rv rfl rfl (cl _ rfl rfl rfl (fun b9 => aM _ rfl zero64 rfl (fun b4 => aI sz64 N0 rfl rfl rfl rfl rfl (Nat.le_of_ble_eq_true rfl) rfl ?_))))))))
   skip
   refine triL_nilN (cr (ι := Option Addr × Nat) (fun j => [(4,.pointer (some ⟨b4,0,none⟩))]) (fun j => [box b4 64 [.pointer (some ⟨b9,0,none⟩)]] ++ prD b9 j.1 j.2 (dK s).1 0 (max 0 ((dK s).2 : Int))) (fun j => True) ?_ (fun j hj => ?_))
   · skip
     refine ae ?_
     have hb := hT q0
     have hmy : dv s = true := by unfold lL at q0; simp only [Bool.and_eq_true] at q0; exact q0.1
     refine Tri.heap (H' := [box b4 64 [.pointer (some ⟨b9,0,none⟩)],box b1 37 (bL s y)] ++ prD b9 none 0 [] 0 0) (fun w hw => (Sat.nilRow hw 5).sel [1,3,2,0] (by decide)) (aa (aj jm rfl rfl (ak bK N1 rfl rfl rfl (triL_nilN (av (ae (aa (az rfl rfl rfl (o_assignN rfl rfl (ar rfl (fun q1 => ?_) (fun q1 => ?_)))))))))))
     · skip
       rw [st_1 q1] at hb
       simp only [cat,raw,List.length_append,List.length_cons,List.length_nil] at hb
       rw [part_1 q1] at hmy
       simp only [Bool.and_eq_true] at hmy
       have hmc : ∀ i,i < s.cols.length → gh (s.cols.getD i ColX.zero) = true := fun i hi => gU hmy.2.2 hi
       exact ae (tri_slo [(4,_),(1,_)] rfl (aa (ak bP N0 rfl rfl rfl (aj cq rfl rfl (ak bn N1 rfl rfl rfl (eG (parts := [_,_,_]) (dP [[99,114,101,97,116,101,32,116,97,98,108,101,32],s.t,[32,40]]) Tryz.underlying23 zs9 rfl rfl rfl rfl (by decide) (by decide) (fun b20 => aC (pb := b9) [_,_,_] rfl rfl rfl rfl Tryz.call20 (fun w1 h1 h2 h3 => cL [[99,114,101,97,116,101,32,116,97,98,108,101,32],s.t,[32,40]] _ _ b9 _ _ _ _ _ w1 h2 (RdS.row .z w1 h1) (fun a ha => by cases ha; exact aZ h1 (fun x hx => (List.mem_cons_of_mem _ (List.mem_cons_of_mem _ hx))) rfl) (by (try simp only [List.length_append,List.length_cons,List.length_nil,List.flatten_cons,List.flatten_nil] at hb ⊢); omega) (by simp)) (fun A21 c21 => triL_nilN (ae (tri_slo [(4,_),(1,_)] rfl (aa (ak bP N1 rfl rfl rfl (aj gl rfl rfl (ak jQ N2 rfl rfl rfl (aU Tryz.underlying22 rfl rfl (bR rfl rfl rfl (aC (pb := b9) [_,_,_] rfl rfl rfl rfl Tryz.call21 (fun w1 h1 h2 h3 => f9 (fun i => lM (s.cols.getD i ColX.zero)) s.cols.length 22 [] [.pointer (some ⟨b1,0,none⟩),.pointer (some ⟨b4,0,none⟩)] b9 _ _ _ _ w1 h2 (by omega) (by omega) (by (try simp only [List.nil_append,List.length_append,List.length_cons,List.length_nil,List.flatten_cons,List.flatten_nil] at hb ⊢); omega) Tryz.call22 (fun i A1 c1 l1 m1 w2 hi hs hP1 hm1 hb1 => by have hce := cenv (F := [_,_,_]) hV.pe h1 (.s .z) (.s (.s .z)); have hPV : PV w1 _ _ := ⟨hce.1,(hV.lv.chgL h1.chg (fun k hk => (hV.pe.g k hk).2))⟩; have hA2 := (hA.stab (hV.pe.st (PSub.of h1 h3))).mono (bl' := b4 :: b1 :: bl) (fun k hk => List.mem_cons_of_mem _ (List.mem_cons_of_mem _ hk)); exact print1K s y (b4 :: b1 :: bl) b4 b1 i b9 A1 c1 l1 m1 w2 hP1 hm1 (hPV.sub hs) (hce.2.stab (hce.1.st hs)) (hA2.stab (hce.1.st hs)) hi (hmc i hi) hb1)) (fun A27 c27 => triL_nilN (tri_slo [(4,_)] rfl (aa (ak bP N1 rfl rfl rfl (bA Tryz.underlying23 zs9 rfl rfl rfl rfl rfl (by decide) (by decide) (fun b29 => aC (pb := b9) [_,_,_,_] rfl rfl rfl rfl Tryz.call20 (fun w1 h1 h2 h3 => cL [[41]] _ _ b9 _ _ _ _ _ w1 h2 (RdS.row .z w1 h1) (fun a ha => by cases ha; exact aZ h1 (fun x hx => (List.mem_cons_of_mem _ (List.mem_cons_of_mem _ (List.mem_cons_of_mem _ hx)))) rfl) (by (try simp only [List.nil_append,List.length_append,List.length_cons,List.length_nil,List.flatten_cons,List.flatten_nil] at hb ⊢); omega) (by simp)) (fun A30 c30 => ab (ao (ag (⟨(A30,c30),(.cons rfl (.nil _)),(fun w2 hw2 => dO (by rw [st_1 q1]; simp [cat,raw]) rfl (by rw [st_1 q1]; simp only [cat,raw]; omega) (hw2.sel [2,4,5] (by decide))),trivial⟩)))))))))))))))))))))))))))
     · skip
       refine ae (tri_slo [(11,_),(4,_),(1,_)] rfl (aa (az rfl rfl rfl (o_assignN rfl rfl (ar rfl (fun q2 => ?_) (fun q2 => ?_))))))
       · skip
         rw [st_2 q2] at hb
         simp only [raw,List.length_append,List.length_cons,List.length_nil] at hb
         exact aa (ak bP N0 rfl rfl rfl (aj cq rfl rfl (ak bn N1 rfl rfl rfl (eG (parts := [_,_]) (dP [[100,114,111,112,32,116,97,98,108,101,32],s.t]) Tryz.underlying23 zs9 rfl rfl rfl rfl (by decide) (by decide) (fun b36 => aC (pb := b9) [_,_,_] rfl rfl rfl rfl Tryz.call20 (fun w1 h1 h2 h3 => cL [[100,114,111,112,32,116,97,98,108,101,32],s.t] _ _ b9 _ _ _ _ _ w1 h2 (RdS.row .z w1 h1) (fun a ha => by cases ha; exact aZ h1 (fun x hx => (List.mem_cons_of_mem _ (List.mem_cons_of_mem _ hx))) rfl) (by (try simp only [List.length_append,List.length_cons,List.length_nil,List.flatten_cons,List.flatten_nil] at hb ⊢); omega) (by simp)) (fun A37 c37 => ab (ao (ag (⟨(A37,c37),(.cons rfl (.nil _)),(fun w2 hw2 => dO (by rw [st_2 q2]; simp [raw]) rfl (by rw [st_2 q2]; simp only [raw]; omega) (hw2.sel [1,3,4] (by decide))),trivial⟩)))))))))
       · skip
         refine ae (aa (az rfl rfl rfl (o_assignN rfl rfl (ar rfl (fun q3 => ?_) (fun q3 => ?_)))))
         · skip
           rw [st_3 q3] at hb
           simp only [cat,raw,List.length_append,List.length_cons,List.length_nil] at hb
           refine ae (tri_slo [(4,_),(1,_)] rfl (aa (ak bP N0 rfl rfl rfl (bA Tryz.underlying23 zs9 rfl rfl rfl rfl rfl (by decide) (by decide) (fun b41 => aC (pb := b9) [_,_,_] rfl rfl rfl rfl Tryz.call20 (fun w1 h1 h2 h3 => cL [[99,114,101,97,116,101,32]] _ _ b9 _ _ _ _ _ w1 h2 (RdS.row .z w1 h1) (fun a ha => by cases ha; exact aZ h1 (fun x hx => (List.mem_cons_of_mem _ (List.mem_cons_of_mem _ hx))) rfl) (by (try simp only [List.length_append,List.length_cons,List.length_nil,List.flatten_cons,List.flatten_nil] at hb ⊢); omega) (by simp)) (fun A42 c42 => triL_nilN (ae (ae (aa (aj jo rfl rfl (ak fg N2 rfl rfl rfl (triL_nilN (aF rfl (fun q4 => ?_) (fun q4 => ?_))))))))))))))
           · skip
             rw [q4] at hb
             simp only [if_true,List.length_cons,List.length_nil] at hb
             exact tri_slo [(4,_),(1,_)] rfl (aa (ak bP N1 rfl rfl rfl (bA Tryz.underlying23 zs9 rfl rfl rfl rfl rfl (by decide) (by decide) (fun b46 => aC (pb := b9) [_,_,_,_] rfl rfl rfl rfl Tryz.call20 (fun w1 h1 h2 h3 => cL [[117,110,105,113,117,101,32]] _ _ b9 _ _ _ _ _ w1 h2 (RdS.row .z w1 h1) (fun a ha => by cases ha; exact aZ h1 (fun x hx => (List.mem_cons_of_mem _ (List.mem_cons_of_mem _ (List.mem_cons_of_mem _ hx)))) rfl) (by (try simp only [List.nil_append,List.length_append,List.length_cons,List.length_nil,List.flatten_cons,List.flatten_nil] at hb ⊢); omega) (by simp)) (fun A47 c47 => triL_nilN (ae (aa (ak bP N2 rfl rfl rfl (aj eP rfl rfl (ak bn N3 rfl rfl rfl (aj cq rfl rfl (ak bn N3 rfl rfl rfl (eG (parts := [_,_,_,_,_]) (dP [[105,110,100,101,120,32],s.n,[32,111,110,32],s.t,[32,40]]) Tryz.underlying23 zs9 rfl rfl rfl rfl (by decide) (by decide) (fun b53 => aC (pb := b9) [_,_,_,_,_] rfl rfl rfl rfl Tryz.call20 (fun w1 h1 h2 h3 => cL [[105,110,100,101,120,32],s.n,[32,111,110,32],s.t,[32,40]] _ _ b9 _ _ _ _ _ w1 h2 (RdS.row .z w1 h1) (fun a ha => by cases ha; exact aZ h1 (fun x hx => (List.mem_cons_of_mem _ (List.mem_cons_of_mem _ (List.mem_cons_of_mem _ (List.mem_cons_of_mem _ hx))))) rfl) (by (try simp only [List.nil_append,List.length_append,List.length_cons,List.length_nil,List.flatten_cons,List.flatten_nil] at hb ⊢); omega) (by simp)) (fun A54 c54 => triL_nilN (ae (tri_slo [(4,_),(1,_)] rfl (aa (ak bP N3 rfl rfl rfl (aj fQ rfl rfl (ak jb N4 rfl rfl rfl (aU Tryz.underlying23 rfl rfl (bR rfl rfl rfl (aC (pb := b9) [_,_,_,_,_] rfl rfl rfl rfl Tryz.call21 (fun w1 h1 h2 h3 => f9 (fun i => raw (s.on.getD i [])) s.on.length 23 [] [.pointer (some ⟨b4,0,none⟩),.pointer (some ⟨b1,0,none⟩)] b9 _ _ _ _ w1 h2 (by omega) (by omega) (by (try simp only [List.nil_append,raw,List.length_append,List.length_cons,List.length_nil,List.flatten_cons,List.flatten_nil] at hb ⊢); omega) Tryz.call23 (fun i A1 c1 l1 m1 w2 hi hs hP1 hm1 hb1 => by have hce := cenv (F := [_,_,_,_,_]) hV.pe h1 (.s (.s (.s .z))) (.s (.s (.s (.s .z)))); have hPV : PV w1 _ _ := ⟨hce.1,(hV.lv.chgL h1.chg (fun k hk => (hV.pe.g k hk).2))⟩; have hA2 := (hA.stab (hV.pe.st (PSub.of h1 h3))).mono (bl' := b4 :: b1 :: bl) (fun k hk => List.mem_cons_of_mem _ (List.mem_cons_of_mem _ hk)); exact rA s y (b4 :: b1 :: bl) b4 b1 i b9 A1 c1 l1 m1 w2 hP1 hm1 (hPV.sub hs) (hce.2.stab (hce.1.st hs)) (hA2.stab (hce.1.st hs)) hi hb1)) (fun A60 c60 => triL_nilN (tri_slo [(4,_)] rfl (aa (ak bP N3 rfl rfl rfl (bA Tryz.underlying23 zs9 rfl rfl rfl rfl rfl (by decide) (by decide) (fun b62 => aC (pb := b9) [_,_,_,_,_,_] rfl rfl rfl rfl Tryz.call20 (fun w1 h1 h2 h3 => cL [[41]] _ _ b9 _ _ _ _ _ w1 h2 (RdS.row .z w1 h1) (fun a ha => by cases ha; exact aZ h1 (fun x hx => (List.mem_cons_of_mem _ (List.mem_cons_of_mem _ (List.mem_cons_of_mem _ (List.mem_cons_of_mem _ (List.mem_cons_of_mem _ hx)))))) rfl) (by (try simp only [List.nil_append,raw,List.length_append,List.length_cons,List.length_nil,List.flatten_cons,List.flatten_nil] at hb ⊢); omega) (by simp)) (fun A63 c63 => ab (ao (ag (⟨(A63,c63),(.cons rfl (.nil _)),(fun w2 hw2 => dO (by rw [st_3 q3,q4]; simp [cat,raw]) rfl (by rw [st_3 q3]; simp only [cat,raw]; omega) (hw2.sel [4,6,7] (by decide))),trivial⟩))))))))))))))))))))))))))))))))))
           · skip
             rw [q4] at hb
             simp only [Bool.false_eq_true,if_false,List.length_nil] at hb
             exact an (ag (ae (tri_slo [(4,_),(1,_)] rfl (aa (ak bP N1 rfl rfl rfl (aj eP rfl rfl (ak bn N2 rfl rfl rfl (aj cq rfl rfl (ak bn N2 rfl rfl rfl (eG (parts := [_,_,_,_,_]) (dP [[105,110,100,101,120,32],s.n,[32,111,110,32],s.t,[32,40]]) Tryz.underlying23 zs9 rfl rfl rfl rfl (by decide) (by decide) (fun b53 => aC (pb := b9) [_,_,_,_] rfl rfl rfl rfl Tryz.call20 (fun w1 h1 h2 h3 => cL [[105,110,100,101,120,32],s.n,[32,111,110,32],s.t,[32,40]] _ _ b9 _ _ _ _ _ w1 h2 (RdS.row .z w1 h1) (fun a ha => by cases ha; exact aZ h1 (fun x hx => (List.mem_cons_of_mem _ (List.mem_cons_of_mem _ (List.mem_cons_of_mem _ hx)))) rfl) (by (try simp only [List.nil_append,List.length_append,List.length_cons,List.length_nil,List.flatten_cons,List.flatten_nil] at hb ⊢); omega) (by simp)) (fun A54 c54 => triL_nilN (ae (tri_slo [(4,_),(1,_)] rfl (aa (ak bP N2 rfl rfl rfl (aj fQ rfl rfl (ak jb N3 rfl rfl rfl (aU Tryz.underlying23 rfl rfl (bR rfl rfl rfl (aC (pb := b9) [_,_,_,_] rfl rfl rfl rfl Tryz.call21 (fun w1 h1 h2 h3 => f9 (fun i => raw (s.on.getD i [])) s.on.length 23 [] [.pointer (some ⟨b4,0,none⟩),.pointer (some ⟨b1,0,none⟩)] b9 _ _ _ _ w1 h2 (by omega) (by omega) (by (try simp only [List.nil_append,raw,List.length_append,List.length_cons,List.length_nil,List.flatten_cons,List.flatten_nil] at hb ⊢); omega) Tryz.call23 (fun i A1 c1 l1 m1 w2 hi hs hP1 hm1 hb1 => by have hce := cenv (F := [_,_,_,_]) hV.pe h1 (.s (.s .z)) (.s (.s (.s .z))); have hPV : PV w1 _ _ := ⟨hce.1,(hV.lv.chgL h1.chg (fun k hk => (hV.pe.g k hk).2))⟩; have hA2 := (hA.stab (hV.pe.st (PSub.of h1 h3))).mono (bl' := b4 :: b1 :: bl) (fun k hk => List.mem_cons_of_mem _ (List.mem_cons_of_mem _ hk)); exact rA s y (b4 :: b1 :: bl) b4 b1 i b9 A1 c1 l1 m1 w2 hP1 hm1 (hPV.sub hs) (hce.2.stab (hce.1.st hs)) (hA2.stab (hce.1.st hs)) hi hb1)) (fun A60 c60 => triL_nilN (tri_slo [(4,_)] rfl (aa (ak bP N2 rfl rfl rfl (bA Tryz.underlying23 zs9 rfl rfl rfl rfl rfl (by decide) (by decide) (fun b62 => aC (pb := b9) [_,_,_,_,_] rfl rfl rfl rfl Tryz.call20 (fun w1 h1 h2 h3 => cL [[41]] _ _ b9 _ _ _ _ _ w1 h2 (RdS.row .z w1 h1) (fun a ha => by cases ha; exact aZ h1 (fun x hx => (List.mem_cons_of_mem _ (List.mem_cons_of_mem _ (List.mem_cons_of_mem _ (List.mem_cons_of_mem _ hx))))) rfl) (by (try simp only [List.nil_append,raw,List.length_append,List.length_cons,List.length_nil,List.flatten_cons,List.flatten_nil] at hb ⊢); omega) (by simp)) (fun A63 c63 => ab (ao (ag (⟨(A63,c63),(.cons rfl (.nil _)),(fun w2 hw2 => dO (by rw [st_3 q3,q4]; simp [cat,raw]) rfl (by rw [st_3 q3]; simp only [cat,raw]; omega) (hw2.sel [3,5,6] (by decide))),trivial⟩)))))))))))))))))))))))))))))))
         · skip
           refine ae (tri_slo [(11,_),(4,_),(1,_)] rfl (aa (az rfl rfl rfl (o_assignN rfl rfl (ar rfl (fun q5 => ?_) (fun q5 => ?_))))))
           · skip
             rw [st_4 q5] at hb
             simp only [raw,List.length_append,List.length_cons,List.length_nil] at hb
             exact aa (ak bP N0 rfl rfl rfl (aj eP rfl rfl (ak bn N1 rfl rfl rfl (eG (parts := [_,_]) (dP [[100,114,111,112,32,105,110,100,101,120,32],s.n]) Tryz.underlying23 zs9 rfl rfl rfl rfl (by decide) (by decide) (fun b69 => aC (pb := b9) [_,_,_] rfl rfl rfl rfl Tryz.call20 (fun w1 h1 h2 h3 => cL [[100,114,111,112,32,105,110,100,101,120,32],s.n] _ _ b9 _ _ _ _ _ w1 h2 (RdS.row .z w1 h1) (fun a ha => by cases ha; exact aZ h1 (fun x hx => (List.mem_cons_of_mem _ (List.mem_cons_of_mem _ hx))) rfl) (by (try simp only [List.length_append,List.length_cons,List.length_nil,List.flatten_cons,List.flatten_nil] at hb ⊢); omega) (by simp)) (fun A70 c70 => ab (ao (ag (⟨(A70,c70),(.cons rfl (.nil _)),(fun w2 hw2 => dO (by rw [st_4 q5]; simp [raw]) rfl (by rw [st_4 q5]; simp only [raw]; omega) (hw2.sel [1,3,4] (by decide))),trivial⟩)))))))))
           · skip
             refine ae (aa (az rfl rfl rfl (o_assignN rfl rfl (ar rfl (fun q6 => ?_) (fun q6 => ?_)))))
             · skip
               rw [st_5 q6] at hb
               simp only [cat,raw,List.length_append,List.length_cons,List.length_nil] at hb
               rw [part_5 q6] at hmy
               simp only [Bool.and_eq_true] at hmy
               have hmr : ∀ i,i < s.rows.length → fe (s.rows.getD i []) = true := fun i hi => gU hmy.2.2 hi
               exact ae (tri_slo [(4,_),(1,_)] rfl (aa (ak bP N0 rfl rfl rfl (aj cq rfl rfl (ak bn N1 rfl rfl rfl (eG (parts := [_,_,_]) (dP [[105,110,115,101,114,116,32,105,110,116,111,32],s.t,[32,118,97,108,117,101,115,32]]) Tryz.underlying23 zs9 rfl rfl rfl rfl (by decide) (by decide) (fun b76 => aC (pb := b9) [_,_,_] rfl rfl rfl rfl Tryz.call20 (fun w1 h1 h2 h3 => cL [[105,110,115,101,114,116,32,105,110,116,111,32],s.t,[32,118,97,108,117,101,115,32]] _ _ b9 _ _ _ _ _ w1 h2 (RdS.row .z w1 h1) (fun a ha => by cases ha; exact aZ h1 (fun x hx => (List.mem_cons_of_mem _ (List.mem_cons_of_mem _ hx))) rfl) (by (try simp only [List.length_append,List.length_cons,List.length_nil,List.flatten_cons,List.flatten_nil] at hb ⊢); omega) (by simp)) (fun A77 c77 => triL_nilN (tri_slo [(4,_),(1,_)] rfl (aa (ak bP N1 rfl rfl rfl (aj eE rfl rfl (ak gF N2 rfl rfl rfl (aU Tryz.underlying24 rfl rfl (bR rfl rfl rfl (aC (pb := b9) [_,_,_] rfl rfl rfl rfl Tryz.call21 (fun w1 h1 h2 h3 => f9 (fun i => rowT (s.rows.getD i [])) s.rows.length 24 [] [.pointer (some ⟨b4,0,none⟩),.pointer (some ⟨b1,0,none⟩)] b9 _ _ _ _ w1 h2 (by omega) (by omega) (by (try simp only [List.nil_append,List.length_append,List.length_cons,List.length_nil,List.flatten_cons,List.flatten_nil] at hb ⊢); omega) Tryz.call24 (fun i A1 c1 l1 m1 w2 hi hs hP1 hm1 hb1 => by have hce := cenv (F := [_,_,_]) hV.pe h1 (.s .z) (.s (.s .z)); have hPV : PV w1 _ _ := ⟨hce.1,(hV.lv.chgL h1.chg (fun k hk => (hV.pe.g k hk).2))⟩; have hA2 := (hA.stab (hV.pe.st (PSub.of h1 h3))).mono (bl' := b4 :: b1 :: bl) (fun k hk => List.mem_cons_of_mem _ (List.mem_cons_of_mem _ hk)); exact print3K s y (b4 :: b1 :: bl) b4 b1 i b9 A1 c1 l1 m1 w2 hP1 hm1 (hPV.sub hs) (hce.2.stab (hce.1.st hs)) (hA2.stab (hce.1.st hs)) hi (hmr i hi) (hok.rows i hi) hb1)) (fun A83 c83 => ab (ao (ag (⟨(A83,c83),(.cons rfl (.nil _)),(fun w2 hw2 => dO (by rw [st_5 q6]; simp [cat,raw]) rfl (by rw [st_5 q6]; simp only [cat,raw]; omega) (hw2.sel [1,3,4] (by decide))),trivial⟩))))))))))))))))))))
             · skip
               have hk6 : 6 ≤ s.k := by
                rcases Int.lt_or_le s.k 6 with h | h
                · exfalso
                  rw [nI (by omega)] at hmy
                  have := of_decide_eq_true hmy
                  omega
                · exact h
               exact tri_slo [(4,_),(1,_)] rfl (aa (ak bP N0 rfl rfl rfl (aQ fq eO (.s .z) rfl rfl (vs := bL s y) rfl rfl (aC (pb := b9) [_,_] rfl rfl rfl rfl Tryz.call27 (fun w1 h1 h2 h3 => othersK s y bl b9 _ _ _ _ w1 h2 (by omega) (hV.sub (PSub.of h1 h3)) (hA.stab (hV.pe.st (PSub.of h1 h3))) (by omega) hmy hok (by (try simp only [List.length_nil]); omega)) (fun A14 c14 => ab (ao (ag (⟨(A14,c14),(.cons rfl (.nil _)),(fun w2 hw2 => dO (by simp) rfl (by rfl) (hw2.sel [0,2,3] (by decide))),trivial⟩))))))))
   refine ae ?_
   have hb := hT q0
   refine aa (ak bP N0 rfl rfl rfl (fT (J := Unit) (val := fun _ => .tuple #[.string (B (hG _ _).1),.int .i64 (hG _ _).2]) (D' := fun _ => prD b9 _ _ _ _ _) (Pu := fun _ => True) [_] (prD b9 _ _ _ _ _) [] (prL b9 _) rfl rfl rfl rfl Tryz.call28 (prD1 _ _ _ _ _ _) (prD2 _ _ _ _ _ _) (fun w1 h1 h2 => toldK b9 _ _ _ _ _ w1 h2 (by (try simp only [List.nil_append]); omega)) (fun _ _ => bh rfl rfl rfl (bh rfl rfl rfl (aG rfl rfl (o_assignN rfl rfl (aq (hU rfl rfl rfl ?_)))))))); exact fun w1 hw1 => ⟨by rw [show max (0 : Int) ((dK s).2 : Int) = ((dK s).2 : Int) by omega,if_pos q0],hw1.chg⟩
end Go.Proofs.YtjbpkcbefmpfgaaGreatDoor
namespace Go.Proofs.YtjbpkcbefmpfgaaGreatDoor
open Go.WK Go.RowKit 
theorem sH {a b : Ex} {i : Nat} (h : ∀ j,j < i → a.as.getD j Ex.zero = b.as.getD j Ex.zero) (h1 : a.as.getD i Ex.zero = b.as.getD i Ex.zero) : ∀ j,j < i + 1 → a.as.getD j Ex.zero = b.as.getD j Ex.zero := fun j hj => by
 rcases Nat.lt_or_ge j i with h2 | h2
 · exact h j h2
 · have e : j = i := by omega
   rw [e]; exact h1
def SX (a : Ex) : Prop := ∀ (b : Ex) (cs ds : List Value) (w : World),ExC w a cs → ExC w b ds → a.size ≤ 70368744177664 → Calls Tryz.prog 17 #[.agg cs.toArray,.agg ds.toArray] w (cj w (.bool (decide (a = b))))
set_option maxHeartbeats 1000000 in
theorem sameStep (a b : Ex) (y z : SL) (xa xb : List Value) (w : World) (h1 : Rd w y.A xa) (h2 : ExsC w a.as xa) (h3 : Rd w z.A xb) (h4 : ExsC w b.as xb) (hz : a.size ≤ 70368744177664) (ih : ∀ i,i < a.as.length → SX (a.as.getD i Ex.zero)) : Calls Tryz.prog 17 #[.agg (bH a y).toArray,.agg (bH b z).toArray] w (cj w (.bool (decide (a = b)))) := by
 refine ax (args := [.agg (bH a y).toArray,.agg (bH b z).toArray]) (lent := []) (H := []) Tryz.func17 rfl Tryz.ntmps17 rfl (Sat.start _ _ _ _) ((show Tri _ [(0,_),(1,_)] _ _ _ from ?_))
 have hRa : ∀ cx H,cx.w0 = w → cx.lent = [] → RdS cx H y.A _ := fun cx H q1 q2 => RdS.lent (by rw [q1]; exact h1) (fun b hb => by rw [q2]; simp)
 have hRb : ∀ cx H,cx.w0 = w → cx.lent = [] → RdS cx H z.A _ := fun cx H q1 q2 => RdS.lent (by rw [q1]; exact h3) (fun b hb => by rw [q2]; simp)
 have hxa := h2.len
 have hxb := h4.len
 have hal := as_len (e := a)
 refine ae (aa (cl _ rfl rfl rfl (fun b2 => cl _ rfl rfl rfl (fun b3 => o_assignN rfl rfl (ae (ae (aa (aj cC rfl rfl (ak bK N1 rfl rfl rfl (aj cC rfl rfl (ak bK N0 rfl rfl rfl (cw rfl rfl rfl (ai rfl rfl ?_)))))))))))))
 refine' bd [_,_,_,_,_] [(3,_),(2,_)] (dj := 11) (dr := 16) rfl rfl (fun g1 => ?_) ⟨_,rfl,rfl,rfl,(.cons rfl (.cons rfl (.nil _)))⟩ rfl ?_
 rotate_left
 · skip
   exact aj jn rfl rfl (aQ ja kJ (.s .z) rfl rfl (vs := Val.cs a.v) rfl rfl (aj jn rfl rfl (aQ ja kJ .z rfl rfl (vs := Val.cs b.v) rfl rfl (o_neqV nV rfl rfl rfl (ab (Piece.mk rfl rfl (.cons rfl (.cons rfl (.nil _))) (fun _ h => h)))))))
 refine ai rfl rfl ?_
 refine' bd [_,_,_,_,_] [(3,_),(2,_)] (dj := 18) (dr := 23) rfl rfl (fun g2 => ?_) ⟨_,rfl,rfl,rfl,(.cons rfl (.cons rfl (.nil _)))⟩ rfl ?_
 rotate_left
 · skip
   exact aj gk rfl rfl (ak bn N1 rfl rfl rfl (aj gk rfl rfl (ak bn N0 rfl rfl rfl (db rfl rfl rfl (ab (Piece.mk rfl rfl (.cons rfl (.cons rfl (.nil _))) (fun _ h => h)))))))
 refine ai rfl rfl ?_
 refine' bd [_,_,_,_,_] [(3,_),(2,_)] (dj := 25) (dr := 30) rfl rfl (fun g3 => ?_) ⟨_,rfl,rfl,rfl,(.cons rfl (.cons rfl (.nil _)))⟩ rfl ?_
 rotate_left
 · skip
   exact aj gj rfl rfl (ak bn N1 rfl rfl rfl (aj gj rfl rfl (ak bn N0 rfl rfl rfl (db rfl rfl rfl (ab (Piece.mk rfl rfl (.cons rfl (.cons rfl (.nil _))) (fun _ h => h)))))))
 refine ai rfl rfl ?_
 refine' bd [_,_,_,_,_] [(3,_),(2,_)] (dj := 32) (dr := 37) rfl rfl (fun g4 => ?_) ⟨_,rfl,rfl,rfl,(.cons rfl (.cons rfl (.nil _)))⟩ rfl ?_
 rotate_left
 · skip
   exact aj nY rfl rfl (ak bK N1 rfl rfl rfl (aj nY rfl rfl (ak bK N0 rfl rfl rfl (cw rfl rfl rfl (ab (Piece.mk rfl rfl (.cons rfl (.cons rfl (.nil _))) (fun _ h => h)))))))
 refine ai rfl rfl ?_
 refine' bd [_,_,_,_,_,_,_] [(3,_),(2,_)] (dj := 39) (dr := 46) rfl rfl (fun g5 => ?_) ⟨_,rfl,rfl,rfl,(.cons rfl (.cons rfl (.nil _)))⟩ rfl ?_
 rotate_left
 · skip
   exact aj dN rfl rfl (ak dW N1 rfl rfl rfl (aU Tryz.underlying28 rfl rfl (aj dN rfl rfl (ak dW N0 rfl rfl rfl (aU Tryz.underlying28 rfl rfl (cw rfl rfl rfl (ab (Piece.mk rfl rfl (.cons rfl (.cons rfl (.nil _))) (fun _ h => h)))))))))
 refine triL_nilN (aF rfl (fun q0 => ?_) (fun q0 => ?_))
 · skip
   refine ae (aa (o_assignN rfl rfl (aq (am (aW rfl rfl ?_))))); exact fun w1 hw1 => ⟨congrArg (fun b => Ending.returned (.bool b)) (by exact (decide_eq_false (ex_ne q0)).symm),hw1.chg⟩
 · skip
   have hlen := ex_len q0
   refine an (ag (ae (ae (aa (o_assignN rfl rfl (av (bC (ι := Nat) (F := fun i => [(2,.pointer (some ⟨b2,0,none⟩)),(3,.pointer (some ⟨b3,0,none⟩)),(5,.int .i64 (i : Int))]) (HH := fun i => [box b3 30 (bH b z),box b2 30 (bH a y)]) (Pu := fun i => i ≤ a.as.length ∧ ∀ j,j < i → a.as.getD j Ex.zero = b.as.getD j Ex.zero) (μ := fun i => a.as.length - i) (0) (.cons rfl (.cons rfl (.cons rfl (.nil _)))) (fun _ h => h) (⟨Nat.zero_le _,fun j hj => absurd hj (by omega)⟩) (fun i hi => ae (ae (aa (ai rfl rfl (aj dN rfl rfl (ak dW N1 rfl rfl rfl (aU Tryz.underlying28 rfl rfl (cv rfl rfl rfl (triL_nilN (ar rfl (fun q1 => ?_) (fun q1 => ?_))))))))))))))))))
   · skip
     have hil : i < a.as.length := by omega
     refine an (ag (ae (av (ae (tri_slo [(2,_),(3,_),(5,_)] rfl ?_)))))
     obtain ⟨ca,hca,hka⟩ := ExsC.at i h2 hil
     obtain ⟨cb,hcb,hkb⟩ := ExsC.at i h4 (by omega)
     refine bo (_) [(0,true),(1,true),(2,true),(3,true),(4,true),(5,true),(6,true),(7,true),(8,true),(9,true),(10,false),(11,false)] [10,11] (by kernel_rfl) (by kernel_rfl) (fun _ h => h) (ah rfl (aj dN rfl rfl (ab ⟨rfl,ah rfl (ak dW N1 rfl rfl rfl (ab ⟨rfl,ah rfl (ai rfl rfl (ab ⟨rfl,ah rfl (aT Tryz.underlying28 aX rfl rfl rfl (hRa _ _ rfl rfl) (by (try simp only [List.length_append,List.length_cons,List.length_nil]); omega) (by (try simp only [List.length_append,List.length_cons,List.length_nil]); omega) (by omega) (by decide) (ab ⟨rfl,ah rfl (bv aY aX rfl rfl (hRa _ _ rfl rfl) (vs := ca) hca hka.len (by decide) (ab ⟨rfl,ah rfl (aj dN rfl rfl (ab ⟨rfl,ah rfl (ak dW N0 rfl rfl rfl (ab ⟨rfl,ah rfl (ai rfl rfl (ab ⟨rfl,ah rfl (aT Tryz.underlying28 aX rfl rfl rfl (hRb _ _ rfl rfl) (by (try simp only [List.length_append,List.length_cons,List.length_nil]); omega) (by (try simp only [List.length_append,List.length_cons,List.length_nil]); omega) (by omega) (by decide) (ab ⟨rfl,ah rfl (bv aY aX rfl rfl (hRb _ _ rfl rfl) (vs := cb) hcb hkb.len (by decide) (ab ⟨rfl,(bE [10,11] [_,_] rfl rfl (aA (first := []) (cap := []) rfl rfl rfl Tryz.call17 (fun w1 h1 => ih i hil _ ca cb w1 (ExC.chg h1.chg _ _ hka) (ExC.chg h1.chg _ _ hkb) (by have := rj (e := a) hil; omega)) (cZ rfl rfl (ab ⟨rfl,(ag (aF rfl (fun q2 => ?_) (fun q2 => ?_)))⟩))))⟩))⟩))⟩))⟩))⟩))⟩))⟩))⟩))⟩))⟩)))
     · skip
       have q2 := cn q2
       refine ae (aw [] (.nil _) (aa (o_assignN rfl rfl (aq (ap (am (am (ap (am (aW rfl rfl ?_)))))))))); exact fun w1 hw1 => ⟨congrArg (fun b => Ending.returned (.bool b)) (by exact (decide_eq_false (fun e => (of_decide_eq_false q2) (by rw [e]))).symm),hw1.chg⟩
     · skip
       have q2 := bS q2
       exact an (ao (ag (tri_slo [(2,_),(3,_),(5,_)] rfl (aa (ai rfl rfl (bD rfl rfl rfl (by (try simp only [List.length_append,List.length_cons,List.length_nil]); omega) (o_assignN rfl rfl (⟨i + 1,(.cons rfl (.cons rfl (.cons rfl (.nil _)))),fun _ h => h,⟨by omega,fun j hj => sH hi.2 (of_decide_eq_true q2) j hj⟩,by omega⟩))))))))
   · skip
     refine bg (au (au (aK (ag (ae (aw [] (.nil _) (aa (o_assignN rfl rfl (aq (aW rfl rfl ?_)))))))))); exact fun w1 hw1 => ⟨congrArg (fun b => Ending.returned (.bool b)) (by exact (decide_eq_true (ex_eq q0 (fun j hj => hi.2 j (by omega)))).symm),hw1.chg⟩
end Go.Proofs.YtjbpkcbefmpfgaaGreatDoor
namespace Go.Proofs.YtjbpkcbefmpfgaaGreatDoor
open Go.WK Go.RowKit 
theorem sameAll : ∀ (n : Nat) (a : Ex),a.size < n → SX a := by
 intro n
 induction n with
 | zero => intro a h; omega
 | succ n ih =>
  intro a hs b cs ds w ha hb hz
  obtain ⟨y,xa,rfl,_,h1,h2⟩ := exC_R ha
  obtain ⟨z,xb,rfl,_,h3,h4⟩ := exC_R hb
  exact sameStep a b y z xa xb w h1 h2 h3 h4 hz (fun i hi => ih _ (by have := rj (e := a) hi; omega))
theorem me (a b : Ex) (cs ds : List Value) (w : World) (ha : ExC w a cs) (hb : ExC w b ds) (hz : a.size ≤ 70368744177664) : Calls Tryz.prog 17 #[.agg cs.toArray,.agg ds.toArray] w (cj w (.bool (decide (a = b)))) := sameAll (a.size + 1) a (by omega) b cs ds w ha hb hz
end Go.Proofs.YtjbpkcbefmpfgaaGreatDoor
namespace Go.Proofs.YtjbpkcbefmpfgaaGreatDoor
open Go.WK Go.RowKit 
theorem mp (x0 : Int) (x2 : ByteArray) (x3 : ByteArray) : Tryz.prog.built 30 [(0,.int .i64 x0),(2,.string x2),(3,.string x3)] = some ([.int .i64 x0,.int .i64 0,.int .i64 0,.string .empty,.string x2,.string x3,.int .i64 0,.slice none 0 0] : List Value).toArray := by kernel_rfl
end Go.Proofs.YtjbpkcbefmpfgaaGreatDoor
