/- Parts of the proof, joined and made shorter by a program: Pk7, Vk, Rk1, Rk2, Rk3, Rk4, Rk5, Rk6, Rk7, Rk8, Rk9, Rk10, Rk11. -/
import Derived.Test.YtjbpkcbefmpfgaaGreatDoorX3
namespace Go.Proofs.YtjbpkcbefmpfgaaGreatDoor
open Go.WK Go.RowKit Go
theorem sF : Tryz.prog.built 37 [] = some ([.int .i64 0,.string .empty,.string .empty,.slice none 0 0,.slice none 0 0,.bool false,.slice none 0 0,.slice none 0 0,.int .i64 0,.int .i64 0,.int .i64 0,.string .empty,.string .empty,.string .empty,.int .i64 0,.slice none 0 0,.bool false,.bool false,.slice none 0 0,.slice none 0 0,.int .i64 0,.int .i64 0,.int .i64 0,.string .empty,.string .empty,.string .empty,.int .i64 0,.slice none 0 0,.slice none 0 0,.bool false,.int .i64 0] : List Value).toArray := by kernel_rfl
theorem assert92 : ∀ (v : Value) (w : World),(Instr.typeAssert (.iface 92 v) 20 92 true).run Tryz.prog w = .ok (.tuple #[v,.bool true]) w := by intros; kernel_rfl
theorem zero92 : (Tryz.prog.info? 92).map (·.zero) = some (some (.agg #[.int .i64 0,.int .i64 0])) := by kernel_rfl
theorem sz92 : szB Tryz.prog 92 = some 2 := by kernel_rfl
theorem fo92_0 : bH Tryz.prog 92 0 = some 0 := by kernel_rfl
theorem sz46 : szB Tryz.prog 46 = some 1 := by kernel_rfl
theorem agg46 : cG Tryz.prog 46 = some false := by kernel_rfl
theorem zero46 : (Tryz.prog.info? 46).map (·.zero) = some (some (.nilIface)) := by kernel_rfl
theorem tI (A0 : Option Addr) (n0 c0 : Nat) : Tryz.prog.built 96 [(0,.slice A0 n0 c0)] = some ([.slice A0 n0 c0,.int .i64 0] : List Value).toArray := by kernel_rfl
theorem rm (b2 b3 : Nat) (w : World) : CallsD Tryz.prog 44 #[.pointer (some ⟨b2,0,none⟩),.pointer (some ⟨b3,0,none⟩)] .returning w fun e u' w' => e = .returned (.tuple #[]) ∧ u' = .returning ∧ w' = w := by
 have hn : ∀ w : World,(binOp BinOp.neq 20 .nilIface .nilIface).run Tryz.prog w = .ok (.bool false) w := fun _ => by kernel_rfl
 refine callsD_of_wpS Tryz.func44 rfl fun c₀ cs hu => ?_
 apply wpS_seq
 apply wpS_region
 simp [wpOpsS,go_sem,recoverD,hu,Tryz.ntmps44,Exit.thenS]
 apply wpS_seq
 apply wpS_region
 simp [wpOpsS,go_sem,Exit.thenS,hn]
 refine wpS_cond (t := false) (by simp [Act.eval,Array.replicate]) ?_
 simp only [Bool.false_eq_true,if_false]
 refine wpS_of_wp (wp_skip ?_)
 cases c₀
 simp_all [bodyPostS,results,Tryz.results44]
theorem pQ (b2 b3 : Nat) (x : Flt) (cs : List Value) (y : Value) (w : World) (hl : cs.length = 31) (hs : Sat ⟨default,0,[],w,[b2,b3]⟩ [box b2 37 cs,box b3 46 [y]] w) : CallsD Tryz.prog 44 #[.pointer (some ⟨b2,0,none⟩),.pointer (some ⟨b3,0,none⟩)] (.panicking (eu x)) w fun e u' w' =>
  e = .returned (.tuple #[]) ∧ u' = .panicking [{ v := (.iface 92 (.agg #[.int .i64 x.1,.int .i64 x.2])),recovered := true }] ∧ Sat ⟨default,0,[],w,[b2,b3]⟩ [box b2 37 [.int .i64 0,.string .empty,.string .empty,.slice none 0 0,.slice none 0 0,.bool false,.slice none 0 0,.slice none 0 0,.int .i64 0,.int .i64 0,.int .i64 0,.string .empty,.string .empty,.string .empty,.int .i64 0,.slice none 0 0,.bool false,.bool false,.slice none 0 0,.slice none 0 0,.int .i64 0,.int .i64 0,.int .i64 0,.string .empty,.string .empty,.string .empty,.int .i64 0,.slice none 0 0,.slice none 0 0,.bool false,.int .i64 0],box b3 46 [.iface 55 (.agg #[.int .i64 x.1,.int .i64 x.2])]] w' := by
 have hn : ∀ w : World,(binOp BinOp.neq 20 (.iface 92 (.agg #[.int .i64 x.1,.int .i64 x.2])) .nilIface).run Tryz.prog w = .ok (.bool true) w := fun _ => by kernel_rfl
 refine callsD_of_wpS Tryz.func44 rfl fun c₀ fr hu => ?_
 apply wpS_seq
 apply wpS_region
 simp [wpOpsS,go_sem,recoverD,hu,Tryz.ntmps44,Exit.thenS,eu]
 apply wpS_seq
 apply wpS_region
 simp [wpOpsS,go_sem,Exit.thenS,hn]
 refine wpS_cond (t := true) (by simp [Act.eval,Array.replicate]) ?_
 simp only [if_true]
 refine wpS_of_wp ((show TriG ⟨Tryz.prog,20,[],w,[b2,b3]⟩ [(0,.pointer (some ⟨b2,0,none⟩)),(1,.pointer (some ⟨b3,0,none⟩)),(2,(.iface 92 (.agg #[.int .i64 x.1,.int .i64 x.2])))] [box b2 37 cs,box b3 46 [y]] _ _ from ?_) _ w ⟨rfl,by simp,fun d v hd => ?_⟩ hs.cx)
 rotate_left
 · rcases d with _ | _ | _ | d
   · simpa [WK.look] using hd
   · have hd : some (Value.pointer (some ⟨b3,0,none⟩)) = some v := hd
     simpa using hd
   · have hd : some (Value.iface 92 (.agg #[.int .i64 x.1,.int .i64 x.2])) = some v := hd
     simpa using hd
   · cases hd
 refine pt (Q := fun e fs' H' => e = .normal ∧ ∀ w2,Sat ⟨Tryz.prog,20,[],w,[b2,b3]⟩ H' w2 → Sat ⟨Tryz.prog,20,[],w,[b2,b3]⟩ [box b2 37 [.int .i64 0,.string .empty,.string .empty,.slice none 0 0,.slice none 0 0,.bool false,.slice none 0 0,.slice none 0 0,.int .i64 0,.int .i64 0,.int .i64 0,.string .empty,.string .empty,.string .empty,.int .i64 0,.slice none 0 0,.bool false,.bool false,.slice none 0 0,.slice none 0 0,.int .i64 0,.int .i64 0,.int .i64 0,.string .empty,.string .empty,.string .empty,.int .i64 0,.slice none 0 0,.slice none 0 0,.bool false,.int .i64 0],box b3 46 [.iface 55 (.agg #[.int .i64 x.1,.int .i64 x.2])]] w2) ?_ (fun e fs' H' ⟨he,hq⟩ a w2 ha hw => ?_)
 · skip
   exact ab (aa (ah rfl rfl (o_assert (assert92 _) rfl rfl (ah rfl rfl (aX rfl rfl rfl (aX rfl rfl rfl (aP _ rfl zero92 rfl (fun b3 => aO sz92 N0 rfl rfl rfl rfl rfl (Nat.le_of_ble_eq_true rfl) rfl (o_assignN rfl rfl (ab (ab (tri_slo [(4,_),(3,_),(0,_),(1,_),(2,_)] rfl (aa (ah rfl rfl (cu rfl rfl (triL_nilN (dt rfl (am (ag (tri_slo [(3,_),(0,_),(1,_)] rfl (bj ([box b3 92 [.int .i64 x.1,.int .i64 x.2]]) [(0,true),(1,true),(2,true),(3,true),(4,false),(5,false)] [5] (by kernel_rfl) (by kernel_rfl) (fun _ h => h.sel [0] (by decide)) (ai rfl (aU sF rfl rfl (ae ⟨rfl,ai rfl (aj fo92_0 rfl rfl (ae ⟨rfl,ai rfl (aC agg55 sz55 .z rfl rfl (vs := [.int .i64 x.1,.int .i64 x.2]) rfl rfl (ae ⟨rfl,ai rfl (iG Tryz.underlying55 rfl rfl rfl (ae ⟨rfl,(aZ rfl (bg (us := cs) (cs := [.int .i64 0,.string .empty,.string .empty,.slice none 0 0,.slice none 0 0,.bool false,.slice none 0 0,.slice none 0 0,.int .i64 0,.int .i64 0,.int .i64 0,.string .empty,.string .empty,.string .empty,.int .i64 0,.slice none 0 0,.bool false,.bool false,.slice none 0 0,.slice none 0 0,.int .i64 0,.int .i64 0,.int .i64 0,.string .empty,.string .empty,.string .empty,.int .i64 0,.slice none 0 0,.slice none 0 0,.bool false,.int .i64 0]) hl rfl rfl eH (.s .z) rfl rfl rfl (ae ⟨rfl,fun _ _ h => h.sel [0] (by decide),(bu [5] [_] rfl rfl (aO sz46 N2 rfl rfl rfl rfl rfl (Nat.le_of_ble_eq_true rfl) rfl (ae ⟨rfl,(⟨rfl,fun w2 hw2 => hw2.sel [1,2] (by decide)⟩)⟩)))⟩)))⟩))⟩))⟩))⟩))))))))))))))))))))))))
 · subst he
   refine ⟨ha.ds,.panicking [{ v := (.iface 92 (.agg #[.int .i64 x.1,.int .i64 x.2])),recovered := true }],rfl,.tuple #[],results_none rfl _ _ _,rfl,rfl,(hq w2 hw).cx⟩
set_option maxHeartbeats 1000000 in
theorem pR (s : List UInt8) (w : World) (hs : s.length ≤ 140737488355328) (hE : LE w) (hsel : ∀ ts,gB s = .ok ts → atT 1 gZ ts = true) : Calls Tryz.prog 15 #[.string (B s)] w (ParsT w (eJ s)) := by
 refine qJ (args := [.string (B s)]) (lent := []) (H := []) Tryz.func15 rfl Tryz.ntmps15 rfl (Sat.start _ _ _ _) ((show TriG _ [(0,_)] _ _ _ from mE (aa (aP _ rfl jn rfl (fun b2 => aP _ rfl zero46 rfl (fun b3 => ae (kY (mE (aa (ah rfl rfl (n6 (first := []) (cap := []) (fun v => .tuple #[v,errR 55 (gB s)]) rfl rfl rfl Tryz.call43 (fun w1 h1 => lexK s w1 hs (hE.chg h1.chg)) (fun A9 c9 => ah rfl rfl (aX rfl rfl rfl (aX rfl rfl rfl (aB rfl rfl (aB rfl rfl (ae (kY (mE (ab (tri_slo [(5,_),(4,_),(3,_),(2,_)] rfl (aa (ah rfl rfl (o5 ifE (errIs _ _) rfl rfl (triL_nilN (aE rfl (fun h0 => ?_) (fun h0 => ?_)))))))))))))))))))))))))))
 · skip
   obtain ⟨x,hx⟩ := rK (ci h0)
   rw [hx]
   refine ab (aa (aU sF rfl rfl (ah rfl rfl (bg (us := zSt) (cs := zSt) rfl rfl rfl eH (.s (.s .z)) rfl rfl rfl (aO sz46 N1 rfl rfl rfl rfl rfl (Nat.le_of_ble_eq_true rfl) rfl (triL_nilN (ap (gQ_ret ?_))))))))
   intro a1 w1 ha1 hw1
   show Leaves _ _ _ _ a1.defers _ _
   rw [ha1.ds]
   exact ⟨_,ka Tryz.results15 (ha1.get rfl) (ha1.get rfl) ej eH agg46 (hw1.holds _ (Nth.mem (.s (.s .z)))) rfl (hw1.holds _ (Nth.mem (.s .z))),([],zSt),⟨rfl,rfl⟩,by rw [mF hx]; rfl,by rw [mF hx]; exact (Sat.sel (Sat.zeroSt hw1) [0] (by decide)).cx⟩
 · skip
   obtain ⟨ts,hts⟩ := okR_ok (bU h0)
   have hlg := lex_good hts
   rw [hts]
   refine am (kY (qI rfl rfl ?_))
   refine pt (Q := (fun e fs' H' => match e with
     | .ret => WK.look fs' 2 = some (.pointer (some ⟨b2,0,none⟩)) ∧ WK.look fs' 3 = some (.pointer (some ⟨b3,0,none⟩)) ∧ ∃ j : SR,eJ s = .ok j.s ∧ (j.cs.length = 31 ∧ allOne j.cs = true) ∧ ∀ w2,Sat ⟨Tryz.prog,35,[{ target := .fn (.func 44) #[.pointer (some ⟨b2,0,none⟩),.pointer (some ⟨b3,0,none⟩)],args := #[] }],w,[]⟩ H' w2 → Sat ⟨Tryz.prog,35,[{ target := .fn (.func 44) #[.pointer (some ⟨b2,0,none⟩),.pointer (some ⟨b3,0,none⟩)],args := #[] }],w,[]⟩ [box b2 37 j.cs,box b3 46 [.nilIface],stC j.bl j.s j.cs] w2
     | .panic ch => WK.look fs' 2 = some (.pointer (some ⟨b2,0,none⟩)) ∧ WK.look fs' 3 = some (.pointer (some ⟨b3,0,none⟩)) ∧ ∃ x,eJ s = .error x ∧ ch = eu x ∧ ∀ w2,Sat ⟨Tryz.prog,35,[{ target := .fn (.func 44) #[.pointer (some ⟨b2,0,none⟩),.pointer (some ⟨b3,0,none⟩)],args := #[] }],w,[]⟩ H' w2 → ∃ cs y,cs.length = 31 ∧ Sat ⟨Tryz.prog,35,[{ target := .fn (.func 44) #[.pointer (some ⟨b2,0,none⟩),.pointer (some ⟨b3,0,none⟩)],args := #[] }],w,[]⟩ [box b2 37 cs,box b3 46 [y]] w2
     | _ => False)) ?_ (fun e fs' H' hq a2 w2 ha hw => by
     cases e with
     | ret =>
      obtain ⟨k2,k3,j,hj1,⟨hj2,hj3⟩,hj4⟩ := hq
      have hs4 := hj4 w2 hw
      show Leaves _ _ _ _ a2.defers _ _
      rw [ha.ds]
      refine leaves_cons (by simp) (f := 44) (args := #[.pointer (some ⟨b2,0,none⟩),.pointer (some ⟨b3,0,none⟩)]) (by simp [go_sem]) ((rm b2 b3 w2).mono ?_)
      rintro e u' w3 ⟨rfl,rfl,rfl⟩
      exact ⟨_,ka Tryz.results15 (ha.get k2) (ha.get k3) ej eH agg46 (hs4.holds _ (Nth.mem .z)) hj2 (hs4.holds _ (Nth.mem (.s .z))),(j.bl,j.cs),⟨hj2,hj3⟩,by rw [hj1]; rfl,by rw [hj1]; exact (hs4.sel [2] (by decide)).cx⟩
     | panic ch =>
      obtain ⟨k2,k3,x,hx1,rfl,hx3⟩ := hq
      obtain ⟨cs,y,hl,hs4⟩ := hx3 w2 hw
      show Leaves _ _ _ _ a2.defers _ _
      rw [ha.ds]
      have hln : ∀ c ∈ [box b2 37 cs,box b3 46 [y]],∀ k,c.fp k → k ∈ [b2,b3] := kT aI
      have hln2 : ∀ k ∈ [b2,b3], ∃ c ∈ [box b2 37 cs,box b3 46 [y]],c.fp k := kU aF
      refine leaves_cons (by simp) (f := 44) (args := #[.pointer (some ⟨b2,0,none⟩),.pointer (some ⟨b3,0,none⟩)]) (by simp [go_sem]) ((pQ b2 b3 x cs y w2 hl (Sat.lend (F := []) hs4 hln)).mono ?_)
      rintro e u' w3 ⟨rfl,rfl,hs5⟩
      have hs6 := Sat.frame (F := []) hs4 hln2 hs5
      exact ⟨_,ka Tryz.results15 (ha.get k2) (ha.get k3) ej eH agg46 (hs6.holds _ (Nth.mem .z)) rfl (hs6.holds _ (Nth.mem (.s .z))),([],zSt),⟨rfl,rfl⟩,by rw [hx1]; rfl,by rw [hx1]; exact (Sat.sel (Sat.zeroSt hs6) [0] (by decide)).cx⟩
     | normal => exact hq.elim
     | exit i => exact hq.elim
     | goto l => exact hq.elim
     | outgrown => exact hq.elim)
   refine ab (Tri.know (fun w2 hw2 => row_some (hw2.holds _ (Nth.mem .z)) rfl (by show 0 < (toksV ts).length; rw [cg]; have := hlg.1.ne; omega)) (fun ⟨g,hg,hlc⟩ => ?_))
   subst hg
   refine aa (ah rfl rfl (aU (tI _ _ _) rfl rfl (bY _ rfl rfl rfl (fun b19 => o_assignN rfl rfl (ab (tri_slo [(6,_),(2,_),(3,_)] rfl (Tri.heap (H' := [pC b19 ⟨g,0,none⟩ c9 ts ts 0,row (.slice (some ⟨g,0,none⟩) ts.length c9) 62 3 ts.length (toksV ts),box b3 46 [.nilIface],box b2 37 zSt]) (fun w hw => (congrArg (fun v => Sat _ [box b19 96 [v,.int .i64 0],row (.slice (some ⟨g,0,none⟩) ts.length c9) 62 3 ts.length (toksV ts),box b3 46 [.nilIface],box b2 37 zSt] w) (pS0 g c9 ts)).mpr hw) (aa (ah rfl rfl (fG (first := []) (cap := []) [] [pC b19 ⟨g,0,none⟩ c9 ts ts 0] [row (.slice (some ⟨g,0,none⟩) ts.length c9) 62 3 ts.length (toksV ts),box b3 46 [.nilIface],box b2 37 zSt] [b19] rfl rfl rfl rfl Tryz.call45 aI aF (fun w1 h1 h2 => selectK (8 * ts.length + 8) b19 ⟨g,0,none⟩ c9 ts ts 0 w1 ⟨⟨RdS.row (.s .z) w1 h1,h1.neB (.s .z) .z (by decide) rfl,hlc,by have := hlg.2.2; omega,hlg.2.1⟩,List.suffix_refl _,hlg.1,Nat.zero_le _,h2⟩ (hsel ts hts) (by omega)) (fun ch ⟨x,hx1,hx2⟩ => ⟨rfl,rfl,x,qL hts hx1,hx2,fun w2 hw2 => ⟨_,_,rfl,hw2.sel [2,1] (by decide)⟩⟩) (fun j hj => bg (us := zSt) rfl hj.2.1 hj.2.2 eH (.s (.s (.s (.s .z)))) rfl rfl rfl (triL_nilN (ab ?_)))))))))))))
   have hjc := m9 hlg.1 (hsel ts hts) hj.1
   refine aa (ah rfl rfl (fG (first := []) (cap := []) [] [pC b19 ⟨g,0,none⟩ c9 ts j.us 0] [stC j.bl j.s j.cs,row (.slice (some ⟨g,0,none⟩) ts.length c9) 62 3 ts.length (toksV ts),box b3 46 [.nilIface],box b2 37 j.cs] [b19] rfl rfl rfl rfl Tryz.call46 aI aF (fun w1 h1 h2 => mQ [59] b19 ⟨g,0,none⟩ c9 ts j.us 0 w1 ⟨⟨RdS.row (.s (.s .z)) w1 h1,h1.neB (.s (.s .z)) .z (by decide) rfl,hlc,by have := hlg.2.2; omega,hlg.2.1⟩,hjc.1,hjc.2,Nat.zero_le _,h2⟩) (fun ch hF => hF.elim) (fun u_ hu_ => triL_nilN (ab (ab (tri_slo [(6,_),(2,_),(3,_)] rfl ?_))))))
   have hend := qM hts hj.1
   obtain ⟨V,hV⟩ : ∃ V,V = (if atT 4 [59] j.us = true then j.us.drop 1 else j.us) := ⟨_,rfl⟩
   have hVc : Cuts ts V := by
    rw [hV]
    by_cases hh : atT 4 [59] j.us = true
    · rw [if_pos hh]; exact bS hjc (by decide) hh
    · rw [if_neg hh]; exact hjc
   rw [← hV] at hend ⊢
   have hle2 := hVc.1.length_le
   have hVn := hVc.2.ne
   have hRV : ∀ cx H i,Nth H i (row (.slice (some ⟨g,0,none⟩) ts.length c9) 62 3 ts.length (toksV ts)) → RdS cx H (some ((⟨g,0,none⟩ : Addr).add ((ts.length - V.length) * 3))) (toksV V) := fun cx H i hn w2 hs2 => row_suf (RdS.row hn w2 hs2) hVc.1
   refine aa (ah rfl rfl (aM rfl rfl (aj cZ rfl rfl (ak fM N0 rfl rfl rfl (aL Tryz.underlying58 eG rfl rfl rfl (hRV _ _ _ (.s (.s .z))) (by omega) (by omega) (cg _) (by decide) (aJ gK rfl rfl (hRV _ _ _ (.s (.s .z))) (hd_k hVc.2) (aH bz rfl rfl (hRV _ _ _ (.s (.s .z))) (hd_k hVc.2) (cB rfl rfl rfl (triL_nilN (ar rfl (fun h5 => ?_) (fun h5 => ?_)))))))))))
   · skip
     have h5 : ¬ (hd V).k = 5 := h5
     refine tri_slo [(6,_),(2,_),(3,_)] rfl (aa (ah rfl rfl (fG (first := []) (cap := []) [] [pC b19 ⟨g,0,none⟩ c9 ts V 0] [stC j.bl j.s j.cs,row (.slice (some ⟨g,0,none⟩) ts.length c9) 62 3 ts.length (toksV ts),box b3 46 [.nilIface],box b2 37 j.cs] [b19] rfl rfl rfl rfl Tryz.call47 aI aF (fun w1 h1 h2 => jR 190 b19 ⟨g,0,none⟩ c9 ts V 0 w1 ⟨⟨RdS.row (.s (.s .z)) w1 h1,h1.neB (.s (.s .z)) .z (by decide) rfl,hlc,by have := hlg.2.2; omega,hlg.2.1⟩,hVc.1,hVc.2,Nat.zero_le _,h2⟩) (fun ch hF => ⟨rfl,rfl,_,hend.trans (if_neg h5),hF,fun w2 hw2 => ⟨_,_,hj.2.1,hw2.sel [3,2] (by decide)⟩⟩) (fun u hu => hu.elim))))
   · skip
     have h5 : (hd V).k = 5 := Decidable.not_not.1 h5
     exact am (ag (ab (tri_slo [(2,_),(3,_)] rfl (aa (r3 hj.2.1 ej eH (.s (.s (.s (.s .z)))) rfl rfl (bg hj.2.1 hj.2.1 hj.2.2 eH (.s (.s (.s (.s .z)))) rfl rfl rfl (aO sz46 N3 rfl rfl rfl rfl rfl (Nat.le_of_ble_eq_true rfl) rfl (triL_nilN (ap (⟨rfl,rfl,j,hend.trans (if_pos h5),hj.2,fun w2 hw2 => hw2.sel [4,3,1] (by decide)⟩))))))))))
end Go.Proofs.YtjbpkcbefmpfgaaGreatDoor
namespace Go.Proofs.YtjbpkcbefmpfgaaGreatDoor
open Go.WK Go.RowKit 
theorem ga : bH Tryz.prog 27 0 = some 0 := by kernel_rfl
theorem oI : gW Tryz.prog 27 = some pd := by kernel_rfl
theorem gN : bH Tryz.prog 27 2 = some 2 := by kernel_rfl
theorem fw : bH Tryz.prog 27 1 = some 1 := by kernel_rfl
theorem lm : cG Tryz.prog 2 = some false := by kernel_rfl
theorem sz5 : szB Tryz.prog 5 = some 1 := by kernel_rfl
theorem agg5 : cG Tryz.prog 5 = some false := by kernel_rfl
def fit (v : Val) : Prop := v.ok ∧ v.s.length ≤ 140737488355328
theorem mayK (v : Val) (w : World) (f : fit v) : Calls Tryz.prog 71 #[jF v] w (bX w (.bool (may v))) := by
 refine ay (args := [jF v]) (lent := []) (H := []) Tryz.func71 rfl Tryz.ntmps71 rfl (Sat.start _ _ _ _) ((show Tri _ [(0,_)] _ _ _ from ?_))
 have hs := f.2
 have e64 : decide ((v.s.length : Int) ≤ 64) = decide (v.s.length ≤ 64) := le_dec _ 64
 refine ab (aa (bY (Val.cs _) rfl rfl rfl (fun b1 => o_assignN rfl rfl (ab (ab (aa (aj ga rfl rfl (ak bz N0 rfl rfl rfl (triL_nilN (aw (ab (aa (ax rfl rfl rfl (o_assignN rfl rfl (ar rfl (fun h1 => ?_) (fun h1 => ?_))))))))))))))))
 · skip
   refine ab (tri_slo [(1,_)] rfl (aa (jg hY jJ N0 rfl rfl (aU mU rfl rfl (o_eqlV oI rfl rfl rfl (o_assignN rfl rfl (ap (aq (an (aT rfl rfl ?_)))))))))); exact fun w1 hw1 => ⟨congrArg (fun b => Ending.returned (.bool b)) (by simp [may,gp, *]),hw1.chg⟩
 · skip
   refine ab (tri_slo [(4,_),(1,_)] rfl (aa (ax rfl rfl rfl (o_assignN rfl rfl (ar rfl (fun h2 => ?_) (fun h2 => ?_))))))
   · skip
     refine ab (aa (aj gN rfl rfl (ak bd N0 rfl rfl rfl (bE rfl rfl rfl (o_assignN rfl rfl (ap (aq (an (aT rfl rfl ?_))))))))); exact fun w1 hw1 => ⟨congrArg (fun b => Ending.returned (.bool b)) (by simp [may, *]),hw1.chg⟩
   · skip
     refine ab (aa (ax rfl rfl rfl (o_assignN rfl rfl (ar rfl (fun h3 => ?_) (fun h3 => ?_)))))
     · skip
       refine ab (tri_slo [(1,_)] rfl (aa (aj fw rfl rfl (ak lm N0 rfl rfl rfl (ax rfl rfl rfl (ah rfl rfl ?_))))))
       refine' aA [_,_,_,_] [] (dj := 20) (dr := 24) rfl rfl (fun g1 => ?_) ⟨_,rfl,rfl,rfl,(.nil _)⟩ rfl ?_
       rotate_left
       · skip
         have g1 := of_decide_eq_true g1
         exact aj gN rfl rfl (ak bd N0 rfl rfl rfl (dJ Tryz.underlying9 rfl rfl (gc rfl rfl rfl (ae (Piece.mk rfl rfl (.nil _) (fun _ h => h))))))
       refine o_assignN rfl rfl (ap (aq (an (aT rfl rfl ?_)))); exact fun w1 hw1 => ⟨congrArg (fun b => Ending.returned (.bool b)) (by simp [may, *]),hw1.chg⟩
     · skip
       refine ab (tri_slo [(4,_),(1,_)] rfl (aa (ax rfl rfl rfl (o_assignN rfl rfl (ar rfl (fun h4 => ?_) (fun h4 => ?_))))))
       · skip
         refine ab (aa (aj gN rfl rfl (ak bd N0 rfl rfl rfl (bE rfl rfl rfl (ah rfl rfl ?_)))))
         refine' aA [_,_,_,_,_,_,_,_] [] (dj := 31) (dr := 39) rfl rfl (fun g2 => ?_) ⟨_,rfl,rfl,rfl,(.nil _)⟩ rfl ?_
         rotate_left
         · skip
           have g2 := of_decide_eq_true g2
           refine aj fw rfl rfl (ak lm N0 rfl rfl rfl (ax rfl rfl rfl (ah rfl rfl ?_)))
           refine' aQ [_,_,_] [(31,_)] (dj := 35) (dr := 38) rfl rfl (fun g3 => ?_) ⟨_,rfl,rfl,rfl,(.cons rfl (.nil _))⟩ rfl ?_
           rotate_left
           · skip
             have g3 := of_decide_eq_false g3
             exact aj fw rfl rfl (ak lm N0 rfl rfl rfl (ax rfl rfl rfl (ae (Piece.mk rfl rfl (.cons rfl (.nil _)) (fun _ h => h)))))
           exact ae (Piece.mk rfl rfl (.nil _) (fun _ h => h))
         refine o_assignN rfl rfl (ap (aq (an (aT rfl rfl ?_)))); exact fun w1 hw1 => ⟨congrArg (fun b => Ending.returned (.bool b)) (by simp [may, *]),hw1.chg⟩
       · skip
         refine am (ao (ag (ab (az [] (.nil _) (aa (o_assignN rfl rfl (ap (aT rfl rfl ?_)))))))); exact fun w1 hw1 => ⟨congrArg (fun b => Ending.returned (.bool b)) (by simp [may, *]),hw1.chg⟩
theorem mayR (v : Val) (w : World) (f : fit v) : Calls Tryz.prog 75 #[jF v] w (bX w (.bool (may v))) := by
 refine ay (args := [jF v]) (lent := []) (H := []) Tryz.func75 rfl Tryz.ntmps75 rfl (Sat.start _ _ _ _) ((show Tri _ [(0,_)] _ _ _ from ?_))
 have hs := f.2
 have e64 : decide ((v.s.length : Int) ≤ 64) = decide (v.s.length ≤ 64) := le_dec _ 64
 have e01 : (decide (0 ≤ v.n) && decide (v.n ≤ 1)) = (decide (v.n = 0) || decide (v.n = 1)) := by rw [← Bool.decide_and, ← Bool.decide_or]; exact decide_eq_decide.2 (by omega)
 refine ab (aa (bY (Val.cs _) rfl rfl rfl (fun b1 => o_assignN rfl rfl (ab (ab (aa (aj ga rfl rfl (ak bz N0 rfl rfl rfl (ax rfl rfl rfl (triL_nilN (ar rfl (fun h1 => ?_) (fun h1 => ?_))))))))))))
 · skip
   refine ab (tri_slo [(1,_)] rfl (aa (aj fw rfl rfl (ak lm N0 rfl rfl rfl (ax rfl rfl rfl (ah rfl rfl ?_))))))
   refine' aA [_,_,_] [] (dj := 9) (dr := 12) rfl rfl (fun g1 => ?_) ⟨_,rfl,rfl,rfl,(.nil _)⟩ rfl ?_
   rotate_left
   · skip
     exact aj gN rfl rfl (ak bd N0 rfl rfl rfl (bE rfl rfl rfl (ae (Piece.mk rfl rfl (.nil _) (fun _ h => h)))))
   refine o_assignN rfl rfl (ap (an (aT rfl rfl ?_))); exact fun w1 hw1 => ⟨congrArg (fun b => Ending.returned (.bool b)) (by simp [may, *] <;> simp only [Bool.and_assoc,e01]),hw1.chg⟩
 · skip
   refine am (ag (ab (ab (tri_slo [(1,_)] rfl (aa (aj ga rfl rfl (ak bz N0 rfl rfl rfl (ax rfl rfl rfl (triL_nilN (ar rfl (fun h2 => ?_) (fun h2 => ?_)))))))))))
   · skip
     refine ab (aa (aj gN rfl rfl (ak bd N0 rfl rfl rfl (bE rfl rfl rfl (o_assignN rfl rfl (ap (an (aT rfl rfl ?_)))))))); exact fun w1 hw1 => ⟨congrArg (fun b => Ending.returned (.bool b)) (by simp [may, *] <;> simp only [Bool.and_assoc,e01]),hw1.chg⟩
   · skip
     refine am (ag (ab (ab (aa (aj ga rfl rfl (ak bz N0 rfl rfl rfl (ax rfl rfl rfl (triL_nilN (ar rfl (fun h3 => ?_) (fun h3 => ?_))))))))))
     · skip
       refine ab (tri_slo [(1,_)] rfl (aa (aj fw rfl rfl (ak lm N0 rfl rfl rfl (ax rfl rfl rfl (ah rfl rfl ?_))))))
       refine' aA [_,_,_,_] [] (dj := 26) (dr := 30) rfl rfl (fun g2 => ?_) ⟨_,rfl,rfl,rfl,(.nil _)⟩ rfl ?_
       rotate_left
       · skip
         exact aj gN rfl rfl (ak bd N0 rfl rfl rfl (dJ Tryz.underlying9 rfl rfl (gc rfl rfl rfl (ae (Piece.mk rfl rfl (.nil _) (fun _ h => h))))))
       refine o_assignN rfl rfl (ap (an (aT rfl rfl ?_))); exact fun w1 hw1 => ⟨congrArg (fun b => Ending.returned (.bool b)) (by simp [may, *] <;> simp only [Bool.and_assoc,e01]),hw1.chg⟩
     · skip
       refine am (ag (ab (tri_slo [(1,_)] rfl (aa (aj ga rfl rfl (ak bz N0 rfl rfl rfl (ax rfl rfl rfl (ah rfl rfl ?_))))))))
       refine' aA [_,_,_] [(1,_)] (dj := 35) (dr := 38) rfl rfl (fun g3 => ?_) ⟨_,rfl,rfl,rfl,(.cons rfl (.nil _))⟩ rfl ?_
       rotate_left
       · skip
         exact aj gN rfl rfl (ak bd N0 rfl rfl rfl (bE rfl rfl rfl (ae (Piece.mk rfl rfl (.cons rfl (.nil _)) (fun _ h => h)))))
       refine ah rfl rfl ?_
       refine' aA [_,_,_] [(1,_)] (dj := 40) (dr := 43) rfl rfl (fun g4 => ?_) ⟨_,rfl,rfl,rfl,(.cons rfl (.nil _))⟩ rfl ?_
       rotate_left
       · skip
         exact aj fw rfl rfl (ak lm N0 rfl rfl rfl (gd rfl rfl rfl (ae (Piece.mk rfl rfl (.cons rfl (.nil _)) (fun _ h => h)))))
       refine ah rfl rfl ?_
       refine' aA [_,_,_] [] (dj := 45) (dr := 48) rfl rfl (fun g5 => ?_) ⟨_,rfl,rfl,rfl,(.nil _)⟩ rfl ?_
       rotate_left
       · skip
         exact aj fw rfl rfl (ak lm N0 rfl rfl rfl (gc rfl rfl rfl (ae (Piece.mk rfl rfl (.nil _) (fun _ h => h)))))
       refine o_assignN rfl rfl (ap (aT rfl rfl ?_)); exact fun w1 hw1 => ⟨congrArg (fun b => Ending.returned (.bool b)) (by simp [may, *] <;> simp only [Bool.and_assoc,e01]),hw1.chg⟩
theorem may_k {v : Val} (h : may v = true) : v.k = 0 ∨ v.k = 1 ∨ v.k = 2 ∨ v.k = 3 := by
 rcases s8 h with rfl | rfl | rfl | ⟨n,rfl⟩ | ⟨s,rfl,_⟩ <;> simp
theorem nIn {v : Val} (h : fit v) : inR v.n = true := iL.2 h.1.2
theorem sizeR (n : Int) (w : World) (h : inR n = true) : Calls Tryz.prog 154 #[.int .i64 n] w (bX w (.int .u64 ((n.natAbs : Nat) : Int))) := by
 refine ay (args := [.int .i64 n]) (lent := []) (H := []) Tryz.func154 rfl Tryz.ntmps154 rfl (Sat.start _ _ _ _) ((show Tri _ [(0,_)] _ _ _ from ?_))
 obtain ⟨n1,n2⟩ := iL.1 h
 refine ab (aa (o_assignN rfl rfl (ab (ab (aa (ah rfl rfl (bK rfl rfl rfl (triL_nilN (ar rfl (fun h1 => ?_) (fun h1 => ?_))))))))))
 · skip
   refine ab (aa (ah rfl rfl (qg rfl rfl Tryz.underlying2 Tryz.underlying200 (o_negI rfl rfl (o_assignN rfl rfl (ap (an (aT rfl rfl ?_)))))))); exact fun w1 hw1 => ⟨congrArg (fun b : Int => Ending.returned (.int .u64 b)) (by simp only [IntKind.wrap_u64]; omega),hw1.chg⟩
 · skip
   refine am (ag (ab (aa (ah rfl rfl (qg rfl rfl Tryz.underlying2 Tryz.underlying200 (o_assignN rfl rfl (ap (aT rfl rfl ?_)))))))); exact fun w1 hw1 => ⟨congrArg (fun b : Int => Ending.returned (.int .u64 b)) (by simp only [IntKind.wrap_u64]; omega),hw1.chg⟩
theorem printK (v : Val) (w : World) (f : fit v) (hL : LV w) : Calls Tryz.prog 58 #[jF v] w (bX w (.tuple #[.string (B (prV v).1),.int .i64 (prV v).2])) := by
 refine ay (args := [jF v]) (lent := []) (H := []) Tryz.func58 rfl Tryz.ntmps58 rfl (Sat.start _ _ _ _) ((show Tri _ [(0,_)] _ _ _ from ?_))
 have fs := f.2
 refine ab (aa (bY (Val.cs _) rfl rfl rfl (fun b1 => aB rfl rfl (o_assignN rfl rfl (ab (ab (aa (jg hY jJ N0 rfl rfl (av (first := []) (cap := []) rfl rfl rfl Tryz.call71 (fun w_ hw_ => mayK _ w_ (by assumption)) (cu rfl rfl (triL_nilN (aE rfl (fun h0 => ?_) (fun h0 => ?_)))))))))))))
 · skip
   have h0 : ¬ may v = true := by simpa using h0
   refine ab (az [] (.nil _) (aa (aB rfl rfl (o_assignN rfl rfl (ap (an (dA rfl rfl rfl ?_))))))); exact fun w1 hw1 => ⟨by have e : prV v = ([],5) := (by rw [prV,if_neg h0]); rw [e] <;> rfl,hw1.chg⟩
 · skip
   have h0 : may v = true := by simpa using h0
   refine am (ag (ab (ab (tri_slo [(1,_)] rfl (aa (aj ga rfl rfl (ak bz N0 rfl rfl rfl (triL_nilN (aw (ab (aa (ax rfl rfl rfl (o_assignN rfl rfl (ar rfl (fun k1 => ?_) (fun k1 => ?_)))))))))))))))
   · skip
     refine ab (tri_slo [(1,_)] rfl (aa (aj fw rfl rfl (ak lm N0 rfl rfl rfl (av (first := []) (cap := []) rfl rfl rfl Tryz.call115 (fun w1 h1 => rl v.n w1 (nIn f) (hL.chg h1.chg)) (aB rfl rfl (o_assignN rfl rfl (ap (aq (an (dA rfl rfl rfl ?_))))))))))); exact fun w1 hw1 => ⟨by have e : prV v = (Lib.itoa v.n,0) := (by rw [prV,if_pos h0,if_pos k1]); rw [e] <;> rfl,hw1.chg⟩
   · skip
     refine ab (aa (ax rfl rfl rfl (o_assignN rfl rfl (ar rfl (fun k2 => ?_) (fun k2 => ?_)))))
     · skip
       have ht := mi h0 k2
       have hd := lM v.s
       refine ab (tri_slo [(1,_)] rfl (aa (aj gN rfl rfl (ak bd N0 rfl rfl rfl (av (first := []) (cap := []) rfl rfl rfl Tryz.call116 (fun w1 h1 => lib_dbl v.s w1 (by omega) (hL.chg h1.chg)) (cD rfl rfl rfl (by simp only [List.length_cons,List.length_nil]; omega) (cD rfl rfl rfl (by simp only [List.length_append,List.length_cons,List.length_nil]; omega) (aB rfl rfl (o_assignN rfl rfl (ap (aq (an (dA rfl rfl rfl ?_))))))))))))); exact fun w1 hw1 => ⟨by have e : prV v = (39 :: (dbl v.s ++ [39]),0) := (by rw [prV,if_pos h0,if_neg k1,if_pos k2]); rw [e] <;> rfl,hw1.chg⟩
     · skip
       refine ab (tri_slo [(8,_),(1,_)] rfl (aa (ax rfl rfl rfl (o_assignN rfl rfl (ar rfl (fun k3 => ?_) (fun k3 => ?_))))))
       · skip
         refine ab (ab (aa (aj fw rfl rfl (ak lm N0 rfl rfl rfl (ax rfl rfl rfl (triL_nilN (ar rfl (fun k4 => ?_) (fun k4 => ?_))))))))
         · skip
           refine ab (az [] (.nil _) (aa (aB rfl rfl (o_assignN rfl rfl (ap (an (aq (an (dA rfl rfl rfl ?_))))))))); exact fun w1 hw1 => ⟨by have e : prV v = ([116,114,117,101],0) := (by rw [prV,if_pos h0,if_neg k1,if_neg k2,if_pos k3,if_pos k4]); rw [e] <;> rfl,hw1.chg⟩
         · skip
           refine am (ag (ab (az [] (.nil _) (aa (aB rfl rfl (o_assignN rfl rfl (ap (aq (an (dA rfl rfl rfl ?_)))))))))); exact fun w1 hw1 => ⟨by have e : prV v = ([102,97,108,115,101],0) := (by rw [prV,if_pos h0,if_neg k1,if_neg k2,if_pos k3,if_neg k4]); rw [e] <;> rfl,hw1.chg⟩
       · skip
         refine am (ao (ag (ab (az [] (.nil _) (aa (aB rfl rfl (o_assignN rfl rfl (ap (dA rfl rfl rfl ?_))))))))); exact fun w1 hw1 => ⟨by have e : prV v = ([110,117,108,108],0) := (by rw [prV,if_pos h0,if_neg k1,if_neg k2,if_neg k3]); rw [e] <;> rfl,hw1.chg⟩
theorem sG (n : Int) (w : World) (h : inR n = true) : Calls Tryz.prog 123 #[.int .i64 n] w (bX w (.string (B (Lib.itoa n)))) := by
 refine ay (args := [.int .i64 n]) (lent := []) (H := []) Tryz.func123 rfl Tryz.ntmps123 rfl (Sat.start _ _ _ _) ((show Tri _ [(0,_)] _ _ _ from ?_))
 obtain ⟨n1,n2⟩ := iL.1 h
 have hu : n.natAbs ≤ 9223372036854775808 := by omega
 refine ab (aa (o_assignN rfl rfl (ab (aa (o_assignN rfl rfl (ab (ab (aa (ah rfl rfl (av (first := []) (cap := []) rfl rfl rfl Tryz.call154 (fun w1 h1 => sizeR n w1 h) (o_assignN rfl rfl (aw (bf (ι := Nat × List UInt8 × Option Addr × Nat) (F := fun j => [(0,.int .i64 n),(3,.slice j.2.2.1 j.2.1.length j.2.2.2),(4,.int .u64 ((j.1 : Nat) : Int))]) (HH := fun j => [row (.slice j.2.2.1 j.2.1.length j.2.2.2) 5 1 j.2.1.length (bM j.2.1)]) (Pu := fun j => mG n.natAbs j.1 j.2.1) (μ := fun j => 2 * j.1 + (if j.2.1.length = 0 then 1 else 0)) ((n.natAbs,[],none,0)) (.cons rfl (.cons rfl (.cons rfl (.nil _)))) (fun _ h => h.nilRow _ _) (⟨Nat.le_refl _,.inl ⟨rfl,rfl⟩⟩) (fun j hi => ?_))))))))))))))
 have hl := qP hi hu
 have hk := hi.1
 refine ab (ab (aa (ah rfl rfl (cR rfl rfl rfl (ah rfl rfl ?_)))))
 refine' aQ [_,_,_] [(0,_),(3,_),(4,_)] (dj := 11) (dr := 14) rfl rfl (fun g1 => ?_) ⟨_,rfl,rfl,rfl,(.cons rfl (.cons rfl (.cons rfl (.nil _))))⟩ rfl ?_
 rotate_left
 · skip
   exact ah rfl rfl (aN Tryz.underlying65 rfl rfl (ax rfl rfl rfl (ae (Piece.mk rfl rfl (.cons rfl (.cons rfl (.cons rfl (.nil _)))) (fun _ h => h)))))
 refine triL_nilN (aE rfl (fun h1 => ?_) (fun h1 => ?_))
 · skip
   have h1 : 0 < j.1 ∨ j.2.1.length = 0 := by simp only [Bool.or_eq_true,decide_eq_true_eq] at h1; omega
   refine am (ag (ab (aw (aa (ah rfl rfl (ah rfl rfl (o_remU j.1 10 rfl rfl rfl (by decide) (o_add rfl rfl rfl (dH (v' := .int .u64 ((48 + j.1 % 10 : Nat) : Int)) (congrArg (Value.int .u64) (by rw [IntKind.wrap_u64]; omega)) (o_toByte rfl rfl Tryz.underlying200 Tryz.underlying5 (Int.natCast_nonneg _) (bF Tryz.underlying65 zs5 rfl rfl rfl rfl rfl (by decide) (by decide) (fun b23 => cE Tryz.underlying65 zsb5 rfl (by decide) N1 rfl rfl rfl (news := bM [UInt8.ofNat (48 + j.1 % 10)]) (RdS.row .z) rfl (dS _) (by unfold maxLen; omega) (by omega) (fun A24 c24 => aB rfl rfl (ae (ao (ag (tri_slo [(3,_),(0,_),(4,_)] rfl (aa (ah rfl rfl (o_quoU j.1 10 rfl rfl rfl (by omega) (by decide) (o_assignN rfl rfl ?_)))))))))))))))))))))
   have hnew := pw hi h1
   have hlen : (j.2.1 ++ [UInt8.ofNat (48 + j.1 % 10)]).length = j.2.1.length + 1 := by simp
   exact ⟨(j.1 / 10,j.2.1 ++ [UInt8.ofNat (48 + j.1 % 10)],A24,c24),(.cons rfl (.cons (congrArg (fun k : Nat => some (Value.slice A24 k c24)) hlen.symm) (.cons rfl (.nil _)))),(fun w1 hw1 => by simp only [hlen,dI]; exact hw1.tail),hnew,(by simp only [hlen]; split <;> split <;> omega)⟩
 · skip
   have h1 : ¬ 0 < j.1 ∧ ¬ j.2.1.length = 0 := by simp only [Bool.or_eq_false_iff,decide_eq_false_iff_not] at h1; omega
   have hd := qQ hi h1.1 h1.2
   refine aS (au (au (aG (ag (br (ι := List UInt8 × Option Addr × Nat) (fun q => [(3,.slice q.2.1 q.1.length q.2.2)]) (fun q => [row (.slice q.2.1 q.1.length q.2.2) 5 1 q.1.length (bM q.1)]) (fun q => q.1.length ≤ 20 ∧ q.1.reverse = Lib.itoa n) ?_ (fun q hj => ?_))))))
   · skip
     refine ab (aa (ah rfl rfl (bK rfl rfl rfl (triL_nilN (ar rfl (fun h2 => ?_) (fun h2 => ?_))))))
     · skip
       refine tri_slo [(3,_)] rfl (aa (ah rfl rfl (bF Tryz.underlying65 zs5 rfl rfl rfl rfl rfl (by decide) (by decide) (fun b28 => cE Tryz.underlying65 zsb5 rfl (by decide) N1 rfl rfl rfl (news := bM [45]) (RdS.row .z) rfl (dS _) (by unfold maxLen; omega) (by omega) (fun A29 c29 => o_assignN rfl rfl ?_)))))
       have hlen : (j.2.1 ++ [(45 : UInt8)]).length = j.2.1.length + 1 := by simp
       exact ⟨(j.2.1 ++ [45],A29,c29),(.cons (congrArg (fun k : Nat => some (Value.slice A29 k c29)) hlen.symm) (.nil _)),(fun w1 hw1 => by simp only [hlen,dI]; exact hw1.tail),⟨by simp only [hlen]; omega,by rw [pg h2,hd]; simp⟩⟩
     · skip
       exact am (ag (⟨(j.2.1,j.2.2.1,j.2.2.2),(.cons rfl (.nil _)),fun _ h => h,⟨by simp only; omega,by rw [ph h2,show n.toNat = n.natAbs by omega,hd]⟩⟩))
   refine ab (aa (o_assignN rfl rfl (ab (ab (aa (ah rfl rfl (aN Tryz.underlying65 rfl rfl (jW rfl rfl rfl (by omega) (o_assignN rfl rfl (aw (bf (ι := Nat × Option Addr × Nat) (F := fun i => [(3,.slice q.2.1 q.1.length q.2.2),(5,.slice i.2.1 i.1 i.2.2),(6,.int .i64 ((q.1.length : Int) - 1 - (i.1 : Int)))]) (HH := fun i => [row (.slice i.2.1 i.1 i.2.2) 5 1 i.1 (bM (q.1.reverse.take i.1)),row (.slice q.2.1 q.1.length q.2.2) 5 1 q.1.length (bM q.1)]) (Pu := fun i => i.1 ≤ q.1.length) (μ := fun i => q.1.length - i.1) ((0,none,0)) (.cons rfl (.cons rfl (.cons (congrArg (fun k : Int => some (Value.int .i64 k)) (by simp only; omega)) (.nil _)))) (fun _ h => h.nilRow _ _) (Nat.zero_le _) (fun i hi => ab (ab (aa (ah rfl rfl (gd rfl rfl rfl (triL_nilN (ar rfl (fun h3 => ?_) (fun h3 => ?_)))))))))))))))))))
   · skip
     exact am (ag (ab (aw (aa (ah rfl rfl (ah rfl rfl (ah rfl rfl (aL Tryz.underlying65 sz5 rfl rfl rfl (RdS.row (.s .z)) (by omega) (by omega) (by rw [jN]; omega) (by decide) (aH agg5 rfl rfl (RdS.row (.s .z)) (rd_byte _ (q.1.length - 1 - i.1) (by omega) (by omega)) (bF Tryz.underlying65 zs5 rfl rfl rfl rfl rfl (by decide) (by decide) (fun b42 => cE Tryz.underlying65 zsb5 rfl (by decide) N1 rfl rfl rfl (news := bM [q.1.getD (q.1.length - 1 - i.1) 0]) (RdS.row .z) rfl (dS _) (by unfold maxLen; omega) (by omega) (fun A43 c43 => aB rfl rfl (ae (ao (ag (tri_slo [(5,_),(3,_),(6,_)] rfl (aa (ah rfl rfl (jW rfl rfl rfl (by omega) (o_assignN rfl rfl (⟨(i.1 + 1,A43,c43),(.cons rfl (.cons rfl (.cons (congrArg (fun k : Int => some (Value.int .i64 k)) (by simp only; omega)) (.nil _)))),(fun w1 hw1 => by simp only [rev_snoc q.1 i.1 (by omega),dI]; exact hw1.tail),by simp only; omega,(by simp only; omega)⟩)))))))))))))))))))))
   · skip
     refine aS (au (au (aG (ag (ab (tri_slo [(5,_)] rfl (aa (ah rfl rfl (kn Tryz.underlying65 Tryz.underlying5 Tryz.underlying9 rfl rfl (RdS.row .z) (by rw [List.length_take,List.length_reverse]; omega) (o_assignN rfl rfl (ap (aT rfl rfl ?_))))))))))))
     have hz : i.1 = q.1.length := by omega
     exact fun w1 hw1 => ⟨congrArg (fun b : List UInt8 => Ending.returned (.string (B b))) (by rw [hz,List.take_of_length_le (by simp)]; exact hj.2),hw1.chg⟩
theorem printR (v : Val) (w : World) (f : fit v) : Calls Tryz.prog 77 #[jF v] w (bX w (.tuple #[.string (B (prV v).1),.int .i64 (prV v).2])) := by
 refine ay (args := [jF v]) (lent := []) (H := []) Tryz.func77 rfl Tryz.ntmps77 rfl (Sat.start _ _ _ _) ((show Tri _ [(0,_)] _ _ _ from ?_))
 have fs := f.2
 refine ab (aa (bY (Val.cs _) rfl rfl rfl (fun b1 => aB rfl rfl (o_assignN rfl rfl (ab (ab (aa (jg hY jJ N0 rfl rfl (av (first := []) (cap := []) rfl rfl rfl Tryz.call75 (fun w_ hw_ => mayR _ w_ (by assumption)) (cu rfl rfl (triL_nilN (aE rfl (fun h0 => ?_) (fun h0 => ?_)))))))))))))
 · skip
   have h0 : ¬ may v = true := by simpa using h0
   refine ab (az [] (.nil _) (aa (aB rfl rfl (o_assignN rfl rfl (ap (an (dA rfl rfl rfl ?_))))))); exact fun w1 hw1 => ⟨by have e : prV v = ([],5) := (by rw [prV,if_neg h0]); rw [e] <;> rfl,hw1.chg⟩
 · skip
   have h0 : may v = true := by simpa using h0
   refine am (ag (ab (ab (tri_slo [(1,_)] rfl (aa (aj ga rfl rfl (ak bz N0 rfl rfl rfl (ax rfl rfl rfl (triL_nilN (ar rfl (fun k0 => ?_) (fun k0 => ?_)))))))))))
   · skip
     refine ab (az [] (.nil _) (aa (aB rfl rfl (o_assignN rfl rfl (ap (an (dA rfl rfl rfl ?_))))))); exact fun w1 hw1 => ⟨by have e : prV v = ([110,117,108,108],0) := (by rw [prV,if_pos h0,if_neg (by omega),if_neg (by omega),if_neg (by omega)]); rw [e] <;> rfl,hw1.chg⟩
   · skip
     refine am (ag (ab (ab (aa (aj ga rfl rfl (ak bz N0 rfl rfl rfl (ax rfl rfl rfl (ah rfl rfl ?_))))))))
     refine' aA [_,_,_] [(1,_)] (dj := 15) (dr := 18) rfl rfl (fun g1 => ?_) ⟨_,rfl,rfl,rfl,(.cons rfl (.nil _))⟩ rfl ?_
     rotate_left
     · skip
       exact aj fw rfl rfl (ak lm N0 rfl rfl rfl (ax rfl rfl rfl (ae (Piece.mk rfl rfl (.cons rfl (.nil _)) (fun _ h => h)))))
     refine triL_nilN (aE rfl (fun k2 => ?_) (fun k2 => ?_))
     · skip
       simp only [Bool.and_eq_true,decide_eq_true_eq] at k2
       refine ab (aa (aB rfl rfl (o_assignN rfl rfl (ap (an (dA rfl rfl rfl ?_)))))); exact fun w1 hw1 => ⟨by have e : prV v = ([102,97,108,115,101],0) := (by rw [prV,if_pos h0,if_neg (by omega),if_neg (by omega),if_pos k2.1,if_neg (by omega)]); rw [e] <;> rfl,hw1.chg⟩
     · skip
       simp only [Bool.and_eq_false_iff,decide_eq_false_iff_not] at k2
       refine am (ag (ab (ab (aa (aj ga rfl rfl (ak bz N0 rfl rfl rfl (ax rfl rfl rfl (triL_nilN (ar rfl (fun k3 => ?_) (fun k3 => ?_))))))))))
       · skip
         have hb := pf h0 k3
         have hb1 : v.n = 1 := by omega
         refine ab (az [] (.nil _) (aa (aB rfl rfl (o_assignN rfl rfl (ap (an (dA rfl rfl rfl ?_))))))); exact fun w1 hw1 => ⟨by have e : prV v = ([116,114,117,101],0) := (by rw [prV,if_pos h0,if_neg (by omega),if_neg (by omega),if_pos k3,if_pos hb1]); rw [e] <;> rfl,hw1.chg⟩
       · skip
         refine am (ag (ab (ab (tri_slo [(1,_)] rfl (aa (aj ga rfl rfl (ak bz N0 rfl rfl rfl (ax rfl rfl rfl (triL_nilN (ar rfl (fun k1 => ?_) (fun k1 => ?_)))))))))))
         · skip
           refine ab (aa (aj fw rfl rfl (ak lm N0 rfl rfl rfl (av (first := []) (cap := []) rfl rfl rfl Tryz.call123 (fun w_ hw_ => sG _ w_ (nIn f)) (aB rfl rfl (o_assignN rfl rfl (ap (an (dA rfl rfl rfl ?_))))))))); exact fun w1 hw1 => ⟨by have e : prV v = (Lib.itoa v.n,0) := (by rw [prV,if_pos h0,if_pos k1]); rw [e] <;> rfl,hw1.chg⟩
         · skip
           have kt : v.k = 2 := by have := may_k h0; omega
           have ht := mi h0 kt
           refine am (ag (ab (aa (bF Tryz.underlying65 zs5 rfl rfl rfl rfl rfl (by decide) (by decide) (fun b29 => o_assignN rfl rfl (ab (ab (tri_slo [(4,_),(1,_)] rfl (aa (o_assignN rfl rfl (aw (bf (ι := Nat × Option Addr × Nat) (F := fun i => [(1,.pointer (some ⟨b1,0,none⟩)),(4,.slice i.2.1 (1 + (dbl (v.s.take i.1)).length) i.2.2),(5,.int .i64 ((i.1 : Nat) : Int))]) (HH := fun i => [row (.slice i.2.1 (1 + (dbl (v.s.take i.1)).length) i.2.2) 5 1 (1 + (dbl (v.s.take i.1)).length) (bM (39 :: dbl (v.s.take i.1))),box b1 27 v.cs]) (Pu := fun i => i.1 ≤ v.s.length) (μ := fun i => v.s.length - i.1) ((0,some ⟨b29,0,none⟩,1)) (.cons rfl (.cons rfl (.cons rfl (.nil _)))) (fun _ h => h) (Nat.zero_le _) (fun i hi => ?_)))))))))))))
           have hd := lM (v.s.take i.1)
           have hd2 : (v.s.take i.1).length ≤ i.1 := by simp; omega
           refine ab (ab (aa (ah rfl rfl (aj gN rfl rfl (ak bd N1 rfl rfl rfl (dJ Tryz.underlying9 rfl rfl (bK rfl rfl rfl (triL_nilN (ar rfl (fun h5 => ?_) (fun h5 => ?_))))))))))
           · skip
             refine am (ag (br (ι := Option Addr × Nat) (fun q => [(1,.pointer (some ⟨b1,0,none⟩)),(4,.slice q.1 (1 + (dbl (v.s.take (i.1 + 1))).length) q.2),(5,.int .i64 ((i.1 : Nat) : Int))]) (fun q => [row (.slice q.1 (1 + (dbl (v.s.take (i.1 + 1))).length) q.2) 5 1 (1 + (dbl (v.s.take (i.1 + 1))).length) (bM (39 :: dbl (v.s.take (i.1 + 1)))),box b1 27 v.cs]) (fun q => True) ?_ (fun q hj => ?_)))
             · skip
               refine aw (ab (tri_slo [(1,_),(4,_),(5,_)] rfl (aa (ah rfl rfl (aj gN rfl rfl (ak bd N1 rfl rfl rfl (ah rfl rfl (dB Tryz.underlying9 rfl rfl rfl (by omega) (by omega) (bF Tryz.underlying65 zs5 rfl rfl rfl rfl rfl (by decide) (by decide) (fun b42 => cE Tryz.underlying65 zsb5 rfl (by decide) N1 rfl rfl rfl (news := bM [v.s.getD i.1 0]) (RdS.row .z) rfl (dS _) (by unfold maxLen; omega) (by omega) (fun A43 c43 => o_assignN rfl rfl (ab (tri_slo [(4,_),(1,_),(5,_)] rfl (aa (aj gN rfl rfl (ak bd N2 rfl rfl rfl (ah rfl rfl (dB Tryz.underlying9 rfl rfl rfl (by omega) (by omega) (gX _ 39 rfl rfl rfl (triL_nilN (ar rfl (fun h6 => ?_) (fun h6 => ?_))))))))))))))))))))))
               · skip
                 have h6 : v.s.getD i.1 0 = 39 := h6
                 refine tri_slo [(4,_),(1,_),(5,_)] rfl (aa (ah rfl rfl (bF Tryz.underlying65 zs5 rfl rfl rfl rfl rfl (by decide) (by decide) (fun b50 => cE Tryz.underlying65 zsb5 rfl (by decide) N2 rfl rfl rfl (news := bM [39]) (RdS.row .z) rfl (dS _) (by unfold maxLen; omega) (by omega) (fun A51 c51 => aB rfl rfl (ae (ao (ag ?_))))))))
                 have es := px v.s i.1 (by omega)
                 rw [if_pos h6] at es
                 have el : (dbl (v.s.take (i.1 + 1))).length = (dbl (v.s.take i.1)).length + 2 := by rw [es]; simp
                 have ec : bM (39 :: dbl (v.s.take (i.1 + 1))) = bM (39 :: dbl (v.s.take i.1)) ++ bM [v.s.getD i.1 0] ++ bM [39] := by rw [es,h6]; simp [bM]
                 exact ⟨(A51,c51),(.cons rfl (.cons (congrArg (fun k : Nat => some (Value.slice A51 k c51)) (by rw [el]; omega)) (.cons rfl (.nil _)))),(fun w1 hw1 => by simp only [el,ec]; exact hw1.tail.tail),trivial⟩
               · skip
                 have h6 : ¬ v.s.getD i.1 0 = 39 := h6
                 refine am (ao (ag ?_))
                 have es := px v.s i.1 (by omega)
                 rw [if_neg h6] at es
                 have el : (dbl (v.s.take (i.1 + 1))).length = (dbl (v.s.take i.1)).length + 1 := by rw [es]; simp
                 have ec : bM (39 :: dbl (v.s.take (i.1 + 1))) = bM (39 :: dbl (v.s.take i.1)) ++ bM [v.s.getD i.1 0] := by rw [es]; simp [bM]
                 exact ⟨(A43,c43),(.cons rfl (.cons (congrArg (fun k : Nat => some (Value.slice A43 k c43)) (by rw [el]; omega)) (.cons rfl (.nil _)))),(fun w1 hw1 => by simp only [el,ec]; exact hw1.tail),trivial⟩
             exact aa (ah rfl rfl (bn rfl rfl rfl (by omega) (o_assignN rfl rfl (⟨(i.1 + 1,q.1,q.2),(.cons rfl (.cons rfl (.cons rfl (.nil _)))),fun _ h => h,by simp only; omega,(by simp only; omega)⟩))))
           · skip
             have hz : v.s.take i.1 = v.s := List.take_of_length_le (by omega)
             refine aS (au (au (aG (ag (ab (tri_slo [(4,_)] rfl (aa (ah rfl rfl (bF Tryz.underlying65 zs5 rfl rfl rfl rfl rfl (by decide) (by decide) (fun b53 => cE Tryz.underlying65 zsb5 rfl (by decide) N1 rfl rfl rfl (news := bM [39]) (RdS.row .z) rfl (dS _) (by unfold maxLen; omega) (by omega) (fun A54 c54 => kn (l := 39 :: (dbl (v.s.take i.1) ++ [39])) Tryz.underlying65 Tryz.underlying5 Tryz.underlying9 rfl rfl (by rw [show bM (39 :: (dbl (v.s.take i.1) ++ [39])) = bM (39 :: dbl (v.s.take i.1)) ++ bM [39] by simp [bM]]; exact RdS.row (.s .z)) (by simp; omega) (aB rfl rfl (o_assignN rfl rfl (ap (dA rfl rfl rfl ?_))))))))))))))); exact fun w1 hw1 => ⟨by have e : prV v = (39 :: (dbl (v.s.take i.1) ++ [39]),0) := (by rw [prV,if_pos h0,if_neg k1,if_pos kt,hz]); rw [e] <;> rfl,hw1.chg⟩
end Go.Proofs.YtjbpkcbefmpfgaaGreatDoor
namespace Go.Proofs.YtjbpkcbefmpfgaaGreatDoor
open Go.WK Go.RowKit 
theorem oJ : bH Tryz.prog 67 0 = some 0 := by kernel_rfl
theorem agg65 : cG Tryz.prog 65 = some false := by kernel_rfl
theorem sz65 : szB Tryz.prog 65 = some 1 := by kernel_rfl
theorem rn : bH Tryz.prog 67 1 = some 1 := by kernel_rfl
theorem ro : bH Tryz.prog 67 2 = some 2 := by kernel_rfl
theorem rq : (Tryz.prog.info? 176).map (fun i => (i.zero,i.size,i.bytes)) = some (some (.agg #[.int .i64 0,.string .empty,.int .i64 0]),3,32) := by kernel_rfl
theorem cV (ss : List (List UInt8)) (X : Option Addr) (cx0 : Nat) (pb : Nat) (A : Option Addr) (c : Nat) (l : List UInt8) (d m : Int) (w : World) (hP : gq w pb A c l d m) (hx : Rd w X (dm ss)) (hxn : ∀ a,X = some a → a.block ∉ prL pb A) (hb : l.length + ss.flatten.length ≤ 70368744177664) (hs : ss.length ≤ 1000) : Calls Tryz.prog 20 #[.pointer (some ⟨pb,0,none⟩),.slice X ss.length cx0] w (PrT w pb A (l ++ ss.flatten) (d) (m)) := by
 refine ay (args := [.pointer (some ⟨pb,0,none⟩),.slice X ss.length cx0]) (lent := prL pb A) (H := prD pb A c l d m) Tryz.func20 rfl Tryz.ntmps20 rfl (Sat.cx hP) ((show Tri _ [(0,_),(1,_)] _ _ _ from ?_))
 have hX : ∀ cx H,cx.w0 = w → cx.lent = prL pb A → RdS cx H X (dm ss) := fun cx H q1 q2 => RdS.lent (by rw [q1]; exact hx) (fun b hb => by rw [q2]; exact hxn b hb)
 refine ab (aa (ah rfl rfl (aN Tryz.underlying23 rfl rfl (ah rfl rfl (triL_nilN (aw (bf (ι := Nat × Option Addr × Nat) (F := fun i => [(0,.pointer (some ⟨pb,0,none⟩)),(6,.slice X ss.length cx0),(7,.int .i64 (ss.length : Int)),(8,.int .i64 (i.1 : Int))]) (HH := fun i => prD pb i.2.1 i.2.2 (l ++ (ss.take i.1).flatten) d m) (Pu := fun i => i.1 ≤ ss.length) (μ := fun i => ss.length - i.1) ((0,A,c)) (.cons rfl (.cons rfl (.cons rfl (.cons rfl (.nil _))))) (fun w2 hw2 => by simpa using hw2) (Nat.zero_le _) (fun i hi => ab (aa (bK rfl rfl rfl (triL_nilN (ab (ar rfl (fun h0 => ?_) (fun h0 => ?_))))))))))))))
 · skip
   have hil : i.1 < ss.length := by omega
   refine am (ag (ab (aw (ab (aa (aL Tryz.underlying23 sz9 rfl rfl rfl (hX _ _ rfl rfl) (by omega) (by omega) (by rw [kz]; omega) (by decide) (aH bd rfl rfl (hX _ _ rfl rfl) (ix ss i.1 _ (by omega) hil) (o_assignN rfl rfl ?_))))))))
   have hfl := flat_le ss i.1 hil
   refine aa (ah rfl rfl (ah rfl rfl (aM rfl rfl (aj oJ rfl rfl (ak agg65 N0 rfl rfl rfl (ah rfl rfl (tt Tryz.underlying65 Tryz.underlying9 zsb5 (.s .z) rfl rfl rfl (by simp only [List.length_append]; omega) (fun A18 c18 => aM rfl rfl (aj oJ rfl rfl (aO sz65 N0 rfl rfl rfl rfl rfl (Nat.le_of_ble_eq_true rfl) rfl (ae (ao (ag (tri_slo [(0,_),(6,_),(7,_),(8,_)] rfl (aa (bn rfl rfl rfl (by omega) (ah rfl rfl (triL_nilN ?_))))))))))))))))))
   exact ⟨(i.1 + 1,A18,c18),(.cons rfl (.cons rfl (.cons rfl (.cons rfl (.nil _))))),(fun w2 hw2 => by
 show Sat _ (prD pb A18 c18 (l ++ (ss.take (i.1 + 1)).flatten) d m) w2
 rw [nH ss i.1 hil, ← List.append_assoc]
 have e := prD_app (H := []) hw2
 simpa using e),by simp only; omega,(by simp only; omega)⟩
 · skip
   exact aS (au (au (aG (cv rfl (bG (J := Option Addr × Nat) ((i.2.1,i.2.2)) rfl trivial (fun w2 hw2 => cj (by rw [List.take_of_length_le (by omega)]) rfl rfl hw2))))))
theorem mW (n : Int) (pb : Nat) (A : Option Addr) (c : Nat) (l : List UInt8) (d m : Int) (w : World) (hP : gq w pb A c l d m) (hn : -1 ≤ n ∧ n ≤ 1) (hd : 0 ≤ d ∧ d ≤ 140737488355328) : Calls Tryz.prog 57 #[.pointer (some ⟨pb,0,none⟩),.int .i64 n] w (PrT w pb A (l) (d + n) (max m (d + n))) := by
 refine ay (args := [.pointer (some ⟨pb,0,none⟩),.int .i64 n]) (lent := prL pb A) (H := prD pb A c l d m) Tryz.func57 rfl Tryz.ntmps57 rfl (Sat.cx hP) ((show Tri _ [(0,_),(1,_)] _ _ _ from ab (aa (ah rfl rfl (aM rfl rfl (aj rn rfl rfl (ak bz N0 rfl rfl rfl (ah rfl rfl (bn rfl rfl rfl (by omega) (aM rfl rfl (aj rn rfl rfl (aO sz3 N0 rfl rfl rfl rfl rfl (Nat.le_of_ble_eq_true rfl) rfl (triL_nilN (tri_slo [(0,_)] rfl (bj (_) [(0,true),(1,true),(2,true),(3,true),(4,true),(5,true),(6,true),(7,true),(8,true),(9,true),(10,false),(11,false),(12,false)] [10,11,12] (by kernel_rfl) (by kernel_rfl) (fun _ h => h) (ai rfl (ah rfl rfl (ae ⟨rfl,ai rfl (ah rfl rfl (ae ⟨rfl,ai rfl (aM rfl rfl (ae ⟨rfl,ai rfl (aj ro rfl rfl (ae ⟨rfl,ai rfl (ak bz N0 rfl rfl rfl (ae ⟨rfl,ai rfl (ah rfl rfl (ae ⟨rfl,ai rfl (aM rfl rfl (ae ⟨rfl,ai rfl (aj rn rfl rfl (ae ⟨rfl,ai rfl (ak bz N0 rfl rfl rfl (ae ⟨rfl,ai rfl (o_max rfl rfl rfl (ae ⟨rfl,(bu [10,11,12] [_,_,_] rfl rfl (aM rfl rfl (aj ro rfl rfl (aO sz3 N0 rfl rfl rfl rfl rfl (Nat.le_of_ble_eq_true rfl) rfl ?_))))⟩))⟩))⟩))⟩))⟩))⟩))⟩))⟩))⟩))⟩)))))))))))))))))); exact ae ⟨rfl,(cv rfl (bG (J := Option Addr × Nat) ((A,c)) rfl trivial (fun w2 hw2 => hw2)))⟩
set_option maxHeartbeats 2000000 in
theorem levelK (o : Int) (w : World)  : Calls Tryz.prog 56 #[.int .i64 o] w (bX w (.int .i64 (lvl o))) := by
 refine ay (args := [.int .i64 o]) (lent := []) (H := []) Tryz.func56 rfl Tryz.ntmps56 rfl (Sat.start _ _ _ _) ((show Tri _ [(0,_)] _ _ _ from ab (aa (o_assignN rfl rfl (ab (ab (aa (ah rfl rfl (triL_nilN (aw (ab (aa (ax rfl rfl rfl (o_assignN rfl rfl (ar rfl (fun h1 => ?_) (fun h1 => ?_))))))))))))))))
 · skip
   refine ab (az [] (.nil _) (aa (o_assignN rfl rfl (ap (aq (an (aT rfl rfl ?_))))))); exact fun w1 hw1 => ⟨congrArg (fun b => Ending.returned (.int .i64 b)) (by unfold lvl; (repeat' split) <;> omega),hw1.chg⟩
 · skip
   refine ab (tri_slo [(3,_)] rfl (aa (ax rfl rfl rfl (o_assignN rfl rfl (ar rfl (fun h2 => ?_) (fun h2 => ?_))))))
   · skip
     refine ab (aa (o_assignN rfl rfl (ap (aq (an (aT rfl rfl ?_)))))); exact fun w1 hw1 => ⟨congrArg (fun b => Ending.returned (.int .i64 b)) (by unfold lvl; (repeat' split) <;> omega),hw1.chg⟩
   · skip
     refine ab (aa (ax rfl rfl rfl (o_assignN rfl rfl (ar rfl (fun h3 => ?_) (fun h3 => ?_)))))
     · skip
       refine ab (az [] (.nil _) (aa (o_assignN rfl rfl (ap (aq (an (aT rfl rfl ?_))))))); exact fun w1 hw1 => ⟨congrArg (fun b => Ending.returned (.int .i64 b)) (by unfold lvl; (repeat' split) <;> omega),hw1.chg⟩
     · skip
       refine ab (ab (tri_slo [(3,_)] rfl (aa (ax rfl rfl rfl (o_assignN rfl rfl (ar rfl (fun h4 => ?_) (fun h4 => ?_)))))))
       · skip
         refine am (ag (ar rfl (fun h5 => ?_) (fun h5 => ?_)))
         · skip
           refine ab (aa (o_assignN rfl rfl (ap (aq (an (aT rfl rfl ?_)))))); exact fun w1 hw1 => ⟨congrArg (fun b => Ending.returned (.int .i64 b)) (by unfold lvl; (repeat' split) <;> omega),hw1.chg⟩
         · skip
           refine ab (ab (aa (ax rfl rfl rfl (o_assignN rfl rfl (ar rfl (fun h6 => ?_) (fun h6 => ?_))))))
           · skip
             refine am (ag (ar rfl (fun h7 => ?_) (fun h7 => ?_)))
             · skip
               refine ab (az [] (.nil _) (aa (o_assignN rfl rfl (ap (aq (an (aT rfl rfl ?_))))))); exact fun w1 hw1 => ⟨congrArg (fun b => Ending.returned (.int .i64 b)) (by unfold lvl; (repeat' split) <;> omega),hw1.chg⟩
             · skip
               refine ab (tri_slo [(3,_)] rfl (aa (ax rfl rfl rfl (o_assignN rfl rfl (ar rfl (fun h8 => ?_) (fun h8 => ?_))))))
               · skip
                 refine ab (aa (o_assignN rfl rfl (ap (aq (an (aT rfl rfl ?_)))))); exact fun w1 hw1 => ⟨congrArg (fun b => Ending.returned (.int .i64 b)) (by unfold lvl; (repeat' split) <;> omega),hw1.chg⟩
               · skip
                 refine ab (ab (aa (ax rfl rfl rfl (o_assignN rfl rfl (ar rfl (fun h9 => ?_) (fun h9 => ?_))))))
                 · skip
                   refine am (ag (ar rfl (fun h10 => ?_) (fun h10 => ?_)))
                   · skip
                     refine ab (az [] (.nil _) (aa (o_assignN rfl rfl (ap (aq (an (aT rfl rfl ?_))))))); exact fun w1 hw1 => ⟨congrArg (fun b => Ending.returned (.int .i64 b)) (by unfold lvl; (repeat' split) <;> omega),hw1.chg⟩
                   · skip
                     refine am (ao (ag (ab (az [] (.nil _) (aa (o_assignN rfl rfl (ap (aT rfl rfl ?_)))))))); exact fun w1 hw1 => ⟨congrArg (fun b => Ending.returned (.int .i64 b)) (by unfold lvl; (repeat' split) <;> omega),hw1.chg⟩
                 · skip
                   refine tri_slo [(3,_)] rfl (aa (ax rfl rfl rfl (o_assignN rfl rfl (ar rfl (fun h11 => ?_) (fun h11 => ?_)))))
                   · skip
                     refine ab (aa (o_assignN rfl rfl (ap (aq (an (aT rfl rfl ?_)))))); exact fun w1 hw1 => ⟨congrArg (fun b => Ending.returned (.int .i64 b)) (by unfold lvl; (repeat' split) <;> omega),hw1.chg⟩
                   · skip
                     refine am (ao (ag (ab (aa (o_assignN rfl rfl (ap (aT rfl rfl ?_))))))); exact fun w1 hw1 => ⟨congrArg (fun b => Ending.returned (.int .i64 b)) (by unfold lvl; (repeat' split) <;> omega),hw1.chg⟩
           · skip
             refine ab (tri_slo [(3,_)] rfl (aa (ax rfl rfl rfl (o_assignN rfl rfl (ar rfl (fun h12 => ?_) (fun h12 => ?_))))))
             · skip
               refine am (ag (ar rfl (fun h13 => ?_) (fun h13 => ?_)))
               · skip
                 refine ab (aa (o_assignN rfl rfl (ap (aq (an (aT rfl rfl ?_)))))); exact fun w1 hw1 => ⟨congrArg (fun b => Ending.returned (.int .i64 b)) (by unfold lvl; (repeat' split) <;> omega),hw1.chg⟩
               · skip
                 refine ab (aa (ax rfl rfl rfl (o_assignN rfl rfl (ar rfl (fun h14 => ?_) (fun h14 => ?_)))))
                 · skip
                   refine ab (az [] (.nil _) (aa (o_assignN rfl rfl (ap (aq (an (aT rfl rfl ?_))))))); exact fun w1 hw1 => ⟨congrArg (fun b => Ending.returned (.int .i64 b)) (by unfold lvl; (repeat' split) <;> omega),hw1.chg⟩
                 · skip
                   refine ab (ab (tri_slo [(3,_)] rfl (aa (ax rfl rfl rfl (o_assignN rfl rfl (ar rfl (fun h15 => ?_) (fun h15 => ?_)))))))
                   · skip
                     refine am (ag (ar rfl (fun h16 => ?_) (fun h16 => ?_)))
                     · skip
                       refine ab (aa (o_assignN rfl rfl (ap (aq (an (aT rfl rfl ?_)))))); exact fun w1 hw1 => ⟨congrArg (fun b => Ending.returned (.int .i64 b)) (by unfold lvl; (repeat' split) <;> omega),hw1.chg⟩
                     · skip
                       refine am (ao (ag (ab (aa (o_assignN rfl rfl (ap (aT rfl rfl ?_))))))); exact fun w1 hw1 => ⟨congrArg (fun b => Ending.returned (.int .i64 b)) (by unfold lvl; (repeat' split) <;> omega),hw1.chg⟩
                   · skip
                     refine aa (ax rfl rfl rfl (o_assignN rfl rfl (ar rfl (fun h17 => ?_) (fun h17 => ?_))))
                     · skip
                       refine ab (az [] (.nil _) (aa (o_assignN rfl rfl (ap (aq (an (aT rfl rfl ?_))))))); exact fun w1 hw1 => ⟨congrArg (fun b => Ending.returned (.int .i64 b)) (by unfold lvl; (repeat' split) <;> omega),hw1.chg⟩
                     · skip
                       refine am (ao (ag (ab (az [] (.nil _) (aa (o_assignN rfl rfl (ap (aT rfl rfl ?_)))))))); exact fun w1 hw1 => ⟨congrArg (fun b => Ending.returned (.int .i64 b)) (by unfold lvl; (repeat' split) <;> omega),hw1.chg⟩
             · skip
               refine aa (ax rfl rfl rfl (o_assignN rfl rfl (ar rfl (fun h18 => ?_) (fun h18 => ?_))))
               · skip
                 refine ab (az [] (.nil _) (aa (o_assignN rfl rfl (ap (aq (an (aT rfl rfl ?_))))))); exact fun w1 hw1 => ⟨congrArg (fun b => Ending.returned (.int .i64 b)) (by unfold lvl; (repeat' split) <;> omega),hw1.chg⟩
               · skip
                 refine ab (aa (ax rfl rfl rfl (o_assignN rfl rfl (ar rfl (fun h19 => ?_) (fun h19 => ?_)))))
                 · skip
                   refine ab (az [] (.nil _) (aa (o_assignN rfl rfl (ap (aq (an (aT rfl rfl ?_))))))); exact fun w1 hw1 => ⟨congrArg (fun b => Ending.returned (.int .i64 b)) (by unfold lvl; (repeat' split) <;> omega),hw1.chg⟩
                 · skip
                   refine ab (ab (tri_slo [(3,_)] rfl (aa (ax rfl rfl rfl (o_assignN rfl rfl (ar rfl (fun h20 => ?_) (fun h20 => ?_)))))))
                   · skip
                     refine am (ag (ar rfl (fun h21 => ?_) (fun h21 => ?_)))
                     · skip
                       refine ab (aa (o_assignN rfl rfl (ap (aq (an (aT rfl rfl ?_)))))); exact fun w1 hw1 => ⟨congrArg (fun b => Ending.returned (.int .i64 b)) (by unfold lvl; (repeat' split) <;> omega),hw1.chg⟩
                     · skip
                       refine am (ao (ag (ab (aa (o_assignN rfl rfl (ap (aT rfl rfl ?_))))))); exact fun w1 hw1 => ⟨congrArg (fun b => Ending.returned (.int .i64 b)) (by unfold lvl; (repeat' split) <;> omega),hw1.chg⟩
                   · skip
                     refine aa (ax rfl rfl rfl (o_assignN rfl rfl (ar rfl (fun h22 => ?_) (fun h22 => ?_))))
                     · skip
                       refine ab (az [] (.nil _) (aa (o_assignN rfl rfl (ap (aq (an (aT rfl rfl ?_))))))); exact fun w1 hw1 => ⟨congrArg (fun b => Ending.returned (.int .i64 b)) (by unfold lvl; (repeat' split) <;> omega),hw1.chg⟩
                     · skip
                       refine am (ao (ag (ab (az [] (.nil _) (aa (o_assignN rfl rfl (ap (aT rfl rfl ?_)))))))); exact fun w1 hw1 => ⟨congrArg (fun b => Ending.returned (.int .i64 b)) (by unfold lvl; (repeat' split) <;> omega),hw1.chg⟩
       · skip
         refine ab (aa (ax rfl rfl rfl (o_assignN rfl rfl (ar rfl (fun h23 => ?_) (fun h23 => ?_)))))
         · skip
           refine am (ag (ar rfl (fun h24 => ?_) (fun h24 => ?_)))
           · skip
             refine ab (az [] (.nil _) (aa (o_assignN rfl rfl (ap (aq (an (aT rfl rfl ?_))))))); exact fun w1 hw1 => ⟨congrArg (fun b => Ending.returned (.int .i64 b)) (by unfold lvl; (repeat' split) <;> omega),hw1.chg⟩
           · skip
             refine ab (ab (aa (ax rfl rfl rfl (o_assignN rfl rfl (ar rfl (fun h25 => ?_) (fun h25 => ?_))))))
             · skip
               refine am (ag (ar rfl (fun h26 => ?_) (fun h26 => ?_)))
               · skip
                 refine ab (az [] (.nil _) (aa (o_assignN rfl rfl (ap (aq (an (aT rfl rfl ?_))))))); exact fun w1 hw1 => ⟨congrArg (fun b => Ending.returned (.int .i64 b)) (by unfold lvl; (repeat' split) <;> omega),hw1.chg⟩
               · skip
                 refine ab (tri_slo [(3,_)] rfl (aa (ax rfl rfl rfl (o_assignN rfl rfl (ar rfl (fun h27 => ?_) (fun h27 => ?_))))))
                 · skip
                   refine ab (aa (o_assignN rfl rfl (ap (aq (an (aT rfl rfl ?_)))))); exact fun w1 hw1 => ⟨congrArg (fun b => Ending.returned (.int .i64 b)) (by unfold lvl; (repeat' split) <;> omega),hw1.chg⟩
                 · skip
                   refine ab (ab (aa (ax rfl rfl rfl (o_assignN rfl rfl (ar rfl (fun h28 => ?_) (fun h28 => ?_))))))
                   · skip
                     refine am (ag (ar rfl (fun h29 => ?_) (fun h29 => ?_)))
                     · skip
                       refine ab (az [] (.nil _) (aa (o_assignN rfl rfl (ap (aq (an (aT rfl rfl ?_))))))); exact fun w1 hw1 => ⟨congrArg (fun b => Ending.returned (.int .i64 b)) (by unfold lvl; (repeat' split) <;> omega),hw1.chg⟩
                     · skip
                       refine am (ao (ag (ab (az [] (.nil _) (aa (o_assignN rfl rfl (ap (aT rfl rfl ?_)))))))); exact fun w1 hw1 => ⟨congrArg (fun b => Ending.returned (.int .i64 b)) (by unfold lvl; (repeat' split) <;> omega),hw1.chg⟩
                   · skip
                     refine tri_slo [(3,_)] rfl (aa (ax rfl rfl rfl (o_assignN rfl rfl (ar rfl (fun h30 => ?_) (fun h30 => ?_)))))
                     · skip
                       refine ab (aa (o_assignN rfl rfl (ap (aq (an (aT rfl rfl ?_)))))); exact fun w1 hw1 => ⟨congrArg (fun b => Ending.returned (.int .i64 b)) (by unfold lvl; (repeat' split) <;> omega),hw1.chg⟩
                     · skip
                       refine am (ao (ag (ab (aa (o_assignN rfl rfl (ap (aT rfl rfl ?_))))))); exact fun w1 hw1 => ⟨congrArg (fun b => Ending.returned (.int .i64 b)) (by unfold lvl; (repeat' split) <;> omega),hw1.chg⟩
             · skip
               refine ab (tri_slo [(3,_)] rfl (aa (ax rfl rfl rfl (o_assignN rfl rfl (ar rfl (fun h31 => ?_) (fun h31 => ?_))))))
               · skip
                 refine am (ag (ar rfl (fun h32 => ?_) (fun h32 => ?_)))
                 · skip
                   refine ab (aa (o_assignN rfl rfl (ap (aq (an (aT rfl rfl ?_)))))); exact fun w1 hw1 => ⟨congrArg (fun b => Ending.returned (.int .i64 b)) (by unfold lvl; (repeat' split) <;> omega),hw1.chg⟩
                 · skip
                   refine ab (aa (ax rfl rfl rfl (o_assignN rfl rfl (ar rfl (fun h33 => ?_) (fun h33 => ?_)))))
                   · skip
                     refine ab (az [] (.nil _) (aa (o_assignN rfl rfl (ap (aq (an (aT rfl rfl ?_))))))); exact fun w1 hw1 => ⟨congrArg (fun b => Ending.returned (.int .i64 b)) (by unfold lvl; (repeat' split) <;> omega),hw1.chg⟩
                   · skip
                     refine ab (ab (tri_slo [(3,_)] rfl (aa (ax rfl rfl rfl (o_assignN rfl rfl (ar rfl (fun h34 => ?_) (fun h34 => ?_)))))))
                     · skip
                       refine am (ag (ar rfl (fun h35 => ?_) (fun h35 => ?_)))
                       · skip
                         refine ab (aa (o_assignN rfl rfl (ap (aq (an (aT rfl rfl ?_)))))); exact fun w1 hw1 => ⟨congrArg (fun b => Ending.returned (.int .i64 b)) (by unfold lvl; (repeat' split) <;> omega),hw1.chg⟩
                       · skip
                         refine am (ao (ag (ab (aa (o_assignN rfl rfl (ap (aT rfl rfl ?_))))))); exact fun w1 hw1 => ⟨congrArg (fun b => Ending.returned (.int .i64 b)) (by unfold lvl; (repeat' split) <;> omega),hw1.chg⟩
                     · skip
                       refine aa (ax rfl rfl rfl (o_assignN rfl rfl (ar rfl (fun h36 => ?_) (fun h36 => ?_))))
                       · skip
                         refine ab (az [] (.nil _) (aa (o_assignN rfl rfl (ap (aq (an (aT rfl rfl ?_))))))); exact fun w1 hw1 => ⟨congrArg (fun b => Ending.returned (.int .i64 b)) (by unfold lvl; (repeat' split) <;> omega),hw1.chg⟩
                       · skip
                         refine am (ao (ag (ab (az [] (.nil _) (aa (o_assignN rfl rfl (ap (aT rfl rfl ?_)))))))); exact fun w1 hw1 => ⟨congrArg (fun b => Ending.returned (.int .i64 b)) (by unfold lvl; (repeat' split) <;> omega),hw1.chg⟩
               · skip
                 refine aa (ax rfl rfl rfl (o_assignN rfl rfl (ar rfl (fun h37 => ?_) (fun h37 => ?_))))
                 · skip
                   refine ab (az [] (.nil _) (aa (o_assignN rfl rfl (ap (aq (an (aT rfl rfl ?_))))))); exact fun w1 hw1 => ⟨congrArg (fun b => Ending.returned (.int .i64 b)) (by unfold lvl; (repeat' split) <;> omega),hw1.chg⟩
                 · skip
                   refine ab (aa (ax rfl rfl rfl (o_assignN rfl rfl (ar rfl (fun h38 => ?_) (fun h38 => ?_)))))
                   · skip
                     refine ab (az [] (.nil _) (aa (o_assignN rfl rfl (ap (aq (an (aT rfl rfl ?_))))))); exact fun w1 hw1 => ⟨congrArg (fun b => Ending.returned (.int .i64 b)) (by unfold lvl; (repeat' split) <;> omega),hw1.chg⟩
                   · skip
                     refine ab (ab (tri_slo [(3,_)] rfl (aa (ax rfl rfl rfl (o_assignN rfl rfl (ar rfl (fun h39 => ?_) (fun h39 => ?_)))))))
                     · skip
                       refine am (ag (ar rfl (fun h40 => ?_) (fun h40 => ?_)))
                       · skip
                         refine ab (aa (o_assignN rfl rfl (ap (aq (an (aT rfl rfl ?_)))))); exact fun w1 hw1 => ⟨congrArg (fun b => Ending.returned (.int .i64 b)) (by unfold lvl; (repeat' split) <;> omega),hw1.chg⟩
                       · skip
                         refine am (ao (ag (ab (aa (o_assignN rfl rfl (ap (aT rfl rfl ?_))))))); exact fun w1 hw1 => ⟨congrArg (fun b => Ending.returned (.int .i64 b)) (by unfold lvl; (repeat' split) <;> omega),hw1.chg⟩
                     · skip
                       refine aa (ax rfl rfl rfl (o_assignN rfl rfl (ar rfl (fun h41 => ?_) (fun h41 => ?_))))
                       · skip
                         refine ab (az [] (.nil _) (aa (o_assignN rfl rfl (ap (aq (an (aT rfl rfl ?_))))))); exact fun w1 hw1 => ⟨congrArg (fun b => Ending.returned (.int .i64 b)) (by unfold lvl; (repeat' split) <;> omega),hw1.chg⟩
                       · skip
                         refine am (ao (ag (ab (az [] (.nil _) (aa (o_assignN rfl rfl (ap (aT rfl rfl ?_)))))))); exact fun w1 hw1 => ⟨congrArg (fun b => Ending.returned (.int .i64 b)) (by unfold lvl; (repeat' split) <;> omega),hw1.chg⟩
         · skip
           refine aa (ax rfl rfl rfl (o_assignN rfl rfl (ar rfl (fun h42 => ?_) (fun h42 => ?_))))
           · skip
             refine ab (az [] (.nil _) (aa (o_assignN rfl rfl (ap (aq (an (aT rfl rfl ?_))))))); exact fun w1 hw1 => ⟨congrArg (fun b => Ending.returned (.int .i64 b)) (by unfold lvl; (repeat' split) <;> omega),hw1.chg⟩
           · skip
             refine ab (ab (tri_slo [(3,_)] rfl (aa (ax rfl rfl rfl (o_assignN rfl rfl (ar rfl (fun h43 => ?_) (fun h43 => ?_)))))))
             · skip
               refine am (ag (ar rfl (fun h44 => ?_) (fun h44 => ?_)))
               · skip
                 refine ab (aa (o_assignN rfl rfl (ap (aq (an (aT rfl rfl ?_)))))); exact fun w1 hw1 => ⟨congrArg (fun b => Ending.returned (.int .i64 b)) (by unfold lvl; (repeat' split) <;> omega),hw1.chg⟩
               · skip
                 refine ab (aa (ax rfl rfl rfl (o_assignN rfl rfl (ar rfl (fun h45 => ?_) (fun h45 => ?_)))))
                 · skip
                   refine ab (az [] (.nil _) (aa (o_assignN rfl rfl (ap (aq (an (aT rfl rfl ?_))))))); exact fun w1 hw1 => ⟨congrArg (fun b => Ending.returned (.int .i64 b)) (by unfold lvl; (repeat' split) <;> omega),hw1.chg⟩
                 · skip
                   refine ab (ab (tri_slo [(3,_)] rfl (aa (ax rfl rfl rfl (o_assignN rfl rfl (ar rfl (fun h46 => ?_) (fun h46 => ?_)))))))
                   · skip
                     refine am (ag (ar rfl (fun h47 => ?_) (fun h47 => ?_)))
                     · skip
                       refine ab (aa (o_assignN rfl rfl (ap (aq (an (aT rfl rfl ?_)))))); exact fun w1 hw1 => ⟨congrArg (fun b => Ending.returned (.int .i64 b)) (by unfold lvl; (repeat' split) <;> omega),hw1.chg⟩
                     · skip
                       refine am (ao (ag (ab (aa (o_assignN rfl rfl (ap (aT rfl rfl ?_))))))); exact fun w1 hw1 => ⟨congrArg (fun b => Ending.returned (.int .i64 b)) (by unfold lvl; (repeat' split) <;> omega),hw1.chg⟩
                   · skip
                     refine aa (ax rfl rfl rfl (o_assignN rfl rfl (ar rfl (fun h48 => ?_) (fun h48 => ?_))))
                     · skip
                       refine ab (az [] (.nil _) (aa (o_assignN rfl rfl (ap (aq (an (aT rfl rfl ?_))))))); exact fun w1 hw1 => ⟨congrArg (fun b => Ending.returned (.int .i64 b)) (by unfold lvl; (repeat' split) <;> omega),hw1.chg⟩
                     · skip
                       refine am (ao (ag (ab (az [] (.nil _) (aa (o_assignN rfl rfl (ap (aT rfl rfl ?_)))))))); exact fun w1 hw1 => ⟨congrArg (fun b => Ending.returned (.int .i64 b)) (by unfold lvl; (repeat' split) <;> omega),hw1.chg⟩
             · skip
               refine ab (aa (ax rfl rfl rfl (o_assignN rfl rfl (ar rfl (fun h49 => ?_) (fun h49 => ?_)))))
               · skip
                 refine am (ag (ar rfl (fun h50 => ?_) (fun h50 => ?_)))
                 · skip
                   refine ab (az [] (.nil _) (aa (o_assignN rfl rfl (ap (aq (an (aT rfl rfl ?_))))))); exact fun w1 hw1 => ⟨congrArg (fun b => Ending.returned (.int .i64 b)) (by unfold lvl; (repeat' split) <;> omega),hw1.chg⟩
                 · skip
                   refine ab (aa (ax rfl rfl rfl (o_assignN rfl rfl (ar rfl (fun h51 => ?_) (fun h51 => ?_)))))
                   · skip
                     refine ab (az [] (.nil _) (aa (o_assignN rfl rfl (ap (aq (an (aT rfl rfl ?_))))))); exact fun w1 hw1 => ⟨congrArg (fun b => Ending.returned (.int .i64 b)) (by unfold lvl; (repeat' split) <;> omega),hw1.chg⟩
                   · skip
                     refine ab (ab (tri_slo [(3,_)] rfl (aa (ax rfl rfl rfl (o_assignN rfl rfl (ar rfl (fun h52 => ?_) (fun h52 => ?_)))))))
                     · skip
                       refine am (ag (ar rfl (fun h53 => ?_) (fun h53 => ?_)))
                       · skip
                         refine ab (aa (o_assignN rfl rfl (ap (aq (an (aT rfl rfl ?_)))))); exact fun w1 hw1 => ⟨congrArg (fun b => Ending.returned (.int .i64 b)) (by unfold lvl; (repeat' split) <;> omega),hw1.chg⟩
                       · skip
                         refine am (ao (ag (ab (aa (o_assignN rfl rfl (ap (aT rfl rfl ?_))))))); exact fun w1 hw1 => ⟨congrArg (fun b => Ending.returned (.int .i64 b)) (by unfold lvl; (repeat' split) <;> omega),hw1.chg⟩
                     · skip
                       refine aa (ax rfl rfl rfl (o_assignN rfl rfl (ar rfl (fun h54 => ?_) (fun h54 => ?_))))
                       · skip
                         refine ab (az [] (.nil _) (aa (o_assignN rfl rfl (ap (aq (an (aT rfl rfl ?_))))))); exact fun w1 hw1 => ⟨congrArg (fun b => Ending.returned (.int .i64 b)) (by unfold lvl; (repeat' split) <;> omega),hw1.chg⟩
                       · skip
                         refine am (ao (ag (ab (az [] (.nil _) (aa (o_assignN rfl rfl (ap (aT rfl rfl ?_)))))))); exact fun w1 hw1 => ⟨congrArg (fun b => Ending.returned (.int .i64 b)) (by unfold lvl; (repeat' split) <;> omega),hw1.chg⟩
               · skip
                 refine aa (ax rfl rfl rfl (o_assignN rfl rfl (ar rfl (fun h55 => ?_) (fun h55 => ?_))))
                 · skip
                   refine ab (az [] (.nil _) (aa (o_assignN rfl rfl (ap (aq (an (aT rfl rfl ?_))))))); exact fun w1 hw1 => ⟨congrArg (fun b => Ending.returned (.int .i64 b)) (by unfold lvl; (repeat' split) <;> omega),hw1.chg⟩
                 · skip
                   refine ab (tri_slo [(3,_)] rfl (aa (ax rfl rfl rfl (o_assignN rfl rfl (ar rfl (fun h56 => ?_) (fun h56 => ?_))))))
                   · skip
                     refine ab (aa (o_assignN rfl rfl (ap (aq (an (aT rfl rfl ?_)))))); exact fun w1 hw1 => ⟨congrArg (fun b => Ending.returned (.int .i64 b)) (by unfold lvl; (repeat' split) <;> omega),hw1.chg⟩
                   · skip
                     refine ab (ab (aa (ax rfl rfl rfl (o_assignN rfl rfl (ar rfl (fun h57 => ?_) (fun h57 => ?_))))))
                     · skip
                       refine am (ag (ar rfl (fun h58 => ?_) (fun h58 => ?_)))
                       · skip
                         refine ab (az [] (.nil _) (aa (o_assignN rfl rfl (ap (aq (an (aT rfl rfl ?_))))))); exact fun w1 hw1 => ⟨congrArg (fun b => Ending.returned (.int .i64 b)) (by unfold lvl; (repeat' split) <;> omega),hw1.chg⟩
                       · skip
                         refine am (ao (ag (ab (az [] (.nil _) (aa (o_assignN rfl rfl (ap (aT rfl rfl ?_)))))))); exact fun w1 hw1 => ⟨congrArg (fun b => Ending.returned (.int .i64 b)) (by unfold lvl; (repeat' split) <;> omega),hw1.chg⟩
                     · skip
                       refine tri_slo [(3,_)] rfl (aa (ax rfl rfl rfl (o_assignN rfl rfl (ar rfl (fun h59 => ?_) (fun h59 => ?_)))))
                       · skip
                         refine ab (aa (o_assignN rfl rfl (ap (aq (an (aT rfl rfl ?_)))))); exact fun w1 hw1 => ⟨congrArg (fun b => Ending.returned (.int .i64 b)) (by unfold lvl; (repeat' split) <;> omega),hw1.chg⟩
                       · skip
                         refine am (ao (ag (ab (aa (o_assignN rfl rfl (ap (aT rfl rfl ?_))))))); exact fun w1 hw1 => ⟨congrArg (fun b => Ending.returned (.int .i64 b)) (by unfold lvl; (repeat' split) <;> omega),hw1.chg⟩
theorem textK (o : Int) (w : World)  : Calls Tryz.prog 117 #[.int .i64 o] w (bX w (.string (B (iW o)))) := by
 refine ay (args := [.int .i64 o]) (lent := []) (H := []) Tryz.func117 rfl Tryz.ntmps117 rfl (Sat.start _ _ _ _) ((show Tri _ [(0,_)] _ _ _ from ab (aa (o_assignN rfl rfl (ab (aa (av (first := []) (cap := []) rfl rfl rfl Tryz.call150 (fun w1 h1 => kJ w1) (av (first := []) (cap := []) rfl rfl rfl Tryz.call151 (fun w1 h1 => sumsP w1) (av (first := []) (cap := []) rfl rfl rfl Tryz.call152 (fun w1 h1 => nP w1) (aP _ rfl sA rfl (fun b3 => aP _ rfl jC rfl (fun b4 => aP _ rfl jC rfl (fun b5 => aO sz196 N2 rfl rfl rfl rfl rfl (Nat.le_of_ble_eq_true rfl) rfl (aO lE N1 rfl rfl rfl rfl rfl (Nat.le_of_ble_eq_true rfl) rfl (aO lE N0 rfl rfl rfl rfl rfl (Nat.le_of_ble_eq_true rfl) rfl (triL_nilN (ab (tri_slo [(5,_),(4,_),(3,_),(0,_)] rfl (MP.bj ([]) [(0,true),(1,true),(3,true),(5,true),(7,true),(2,false),(4,false),(6,false),(8,false),(9,false)] [8,9] (by kernel_rfl) (by kernel_rfl) (fun _ h => h.sel [] (by decide)) (MP.ai rfl (aU (bR _ _ _) rfl rfl (ae ⟨rfl,(MP.ai rfl (aU (bR _ _ _) rfl rfl (ae ⟨rfl,(MP.ai rfl (fH Tryz.underlying196 iC rfl rfl (ae ⟨rfl,(MP.ai rfl (fH Tryz.underlying198 iC rfl rfl (ae ⟨rfl,(MP.ai rfl (fH Tryz.underlying198 iC rfl rfl (ae ⟨rfl,(MP.aZ rfl (ee (parts := [_,_]) (toksV (orO ++ andO)) Tryz.underlying177 zs176 rfl rfl rfl rfl (by decide) (by decide) (fun b14 => ae (show _ ∧ _ from ⟨fun _ _ h => h.sel [] (by decide),(MP.aZ rfl (cE Tryz.underlying177 rq rfl (by decide) N0 rfl rfl rfl (news := toksV fV) (RdS.box (.s (.s (.s .z)))) rfl (iw _) (by unfold maxLen; omega) (by omega) (fun A16 c16 => ae (show _ ∧ _ from ⟨fun _ _ h => h.sel [] (by decide),(MP.aZ rfl ?_)⟩))))⟩))))⟩)))⟩)))⟩)))⟩)))⟩)))))))))))))))))))))); refine cE Tryz.underlying177 rq rfl (by decide) N0 rfl rfl rfl (news := toksV sumO) (RdS.box (.s (.s .z))) rfl (iw _) (by unfold maxLen; omega) (by omega) (fun A18 c18 => ae (show _ ∧ _ from ⟨fun _ _ h => h.sel [] (by decide),(MP.aZ rfl (cE Tryz.underlying177 rq rfl (by decide) N0 rfl rfl rfl (news := toksV mulO) (RdS.box (.s .z)) rfl (iw _) (by unfold maxLen; omega) (by omega) (fun A20 c20 => ae (show _ ∧ _ from ⟨fun hh => absurd hh (by decide),(MP.aZ rfl (aB rfl rfl (ae (show _ ∧ _ from ⟨fun hh => absurd hh (by decide),(MP.dM (ag (ab (ab (tri_slo [(6,_),(0,_)] rfl (aa (ah rfl rfl (aN Tryz.underlying177 rfl rfl (ah rfl rfl (triL_nilN (aw (bf (ι := Nat) (F := fun i => [(0,.int .i64 o),(21,.slice A20 14 c20),(22,.int .i64 14),(23,.int .i64 (i : Int))]) (HH := fun i => [row (.slice A20 14 c20) 176 3 14 (toksV lI)]) (Pu := fun i => i ≤ 14 ∧ ∀ j,j < i → (lI.getD j Tok.zero).a ≠ o) (μ := fun i => 14 - i) (0) (.cons rfl (.cons rfl (.cons rfl (.cons rfl (.nil _))))) (fun w2 hw2 => hw2.sel [0] (by decide)) (⟨by omega,fun j hj => absurd hj (by omega)⟩) (fun i hi => ab (aa (bK rfl rfl rfl (triL_nilN (ab (ar rfl (fun h0 => ?_) (fun h0 => ?_)))))))))))))))))))⟩))))⟩))))⟩))
 · skip
   have hil : i < lI.length := by show i < 14; omega
   refine am (ag (ab (aw (ab (aa (aL Tryz.underlying177 iC rfl rfl rfl (RdS.row .z) (by omega) (by omega) rfl (by decide) (gD i rh iC rfl rfl (RdS.row .z) (by omega) (by omega) (aP (Tok.cs Tok.zero) rfl oC rfl (fun b8 => dC iC N0 rfl rfl rfl (triL_nilN (ab (aa (aj oE rfl rfl (ak bz N0 rfl rfl rfl (ah rfl rfl (ax rfl rfl rfl (triL_nilN (ar rfl (fun h1 => ?_) (fun h1 => ?_)))))))))))))))))))
   · skip
     have h1 : (lI.getD i Tok.zero).a = o := h1
     refine ab (tri_slo [(8,_)] rfl (aa (aj oD rfl rfl (ak bd N0 rfl rfl rfl (o_assignN rfl rfl (ap (aq (an (an (aq (an (aT rfl rfl ?_)))))))))))); exact fun w1 hw1 => ⟨congrArg (fun s => Ending.returned (.string (B s))) (by rw [← h1]; exact (op_hit i (by omega)).symm),hw1.chg⟩
   · skip
     have h1 : (lI.getD i Tok.zero).a ≠ o := h1
     exact am (ao (ag (tri_slo [(0,_),(21,_),(22,_),(23,_)] rfl (aa (bn rfl rfl rfl (by omega) (ah rfl rfl (triL_nilN (⟨i + 1,(.cons rfl (.cons rfl (.cons rfl (.cons rfl (.nil _))))),(fun w2 hw2 => hw2.tail),⟨by omega,tu hi.2 h1⟩,by omega⟩))))))))
 · skip
   refine aS (au (au (aG (ag (ab (az [] (.nil _) (aa (o_assignN rfl rfl (ap (aT rfl rfl ?_)))))))))); exact fun w1 hw1 => ⟨congrArg (fun s => Ending.returned (.string (B s))) (op_miss (fun j hj => hi.2 j (by omega))).symm,hw1.chg⟩
theorem toldK (pb : Nat) (A : Option Addr) (c : Nat) (l : List UInt8) (d m : Int) (w : World) (hP : gq w pb A c l d m) (hb : l.length ≤ 70368744177664) : Calls Tryz.prog 28 #[.pointer (some ⟨pb,0,none⟩)] w (Turn w (prL pb A) (fun _ : Unit => .tuple #[.string (B (gH l m).1),.int .i64 (gH l m).2]) (fun _ => prD pb A c l d m) (fun _ => True)) := by
 refine ay (args := [.pointer (some ⟨pb,0,none⟩)]) (lent := prL pb A) (H := prD pb A c l d m) Tryz.func28 rfl Tryz.ntmps28 rfl (Sat.cx hP) ((show Tri _ [(0,_)] _ _ _ from ab (aa (aB rfl rfl (o_assignN rfl rfl (ab (ab (aa (ah rfl rfl (aM rfl rfl (aj ro rfl rfl (ak bz N0 rfl rfl rfl (cR rfl rfl rfl (triL_nilN (ar rfl (fun h0 => ?_) (fun h0 => ?_))))))))))))))))
 · skip
   exact ab (az [] (.nil _) (aa (aB rfl rfl (o_assignN rfl rfl (ap (an (dA rfl rfl rfl (bG () (by rw [gH,if_pos h0]) trivial (fun w2 hw2 => hw2)))))))))
 · skip
   refine am (ag (ab (ab (tri_slo [(0,_)] rfl (aa (ah rfl rfl (aM rfl rfl (aj oJ rfl rfl (ak agg65 N0 rfl rfl rfl (aN Tryz.underlying65 rfl rfl (cR rfl rfl rfl (triL_nilN (ar rfl (fun h1 => ?_) (fun h1 => ?_))))))))))))))
   · skip
     exact ab (az [] (.nil _) (aa (aB rfl rfl (o_assignN rfl rfl (ap (an (dA rfl rfl rfl (bG () (by rw [gH,if_neg h0,if_pos (by omega)]) trivial (fun w2 hw2 => hw2)))))))))
   · skip
     exact am (ag (ab (tri_slo [(0,_)] rfl (aa (ah rfl rfl (aM rfl rfl (aj oJ rfl rfl (ak agg65 N0 rfl rfl rfl (kn Tryz.underlying65 Tryz.underlying5 Tryz.underlying9 rfl rfl (RdS.row (.s .z)) rfl (aB rfl rfl (o_assignN rfl rfl (ap (dA rfl rfl rfl (bG () (by rw [gH,if_neg h0,if_neg (by omega)]) trivial (fun w2 hw2 => hw2)))))))))))))))
end Go.Proofs.YtjbpkcbefmpfgaaGreatDoor
namespace Go.Proofs.YtjbpkcbefmpfgaaGreatDoor
open Go.WK Go.RowKit 
theorem cK : bH Tryz.prog 30 5 = some 7 := by kernel_rfl
theorem cM : cG Tryz.prog 28 = some false := by kernel_rfl
theorem bT : bH Tryz.prog 30 0 = some 0 := by kernel_rfl
theorem gb : bH Tryz.prog 30 1 = some 1 := by kernel_rfl
structure PV (w : World) (L bl : List Nat) : Prop where
 pe : PE w L bl
 lv : LV w
theorem PV.sub {w w1 : World} {L L1 bl : List Nat} (h : PV w L bl) (s : PSub w L w1 L1) : PV w1 L1 bl := ⟨h.pe.sub s,h.lv.chgL s.chg (fun k hk => (h.pe.g k hk).2)⟩
def PX (e : Ex) : Prop := ∀ (low : Int) (bl : List Nat) (cs : List Value) (pb : Nat) (A : Option Addr) (c : Nat) (l : List UInt8) (d m : Int) (w : World),gq w pb A c l d m → PV w (prL pb A) bl → ExK bl w e cs → 0 ≤ d ∧ d ≤ m → d + ((e.txt low).2 : Int) ≤ 140737488355328 → l.length + (e.txt low).1.length ≤ 70368744177664 →
 Calls Tryz.prog 26 #[.pointer (some ⟨pb,0,none⟩),.agg cs.toArray,.int .i64 low] w (PrT w pb A (l ++ (e.txt low).1) d (max m (d + ((e.txt low).2 : Int))))
theorem fit_of {v : Val} (hm : may v = true) (ho : v.ok) : fit v := by
 refine ⟨ho, ?_⟩
 unfold may at hm
 by_cases h0 : v.k = 0
 · simp [h0] at hm; rw [hm.2]; simp
 · by_cases h1 : v.k = 1
   · simp [h1] at hm; rw [hm]; simp
   · by_cases h2 : v.k = 2
     · simp [h2] at hm; omega
     · simp [h0,h1,h2] at hm; rw [hm.2.1]; simp
theorem binK (o cc : Int) (v : Val) (t n : List UInt8) (al : List Ex) (Ax : Option Addr) (kx : Nat) (xs : List Value) (low : Int) (bl : List Nat) (pb : Nat) (A : Option Addr) (c : Nat) (l : List UInt8) (d m : Int) (w : World) (hP : gq w pb A c l d m) (hV : PV w (prL pb A) bl) (_ : al.length ≤ kx) (hxr : Rd w Ax xs) (hxb : ∀ a,Ax = some a → al ≠ [] → a.block ∈ bl) (hxs : ExsK bl w al xs) (hdm : 0 ≤ d ∧ d ≤ m) (hd : d + ((Ex.txt (.mk o v t n cc al) low).2 : Int) ≤ 140737488355328) (hb : l.length + (Ex.txt (.mk o v t n cc al) low).1.length ≤ 70368744177664) (ho : 8 ≤ o ∧ o ≤ 21) (hal : al.length = 2) (hlow : ¬ lvl o < low) (ih : ∀ i,i < al.length → PX (al.getD i Ex.zero)) : Calls Tryz.prog 59 #[.pointer (some ⟨pb,0,none⟩),.agg ([.int .i64 o,.int .i64 v.k,.int .i64 v.n,.string (B v.s),.string (B t),.string (B n),.int .i64 cc,.slice Ax al.length kx] : List Value).toArray,.int .i64 (lvl o)] w (PrT w pb A (l ++ (Ex.txt (.mk o v t n cc al) low).1) (d) (max m (d + ((Ex.txt (.mk o v t n cc al) low).2 : Int)))) := by
 refine ay (args := [.pointer (some ⟨pb,0,none⟩),.agg ([.int .i64 o,.int .i64 v.k,.int .i64 v.n,.string (B v.s),.string (B t),.string (B n),.int .i64 cc,.slice Ax al.length kx] : List Value).toArray,.int .i64 (lvl o)]) (lent := prL pb A) (H := prD pb A c l d m) Tryz.func59 rfl Tryz.ntmps59 rfl (Sat.cx hP) ((show Tri _ [(0,_),(1,_),(2,_)] _ _ _ from ?_))
 have hl8 := kb o
 have hR := hV.pe.rd hxr (fun a ha hx => hxb a ha (hxs.nil hx))
 have hxl := (ExsK.c _ _ hxs).len
 obtain ⟨cs0,hc0,hk0⟩ := ExsK.at 0 hxs (by omega)
 obtain ⟨cs1,hc1,hk1⟩ := ExsK.at 1 hxs (by omega)
 rw [cU hlow,core_b (by omega) (by omega) (by omega) (by omega) (by omega) (by omega) (by omega)] at hd hb ⊢
 simp only at hd hb ⊢
 refine ab (aa (bY _ rfl rfl rfl (fun b4 => triL_nilN (ab (aa (ah rfl rfl (o_assignN rfl rfl (br (ι := Nat) (fun i => [(0,.pointer (some ⟨pb,0,none⟩)),(2,.int .i64 (lvl o)),(4,.pointer (some ⟨b4,0,none⟩)),(6,.int .i64 (if lvl o = 4 then 5 else lvl o))]) (fun i => [box b4 30 ([.int .i64 o,.int .i64 v.k,.int .i64 v.n,.string (B v.s),.string (B t),.string (B n),.int .i64 cc,.slice Ax al.length kx] : List Value)] ++ prD pb A c l d m) (fun i => True) ?_ (fun i hj => ?_)))))))))
 · skip
   refine ab (aa (ah rfl rfl (ax rfl rfl rfl (triL_nilN (ar rfl (fun h0 => ?_) (fun h0 => ?_))))))
   · skip
     exact tri_slo [(4,_),(0,_),(2,_)] rfl (aa (o_assignN rfl rfl (⟨0,(.cons rfl (.cons rfl (.cons rfl (.cons (by rw [if_pos h0]; rfl) (.nil _))))),fun _ h => h,trivial⟩)))
   · skip
     exact am (ag (⟨0,(.cons rfl (.cons rfl (.cons rfl (.cons (by rw [if_neg h0]; rfl) (.nil _))))),fun _ h => h,trivial⟩))
 exact ab (aa (ah rfl rfl (aj cK rfl rfl (ak cM N0 rfl rfl rfl (aL Tryz.underlying28 aV rfl rfl rfl (hR _ _ rfl rfl) (by omega) (by omega) (by omega) (by decide) (bo aW aV rfl rfl (hR _ _ rfl rfl) (vs := cs0) hc0 hk0.len (by decide) (ah rfl rfl (aK [_] rfl rfl rfl rfl Tryz.call26 (fun w1 h1 h2 h3 => ih 0 (by omega) (if lvl o = 4 then 5 else lvl o) bl _ pb _ _ _ _ _ w1 h2 (hV.sub (PSub.of h1 h3)) (hk0.psub hV.pe (PSub.of h1 h3)) (by omega) (by omega) (by simp only [List.length_append,List.length_cons,List.length_nil] at hb ⊢; omega)) (fun A16 c16 => triL_nilN (ab (tri_slo [(0,_),(2,_),(4,_)] rfl (aa (ah rfl rfl (aj bT rfl rfl (ak bz N0 rfl rfl rfl (av (first := []) (cap := []) rfl rfl rfl Tryz.call117 (fun w1 h1 => textK o w1) (ee (parts := [_,_,_]) (dm [[32],iW o,[32]]) Tryz.underlying23 zs9 rfl rfl rfl rfl (by decide) (by decide) (fun b21 => aK [_,_] rfl rfl rfl rfl Tryz.call20 (fun w1 h1 h2 h3 => cV [[32],iW o,[32]] _ _ pb _ _ _ _ _ w1 h2 (RdS.row .z w1 h1) (fun a ha => by cases ha; exact bv h1 (fun x hx => (List.mem_cons_of_mem _ hx)) rfl) (by simp only [List.length_append,List.length_cons,List.length_nil,List.flatten_cons,List.flatten_nil] at hb ⊢; omega) (by simp)) (fun A22 c22 => triL_nilN (tri_slo [(0,_),(2,_),(4,_)] rfl (aa (ah rfl rfl (aj cK rfl rfl (ak cM N1 rfl rfl rfl (aL Tryz.underlying28 aV rfl rfl rfl (hR _ _ rfl rfl) (by omega) (by omega) (by omega) (by decide) (bo aW aV rfl rfl (hR _ _ rfl rfl) (vs := cs1) hc1 hk1.len (by decide) (ah rfl rfl (bn rfl rfl rfl (by omega) (aK [_,_] rfl rfl rfl rfl Tryz.call26 (fun w1 h1 h2 h3 => ih 1 (by omega) (lvl o + 1) bl _ pb _ _ _ _ _ w1 h2 (hV.sub (PSub.of h1 h3)) (hk1.psub hV.pe (PSub.of h1 h3)) (by omega) (by omega) (by simp only [List.length_append,List.length_cons,List.length_nil,List.flatten_cons,List.flatten_nil] at hb ⊢; omega)) (fun A30 c30 => ae (cv rfl (bG (J := Option Addr × Nat) (A30,c30) rfl trivial (fun w2 hw2 => cj (by simp) (by omega) (by omega) (hw2.sel [2,3] (by decide)))))))))))))))))))))))))))))))))))
set_option maxHeartbeats 1000000 in
theorem coreK_ (o cc : Int) (v : Val) (t n : List UInt8) (al : List Ex) (Ax : Option Addr) (kx : Nat) (xs : List Value) (low : Int) (bl : List Nat) (pb : Nat) (A : Option Addr) (c : Nat) (l : List UInt8) (d m : Int) (w : World) (hP : gq w pb A c l d m) (hV : PV w (prL pb A) bl) (hkx : al.length ≤ kx) (hxr : Rd w Ax xs) (hxb : ∀ a,Ax = some a → al ≠ [] → a.block ∈ bl) (hxs : ExsK bl w al xs) (hdm : 0 ≤ d ∧ d ≤ m) (hd : d + ((Ex.txt (.mk o v t n cc al) low).2 : Int) ≤ 140737488355328) (hb : l.length + (Ex.txt (.mk o v t n cc al) low).1.length ≤ 70368744177664) (hlow : ¬ lvl o < low) (hof : o = 1 → fit v) (har : 4 ≤ o → o ≤ 7 → al.length = 1) (har2 : 8 ≤ o → al.length = 2) (hor : 1 ≤ o ∧ o ≤ 21 ∧ o ≠ 3) (ih : ∀ i,i < al.length → PX (al.getD i Ex.zero)) : Calls Tryz.prog 26 #[.pointer (some ⟨pb,0,none⟩),.agg ([.int .i64 o,.int .i64 v.k,.int .i64 v.n,.string (B v.s),.string (B t),.string (B n),.int .i64 cc,.slice Ax al.length kx] : List Value).toArray,.int .i64 low] w (PrT w pb A (l ++ (Ex.txt (.mk o v t n cc al) low).1) (d) (max m (d + ((Ex.txt (.mk o v t n cc al) low).2 : Int)))) := by
 refine ay (args := [.pointer (some ⟨pb,0,none⟩),.agg ([.int .i64 o,.int .i64 v.k,.int .i64 v.n,.string (B v.s),.string (B t),.string (B n),.int .i64 cc,.slice Ax al.length kx] : List Value).toArray,.int .i64 low]) (lent := prL pb A) (H := prD pb A c l d m) Tryz.func26 rfl Tryz.ntmps26 rfl (Sat.cx hP) ((show Tri _ [(0,_),(1,_),(2,_)] _ _ _ from ?_))
 have hl8 := kb o
 have hR := hV.pe.rd hxr (fun a ha hx => hxb a ha (hxs.nil hx))
 have hxl := (ExsK.c _ _ hxs).len
 refine ab (aa (bY _ rfl rfl rfl (fun b4 => triL_nilN (ab (aa (aj bT rfl rfl (ak bz N0 rfl rfl rfl (av (first := []) (cap := []) rfl rfl rfl Tryz.call56 (fun w1 h1 => levelK o w1) (o_assignN rfl rfl (ab (ab (tri_slo [(6,_),(4,_),(0,_),(2,_)] rfl (aa (ah rfl rfl (ah rfl rfl (bK rfl rfl rfl (triL_nilN (ar rfl (fun q0 => ?_) (fun q0 => ?_)))))))))))))))))))
 · skip
   exact absurd q0 hlow
 · skip
   refine am (ag (ab (tri_slo [(6,_),(4,_),(0,_)] rfl (aa (aj bT rfl rfl (ak bz N0 rfl rfl rfl (triL_nilN (aw (ab (aa (ax rfl rfl rfl (o_assignN rfl rfl (ar rfl (fun q1 => ?_) (fun q1 => ?_))))))))))))))
   · skip
     rw [cU hlow,core_1 q1] at hd hb ⊢
     simp only at hd hb ⊢
     exact ab (tri_slo [(4,_),(0,_)] rfl (aa (aj gb rfl rfl (aC hY jJ .z rfl rfl (vs := Val.cs v) rfl rfl (av (first := []) (cap := []) rfl rfl rfl Tryz.call58 (fun w1 h1 => printK v w1 (hof q1) (hV.lv.chgL h1.chg (fun k hk => (hV.pe.g k hk).2))) (ah rfl rfl (aX rfl rfl rfl (aX rfl rfl rfl (aB rfl rfl (o_assignN rfl rfl (tri_slo [(7,_),(0,_)] rfl (aa (ah rfl rfl (ah rfl rfl (bF Tryz.underlying23 zs9 rfl rfl rfl rfl rfl (by decide) (by decide) (fun b44 => aK [_,_] rfl rfl rfl rfl Tryz.call20 (fun w1 h1 h2 h3 => cV [(prV v).1] _ _ pb _ _ _ _ _ w1 h2 (RdS.row .z w1 h1) (fun a ha => by cases ha; exact bv h1 (fun x hx => (List.mem_cons_of_mem _ hx)) rfl) (by simp only [List.length_append,List.length_nil,List.flatten_cons,List.flatten_nil] at hb ⊢; omega) (by simp)) (fun A45 c45 => ae (ao (cv rfl (bG (J := Option Addr × Nat) (A45,c45) rfl trivial (fun w2 hw2 => cj (by simp) (by omega) (by omega) (hw2.sel [2,3] (by decide)))))))))))))))))))))))
   · skip
     refine ab (aa (ax rfl rfl rfl (o_assignN rfl rfl (ar rfl (fun q2 => ?_) (fun q2 => ?_)))))
     · skip
       rw [cU hlow,qO q2] at hd hb ⊢
       simp only at hd hb ⊢
       refine ab (ab (tri_slo [(4,_),(0,_)] rfl (aa (aj eL rfl rfl (ak bd N0 rfl rfl rfl (cY rfl rfl rfl (triL_nilN (aE rfl (fun q3 => ?_) (fun q3 => ?_)))))))))
       · skip
         have q3 := of_decide_eq_true q3
         rw [if_neg q3] at hb ⊢
         exact aa (ah rfl rfl (aj eL rfl rfl (ak bd N0 rfl rfl rfl (ee (parts := [_,_]) (dm [t,[46]]) Tryz.underlying23 zs9 rfl rfl rfl rfl (by decide) (by decide) (fun b54 => aK [_,_] rfl rfl rfl rfl Tryz.call20 (fun w1 h1 h2 h3 => cV [t,[46]] _ _ pb _ _ _ _ _ w1 h2 (RdS.row .z w1 h1) (fun a ha => by cases ha; exact bv h1 (fun x hx => (List.mem_cons_of_mem _ hx)) rfl) (by simp only [List.length_append,List.length_cons,List.length_nil,List.flatten_cons,List.flatten_nil] at hb ⊢; omega) (by simp)) (fun A55 c55 => triL_nilN (tri_slo [(4,_),(0,_)] rfl (aa (ah rfl rfl (aj fk rfl rfl (ak bd N1 rfl rfl rfl (bF Tryz.underlying23 zs9 rfl rfl rfl rfl rfl (by decide) (by decide) (fun b59 => aK [_,_,_] rfl rfl rfl rfl Tryz.call20 (fun w1 h1 h2 h3 => cV [n] _ _ pb _ _ _ _ _ w1 h2 (RdS.row .z w1 h1) (fun a ha => by cases ha; exact bv h1 (fun x hx => (List.mem_cons_of_mem _ (List.mem_cons_of_mem _ hx))) rfl) (by simp only [List.length_append,List.length_cons,List.length_nil,List.flatten_cons,List.flatten_nil] at hb ⊢; omega) (by simp)) (fun A60 c60 => ae (ao (cv rfl (bG (J := Option Addr × Nat) (A60,c60) rfl trivial (fun w2 hw2 => cj (by simp) (by omega) (by omega) (hw2.sel [3,4] (by decide))))))))))))))))))))
       · skip
         have q3 := Decidable.not_not.1 (of_decide_eq_false q3)
         rw [if_pos q3] at hb ⊢
         exact am (ag (aa (ah rfl rfl (aj fk rfl rfl (ak bd N0 rfl rfl rfl (bF Tryz.underlying23 zs9 rfl rfl rfl rfl rfl (by decide) (by decide) (fun b59 => aK [_,_] rfl rfl rfl rfl Tryz.call20 (fun w1 h1 h2 h3 => cV [n] _ _ pb _ _ _ _ _ w1 h2 (RdS.row .z w1 h1) (fun a ha => by cases ha; exact bv h1 (fun x hx => (List.mem_cons_of_mem _ hx)) rfl) (by simp only [List.length_append,List.length_nil,List.flatten_cons,List.flatten_nil] at hb ⊢; omega) (by simp)) (fun A60 c60 => ae (ao (cv rfl (bG (J := Option Addr × Nat) (A60,c60) rfl trivial (fun w2 hw2 => cj (by simp) (by omega) (by omega) (hw2.sel [2,3] (by decide))))))))))))))
     · skip
       refine ab (tri_slo [(29,_),(6,_),(4,_),(0,_)] rfl (aa (ax rfl rfl rfl (o_assignN rfl rfl (ar rfl (fun q4 => ?_) (fun q4 => ?_))))))
       · skip
         have hal : al.length = 1 := har (by omega) (by omega)
         obtain ⟨cs0,hc0,hk0⟩ := ExsK.at 0 hxs (by omega)
         rw [cU hlow,core_5 q4 (by omega)] at hd hb ⊢
         simp only at hd hb ⊢
         exact ab (tri_slo [(4,_),(0,_)] rfl (aa (ah rfl rfl (aK [_] rfl rfl rfl rfl Tryz.call57 (fun w1 h1 h2 h3 => mW (1) pb _ _ _ _ _ w1 h2 (by omega) (by omega)) (fun A64 c64 => triL_nilN (ab (aa (ah rfl rfl (bF Tryz.underlying23 zs9 rfl rfl rfl rfl rfl (by decide) (by decide) (fun b66 => aK [_,_] rfl rfl rfl rfl Tryz.call20 (fun w1 h1 h2 h3 => cV [[110,111,116,32]] _ _ pb _ _ _ _ _ w1 h2 (RdS.row .z w1 h1) (fun a ha => by cases ha; exact bv h1 (fun x hx => (List.mem_cons_of_mem _ hx)) rfl) (by simp only [List.length_append,List.length_cons,List.length_nil,List.flatten_cons,List.flatten_nil] at hb ⊢; omega) (by simp)) (fun A67 c67 => triL_nilN (ab (tri_slo [(4,_),(0,_)] rfl (aa (ah rfl rfl (aj cK rfl rfl (ak cM N1 rfl rfl rfl (aL Tryz.underlying28 aV rfl rfl rfl (hR _ _ rfl rfl) (by omega) (by omega) (by omega) (by decide) (bo aW aV rfl rfl (hR _ _ rfl rfl) (vs := cs0) hc0 hk0.len (by decide) (aK [_,_] rfl rfl rfl rfl Tryz.call26 (fun w1 h1 h2 h3 => ih 0 (by omega) 3 bl _ pb _ _ _ _ _ w1 h2 (hV.sub (PSub.of h1 h3)) (hk0.psub hV.pe (PSub.of h1 h3)) (by omega) (by omega) (by simp only [List.length_append,List.length_cons,List.length_nil,List.flatten_cons,List.flatten_nil] at hb ⊢; omega)) (fun A73 c73 => triL_nilN (tri_slo [(0,_)] rfl (aa (ah rfl rfl (aK [_,_] rfl rfl rfl rfl Tryz.call57 (fun w1 h1 h2 h3 => mW (-1) pb _ _ _ _ _ w1 h2 (by omega) (by omega)) (fun A75 c75 => ae (ao (cv rfl (bG (J := Option Addr × Nat) (A75,c75) rfl trivial (fun w2 hw2 => cj (by simp) (by omega) (by omega) (hw2.sel [2,3] (by decide))))))))))))))))))))))))))))))))
       · skip
         refine ab (aa (ax rfl rfl rfl (o_assignN rfl rfl (ar rfl (fun q5 => ?_) (fun q5 => ?_)))))
         · skip
           have hal : al.length = 1 := har (by omega) (by omega)
           obtain ⟨cs0,hc0,hk0⟩ := ExsK.at 0 hxs (by omega)
           rw [cU hlow,core_4 q5 (by omega)] at hd hb ⊢
           simp only at hd hb ⊢
           refine ab (tri_slo [(4,_),(0,_)] rfl (aa (ah rfl rfl (aK [_] rfl rfl rfl rfl Tryz.call57 (fun w1 h1 h2 h3 => mW (1) pb _ _ _ _ _ w1 h2 (by omega) (by omega)) (fun A79 c79 => triL_nilN (ab (aa (ah rfl rfl (bF Tryz.underlying23 zs9 rfl rfl rfl rfl rfl (by decide) (by decide) (fun b81 => aK [_,_] rfl rfl rfl rfl Tryz.call20 (fun w1 h1 h2 h3 => cV [[45]] _ _ pb _ _ _ _ _ w1 h2 (RdS.row .z w1 h1) (fun a ha => by cases ha; exact bv h1 (fun x hx => (List.mem_cons_of_mem _ hx)) rfl) (by simp only [List.length_append,List.length_cons,List.length_nil,List.flatten_cons,List.flatten_nil] at hb ⊢; omega) (by simp)) (fun A82 c82 => triL_nilN (ab (ab (tri_slo [(4,_),(0,_)] rfl (aa (aj cK rfl rfl (ak cM N1 rfl rfl rfl (aL Tryz.underlying28 aV rfl rfl rfl (hR _ _ rfl rfl) (by omega) (by omega) (by omega) (by decide) (aJ bT rfl rfl (hR _ _ rfl rfl) (fb hc0 hk0.op) (aH bz rfl rfl (hR _ _ rfl rfl) (fb hc0 hk0.op) (ax rfl rfl rfl (triL_nilN (ar rfl (fun q6 => ?_) (fun q6 => ?_))))))))))))))))))))))))
           · skip
             rw [if_pos q6] at hb ⊢
             exact tri_slo [(4,_),(0,_)] rfl (aa (ah rfl rfl (bF Tryz.underlying23 zs9 rfl rfl rfl rfl rfl (by decide) (by decide) (fun b90 => aK [_,_,_] rfl rfl rfl rfl Tryz.call20 (fun w1 h1 h2 h3 => cV [[32]] _ _ pb _ _ _ _ _ w1 h2 (RdS.row .z w1 h1) (fun a ha => by cases ha; exact bv h1 (fun x hx => (List.mem_cons_of_mem _ (List.mem_cons_of_mem _ hx))) rfl) (by simp only [List.length_append,List.length_cons,List.length_nil,List.flatten_cons,List.flatten_nil] at hb ⊢; omega) (by simp)) (fun A91 c91 => triL_nilN (ab (aa (ah rfl rfl (aj cK rfl rfl (ak cM N2 rfl rfl rfl (aL Tryz.underlying28 aV rfl rfl rfl (hR _ _ rfl rfl) (by omega) (by omega) (by omega) (by decide) (bo aW aV rfl rfl (hR _ _ rfl rfl) (vs := cs0) hc0 hk0.len (by decide) (aK [_,_,_] rfl rfl rfl rfl Tryz.call26 (fun w1 h1 h2 h3 => ih 0 (by omega) 7 bl _ pb _ _ _ _ _ w1 h2 (hV.sub (PSub.of h1 h3)) (hk0.psub hV.pe (PSub.of h1 h3)) (by omega) (by omega) (by simp only [List.length_append,List.length_cons,List.length_nil,List.flatten_cons,List.flatten_nil] at hb ⊢; omega)) (fun A97 c97 => triL_nilN (tri_slo [(0,_)] rfl (aa (ah rfl rfl (aK [_,_,_] rfl rfl rfl rfl Tryz.call57 (fun w1 h1 h2 h3 => mW (-1) pb _ _ _ _ _ w1 h2 (by omega) (by omega)) (fun A99 c99 => ae (ao (cv rfl (bG (J := Option Addr × Nat) (A99,c99) rfl trivial (fun w2 hw2 => cj (by simp) (by omega) (by omega) (hw2.sel [3,4] (by decide)))))))))))))))))))))))))
           · skip
             rw [if_neg q6] at hb ⊢
             exact am (ag (ab (tri_slo [(4,_),(0,_)] rfl (aa (ah rfl rfl (aj cK rfl rfl (ak cM N1 rfl rfl rfl (aL Tryz.underlying28 aV rfl rfl rfl (hR _ _ rfl rfl) (by omega) (by omega) (by omega) (by decide) (bo aW aV rfl rfl (hR _ _ rfl rfl) (vs := cs0) hc0 hk0.len (by decide) (aK [_,_] rfl rfl rfl rfl Tryz.call26 (fun w1 h1 h2 h3 => ih 0 (by omega) 7 bl _ pb _ _ _ _ _ w1 h2 (hV.sub (PSub.of h1 h3)) (hk0.psub hV.pe (PSub.of h1 h3)) (by omega) (by omega) (by simp only [List.length_append,List.length_cons,List.length_nil,List.flatten_cons,List.flatten_nil] at hb ⊢; omega)) (fun A97 c97 => triL_nilN (tri_slo [(0,_)] rfl (aa (ah rfl rfl (aK [_,_] rfl rfl rfl rfl Tryz.call57 (fun w1 h1 h2 h3 => mW (-1) pb _ _ _ _ _ w1 h2 (by omega) (by omega)) (fun A99 c99 => ae (ao (cv rfl (bG (J := Option Addr × Nat) (A99,c99) rfl trivial (fun w2 hw2 => cj (by simp) (by omega) (by omega) (hw2.sel [2,3] (by decide))))))))))))))))))))))
         · skip
           refine ab (ab (tri_slo [(29,_),(6,_),(4,_),(0,_)] rfl (aa (ax rfl rfl rfl (o_assignN rfl rfl (ar rfl (fun q7 => ?_) (fun q7 => ?_)))))))
           · skip
             have hal : al.length = 1 := har (by omega) (by omega)
             obtain ⟨cs0,hc0,hk0⟩ := ExsK.at 0 hxs (by omega)
             rw [cU hlow,core_6 q7 (by omega)] at hd hb ⊢
             simp only at hd hb ⊢
             refine am (ag (ar rfl (fun q8 => ?_) (fun q8 => ?_)))
             · skip
               skip
               refine ab (tri_slo [(4,_),(0,_)] rfl (aa (ah rfl rfl (aj cK rfl rfl (ak cM N0 rfl rfl rfl (aL Tryz.underlying28 aV rfl rfl rfl (hR _ _ rfl rfl) (by omega) (by omega) (by omega) (by decide) (bo aW aV rfl rfl (hR _ _ rfl rfl) (vs := cs0) hc0 hk0.len (by decide) (aK [_] rfl rfl rfl rfl Tryz.call26 (fun w1 h1 h2 h3 => ih 0 (by omega) 5 bl _ pb _ _ _ _ _ w1 h2 (hV.sub (PSub.of h1 h3)) (hk0.psub hV.pe (PSub.of h1 h3)) (by omega) (by omega) (by simp only [List.length_append,List.length_cons,List.length_nil] at hb ⊢; omega)) (fun A108 c108 => triL_nilN (ab (tri_slo [(4,_),(0,_)] rfl (aa (aj bT rfl rfl (ak bz N0 rfl rfl rfl (ax rfl rfl rfl (triL_nilN (ar rfl (fun q9 => ?_) (fun q9 => ?_))))))))))))))))))
               · skip
                 exact absurd q9 (by omega)
               · skip
                 exact tri_slo [(0,_)] rfl (aa (ah rfl rfl (bF Tryz.underlying23 zs9 rfl rfl rfl rfl rfl (by decide) (by decide) (fun b116 => aK [_,_] rfl rfl rfl rfl Tryz.call20 (fun w1 h1 h2 h3 => cV [[32,105,115,32,110,117,108,108]] _ _ pb _ _ _ _ _ w1 h2 (RdS.row .z w1 h1) (fun a ha => by cases ha; exact bv h1 (fun x hx => (List.mem_cons_of_mem _ hx)) rfl) (by simp only [List.length_append,List.length_cons,List.length_nil,List.flatten_cons,List.flatten_nil] at hb ⊢; omega) (by simp)) (fun A117 c117 => ae (ao (cv rfl (bG (J := Option Addr × Nat) (A117,c117) rfl trivial (fun w2 hw2 => cj (by simp) (by omega) (by omega) (hw2.sel [2,3] (by decide)))))))))))
             · skip
               exact absurd q7 (by omega)
           · skip
             refine aa (ax rfl rfl rfl (o_assignN rfl rfl (ar rfl (fun q8 => ?_) (fun q8 => ?_))))
             · skip
               have hal : al.length = 1 := har (by omega) (by omega)
               obtain ⟨cs0,hc0,hk0⟩ := ExsK.at 0 hxs (by omega)
               rw [cU hlow,core_7 q8 (by omega)] at hd hb ⊢
               simp only at hd hb ⊢
               refine ab (tri_slo [(4,_),(0,_)] rfl (aa (ah rfl rfl (aj cK rfl rfl (ak cM N0 rfl rfl rfl (aL Tryz.underlying28 aV rfl rfl rfl (hR _ _ rfl rfl) (by omega) (by omega) (by omega) (by decide) (bo aW aV rfl rfl (hR _ _ rfl rfl) (vs := cs0) hc0 hk0.len (by decide) (aK [_] rfl rfl rfl rfl Tryz.call26 (fun w1 h1 h2 h3 => ih 0 (by omega) 5 bl _ pb _ _ _ _ _ w1 h2 (hV.sub (PSub.of h1 h3)) (hk0.psub hV.pe (PSub.of h1 h3)) (by omega) (by omega) (by simp only [List.length_append,List.length_cons,List.length_nil] at hb ⊢; omega)) (fun A108 c108 => triL_nilN (ab (tri_slo [(4,_),(0,_)] rfl (aa (aj bT rfl rfl (ak bz N0 rfl rfl rfl (ax rfl rfl rfl (triL_nilN (ar rfl (fun q9 => ?_) (fun q9 => ?_))))))))))))))))))
               · skip
                 exact tri_slo [(0,_)] rfl (aa (ah rfl rfl (bF Tryz.underlying23 zs9 rfl rfl rfl rfl rfl (by decide) (by decide) (fun b113 => aK [_,_] rfl rfl rfl rfl Tryz.call20 (fun w1 h1 h2 h3 => cV [[32,105,115,32,110,111,116,32,110,117,108,108]] _ _ pb _ _ _ _ _ w1 h2 (RdS.row .z w1 h1) (fun a ha => by cases ha; exact bv h1 (fun x hx => (List.mem_cons_of_mem _ hx)) rfl) (by simp only [List.length_append,List.length_cons,List.length_nil,List.flatten_cons,List.flatten_nil] at hb ⊢; omega) (by simp)) (fun A114 c114 => ae (ao (cv rfl (bG (J := Option Addr × Nat) (A114,c114) rfl trivial (fun w2 hw2 => cj (by simp) (by omega) (by omega) (hw2.sel [2,3] (by decide)))))))))))
               · skip
                 exact absurd q8 (by omega)
             · skip
               exact tri_slo [(6,_),(4,_),(0,_)] rfl (aa (ah rfl rfl (aC aW aV .z rfl rfl (vs := ([.int .i64 o,.int .i64 v.k,.int .i64 v.n,.string (B v.s),.string (B t),.string (B n),.int .i64 cc,.slice Ax al.length kx] : List Value)) rfl rfl (ah rfl rfl (aK [_] rfl rfl rfl rfl Tryz.call59 (fun w1 h1 h2 h3 => binK o cc v t n al Ax kx xs low bl pb _ _ _ _ _ w1 h2 (hV.sub (PSub.of h1 h3)) hkx (hR _ _ rfl rfl w1 h1) hxb (ExsK.stab (hV.pe.st (PSub.of h1 h3)) _ _ hxs) hdm hd hb (by omega) (har2 (by omega)) hlow ih) (fun A33 c33 => ae (ao (cv rfl (bG (J := Option Addr × Nat) (A33,c33) rfl trivial (fun w2 hw2 => cj (by simp) (by omega) (by omega) (hw2.sel [1,2] (by decide))))))))))))
end Go.Proofs.YtjbpkcbefmpfgaaGreatDoor
namespace Go.Proofs.YtjbpkcbefmpfgaaGreatDoor
open Go.WK Go.RowKit 
theorem oK : bH Tryz.prog 30 4 = some 6 := by kernel_rfl
theorem zero27 : (Tryz.prog.info? 27).map (·.zero) = some (some (.agg #[.int .i64 0,.int .i64 0,.string .empty])) := by kernel_rfl
theorem wrapK_ (o cc : Int) (v : Val) (t n : List UInt8) (al : List Ex) (Ax : Option Addr) (kx : Nat) (_ : List Value) (low : Int) (bl : List Nat) (pb : Nat) (A : Option Addr) (c : Nat) (l : List UInt8) (d m : Int) (w : World) (hP : gq w pb A c l d m) (hV : PV w (prL pb A) bl) (hK : ExK bl w (.mk o v t n cc al) ([.int .i64 o,.int .i64 v.k,.int .i64 v.n,.string (B v.s),.string (B t),.string (B n),.int .i64 cc,.slice Ax al.length kx] : List Value)) (hdm : 0 ≤ d ∧ d ≤ m) (hd : d + ((Ex.txt (.mk o v t n cc al) low).2 : Int) ≤ 140737488355328) (hb : l.length + (Ex.txt (.mk o v t n cc al) low).1.length ≤ 70368744177664) (hlow : lvl o < low) (ih : ∀ (cs : List Value) (pb : Nat) (A : Option Addr) (c : Nat) (l : List UInt8) (d m : Int) (w : World),gq w pb A c l d m → PV w (prL pb A) bl → ExK bl w (.mk o v t n cc al) cs → 0 ≤ d ∧ d ≤ m → d + ((Ex.txt (.mk o v t n cc al) 1).2 : Int) ≤ 140737488355328 → l.length + (Ex.txt (.mk o v t n cc al) 1).1.length ≤ 70368744177664 → Calls Tryz.prog 26 #[.pointer (some ⟨pb,0,none⟩),.agg cs.toArray,.int .i64 1] w (PrT w pb A (l ++ (Ex.txt (.mk o v t n cc al) 1).1) d (max m (d + ((Ex.txt (.mk o v t n cc al) 1).2 : Int))))) : Calls Tryz.prog 26 #[.pointer (some ⟨pb,0,none⟩),.agg ([.int .i64 o,.int .i64 v.k,.int .i64 v.n,.string (B v.s),.string (B t),.string (B n),.int .i64 cc,.slice Ax al.length kx] : List Value).toArray,.int .i64 low] w (PrT w pb A (l ++ (Ex.txt (.mk o v t n cc al) low).1) (d) (max m (d + ((Ex.txt (.mk o v t n cc al) low).2 : Int)))) := by
 refine ay (args := [.pointer (some ⟨pb,0,none⟩),.agg ([.int .i64 o,.int .i64 v.k,.int .i64 v.n,.string (B v.s),.string (B t),.string (B n),.int .i64 cc,.slice Ax al.length kx] : List Value).toArray,.int .i64 low]) (lent := prL pb A) (H := prD pb A c l d m) Tryz.func26 rfl Tryz.ntmps26 rfl (Sat.cx hP) ((show Tri _ [(0,_),(1,_),(2,_)] _ _ _ from ?_))
 have hl8 := kb o
 have e1 : Ex.txt (.mk o v t n cc al) 1 = Ex.core (.mk o v t n cc al) := cU (by show ¬ lvl o < 1; omega)
 rw [kE hlow, ← e1] at hd hb ⊢
 simp only at hd hb ⊢
 refine ab (aa (bY _ rfl rfl rfl (fun b4 => triL_nilN (ab (aa (aj bT rfl rfl (ak bz N0 rfl rfl rfl (av (first := []) (cap := []) rfl rfl rfl Tryz.call56 (fun w1 h1 => levelK o w1) (o_assignN rfl rfl (ab (ab (tri_slo [(6,_),(4,_),(0,_),(2,_)] rfl (aa (ah rfl rfl (ah rfl rfl (bK rfl rfl rfl (triL_nilN (ar rfl (fun q0 => ?_) (fun q0 => ?_)))))))))))))))))))
 · skip
   exact ab (tri_slo [(4,_),(0,_)] rfl (aa (ah rfl rfl (aK [_] rfl rfl rfl rfl Tryz.call57 (fun w1 h1 h2 h3 => mW (1) pb _ _ _ _ _ w1 h2 (by omega) (by omega)) (fun A16 c16 => triL_nilN (ab (aa (ah rfl rfl (bF Tryz.underlying23 zs9 rfl rfl rfl rfl rfl (by decide) (by decide) (fun b18 => aK [_,_] rfl rfl rfl rfl Tryz.call20 (fun w1 h1 h2 h3 => cV [[40]] _ _ pb _ _ _ _ _ w1 h2 (RdS.row .z w1 h1) (fun a ha => by cases ha; exact bv h1 (fun x hx => (List.mem_cons_of_mem _ hx)) rfl) (by simp only [List.length_append,List.length_cons,List.length_nil,List.flatten_cons,List.flatten_nil] at hb ⊢; omega) (by simp)) (fun A19 c19 => triL_nilN (ab (tri_slo [(4,_),(0,_)] rfl (aa (ah rfl rfl (aC aW aV (.s .z) rfl rfl (vs := ([.int .i64 o,.int .i64 v.k,.int .i64 v.n,.string (B v.s),.string (B t),.string (B n),.int .i64 cc,.slice Ax al.length kx] : List Value)) rfl rfl (aK [_,_] rfl rfl rfl rfl Tryz.call26 (fun w1 h1 h2 h3 => ih _ pb _ _ _ _ _ w1 h2 (hV.sub (PSub.of h1 h3)) (hK.psub hV.pe (PSub.of h1 h3)) (by omega) (by omega) (by simp only [List.length_append,List.length_cons,List.length_nil,List.flatten_cons,List.flatten_nil] at hb ⊢; omega)) (fun A22 c22 => triL_nilN (ab (tri_slo [(0,_)] rfl (aa (ah rfl rfl (bF Tryz.underlying23 zs9 rfl rfl rfl rfl rfl (by decide) (by decide) (fun b24 => aK [_,_,_] rfl rfl rfl rfl Tryz.call20 (fun w1 h1 h2 h3 => cV [[41]] _ _ pb _ _ _ _ _ w1 h2 (RdS.row .z w1 h1) (fun a ha => by cases ha; exact bv h1 (fun x hx => (List.mem_cons_of_mem _ (List.mem_cons_of_mem _ hx))) rfl) (by simp only [List.length_append,List.length_cons,List.length_nil,List.flatten_cons,List.flatten_nil] at hb ⊢; omega) (by simp)) (fun A25 c25 => triL_nilN (ab (aa (ah rfl rfl (aK [_,_,_] rfl rfl rfl rfl Tryz.call57 (fun w1 h1 h2 h3 => mW (-1) pb _ _ _ _ _ w1 h2 (by omega) (by omega)) (fun A27 c27 => triL_nilN (ap (an (end0 rfl (bG (J := Option Addr × Nat) (A27,c27) rfl trivial (fun w2 hw2 => cj (by simp) (by omega) (by omega) (hw2.sel [3,4] (by decide)))))))))))))))))))))))))))))))))))))
 · skip
   exact absurd hlow q0
theorem exprK : ∀ (n : Nat) (e : Ex),e.size < n → e.may = true → e.ok → PX e := by
 intro n
 induction n with
 | zero => intro e h; omega
 | succ n ih =>
  intro e hs hm ho
  obtain ⟨o,v,t,nn,cc,al⟩ := e
  obtain ⟨m1,m2,m3,m4,m5⟩ := kZ hm
  have ih2 : ∀ i,i < al.length → PX (al.getD i Ex.zero) := fun i hi => ih _ (by have := Ex.size_at (o := o) (c := cc) (v := v) (t := t) (n := nn) hi; omega) (m5 i hi) (Ex.ok_at ho hi)
  have hof : o = 1 → fit v := fun h => fit_of (m2 h) ho.2.1
  have core : ∀ low : Int,¬ lvl o < low → ∀ (bl : List Nat) (cs : List Value) (pb : Nat) (A : Option Addr) (c : Nat) (l : List UInt8) (d m : Int) (w : World),gq w pb A c l d m → PV w (prL pb A) bl → ExK bl w (.mk o v t nn cc al) cs → 0 ≤ d ∧ d ≤ m → d + ((Ex.txt (.mk o v t nn cc al) low).2 : Int) ≤ 140737488355328 → l.length + (Ex.txt (.mk o v t nn cc al) low).1.length ≤ 70368744177664 →
    Calls Tryz.prog 26 #[.pointer (some ⟨pb,0,none⟩),.agg cs.toArray,.int .i64 low] w (PrT w pb A (l ++ (Ex.txt (.mk o v t nn cc al) low).1) d (max m (d + ((Ex.txt (.mk o v t nn cc al) low).2 : Int)))) := by
   intro low hl bl cs pb A c l d m w h1 h2 h3 h4 h5 h6
   obtain ⟨Ax,kx,xs,rfl,a1,a2,a3,a4⟩ := h3
   exact coreK_ o cc v t nn al Ax kx xs low bl pb A c l d m w h1 h2 a1 a2 a3 a4 h4 h5 h6 hl hof m3 m4 m1 ih2
  intro low bl cs pb A c l d m w h1 h2 h3 h4 h5 h6
  by_cases hl : lvl o < low
  · have hk := h3
    obtain ⟨Ax,kx,xs,rfl,_⟩ := h3
    have hl8 := kb o
    exact wrapK_ o cc v t nn al Ax kx xs low bl pb A c l d m w h1 h2 hk h4 h5 h6 hl (fun cs pb A c l d m w => core 1 (by omega) bl cs pb A c l d m w)
  · exact core low hl bl cs pb A c l d m w h1 h2 h3 h4 h5 h6
theorem dZ (s : List UInt8) (w : World) (hs : s.length ≤ 70368744177664) : Calls Tryz.prog 30 #[.string (B s)] w (bX w (.bool (nameOk s))) := by
 refine ay (args := [.string (B s)]) (lent := []) (H := []) Tryz.func30 rfl Tryz.ntmps30 rfl (Sat.start _ _ _ _) ((show Tri _ [(0,_)] _ _ _ from ab (aa (o_assignN rfl rfl (ab (aa (ah rfl rfl (av (first := []) (cap := []) rfl rfl rfl Tryz.call68 (fun w1 h1 => nameRk s w1 (by omega)) (ah rfl rfl ?_)))))))))
 refine' aA [_,_,_] [(2,_)] (dj := 5) (dr := 8) rfl rfl (fun g1 => ?_) ⟨_,rfl,rfl,rfl,(.cons rfl (.nil _))⟩ rfl ?_
 rotate_left
 · skip
   exact ah rfl rfl (av (first := []) (cap := []) rfl rfl rfl Tryz.call69 (fun w1 h1 => wordK s w1) (cu rfl rfl (ae (Piece.mk rfl rfl (.cons rfl (.nil _)) (fun _ h => h)))))
 refine o_assignN rfl rfl (ap (aT rfl rfl ?_)); exact fun w1 hw1 => ⟨congrArg (fun b => Ending.returned (.bool b)) (by unfold nameOk; rw [mR]),hw1.chg⟩
theorem pS (n k : Nat) (w : World)  : Calls Tryz.prog 31 #[.int .i64 (n : Int),.int .i64 (k : Int)] w (bX w (.bool (ft n k))) := by
 refine ay (args := [.int .i64 (n : Int),.int .i64 (k : Int)]) (lent := []) (H := []) Tryz.func31 rfl Tryz.ntmps31 rfl (Sat.start _ _ _ _) ((show Tri _ [(0,_),(1,_)] _ _ _ from ab (aa (o_assignN rfl rfl (ab (aa (ah rfl rfl (gd rfl rfl rfl (ah rfl rfl ?_)))))))))
 refine' aA [_,_,_] [(4,_)] (dj := 7) (dr := 10) rfl rfl (fun g1 => ?_) ⟨_,rfl,rfl,rfl,(.cons rfl (.nil _))⟩ rfl ?_
 rotate_left
 · skip
   exact ah rfl rfl (ah rfl rfl (gc rfl rfl rfl (ae (Piece.mk rfl rfl (.cons rfl (.nil _)) (fun _ h => h)))))
 refine o_assignN rfl rfl (ap (aT rfl rfl ?_)); exact fun w1 hw1 => ⟨congrArg (fun b => Ending.returned (.bool b)) (by unfold ft; congr 1 <;> exact decide_eq_decide.2 (by omega)),hw1.chg⟩
theorem bareK (o cc : Int) (v : Val) (t n : List UInt8) (al : List Ex) (Ax : Option Addr) (kx : Nat) (op : Int) (w : World)  : Calls Tryz.prog 70 #[.agg ([.int .i64 o,.int .i64 v.k,.int .i64 v.n,.string (B v.s),.string (B t),.string (B n),.int .i64 cc,.slice Ax al.length kx] : List Value).toArray,.int .i64 op] w (bX w (.bool (bareX (.mk o v t n cc al) op))) := by
 refine ay (args := [.agg ([.int .i64 o,.int .i64 v.k,.int .i64 v.n,.string (B v.s),.string (B t),.string (B n),.int .i64 cc,.slice Ax al.length kx] : List Value).toArray,.int .i64 op]) (lent := []) (H := []) Tryz.func70 rfl Tryz.ntmps70 rfl (Sat.start _ _ _ _) ((show Tri _ [(0,_),(1,_)] _ _ _ from ab (aa (bY _ rfl rfl rfl (fun b2 => o_assignN rfl rfl (ab (aa (aj bT rfl rfl (ak bz N0 rfl rfl rfl (ah rfl rfl (ax rfl rfl rfl (ah rfl rfl ?_))))))))))))
 refine' aA [_,_,_,_] [(4,_),(2,_)] (dj := 9) (dr := 13) rfl rfl (fun g1 => ?_) ⟨_,rfl,rfl,rfl,(.cons rfl (.cons rfl (.nil _)))⟩ rfl ?_
 rotate_left
 · skip
   exact aj gb rfl rfl (aC hY jJ .z rfl rfl (vs := Val.cs v) rfl rfl (aU mU rfl rfl (o_eqlV oI rfl rfl rfl (ae (Piece.mk rfl rfl (.cons rfl (.cons rfl (.nil _))) (fun _ h => h))))))
 refine ah rfl rfl ?_
 refine' aA [_,_,_] [(4,_),(2,_)] (dj := 15) (dr := 18) rfl rfl (fun g2 => ?_) ⟨_,rfl,rfl,rfl,(.cons rfl (.cons rfl (.nil _)))⟩ rfl ?_
 rotate_left
 · skip
   exact aj eL rfl rfl (ak bd N0 rfl rfl rfl (bE rfl rfl rfl (ae (Piece.mk rfl rfl (.cons rfl (.cons rfl (.nil _))) (fun _ h => h)))))
 refine ah rfl rfl ?_
 refine' aA [_,_,_] [(4,_),(2,_)] (dj := 20) (dr := 23) rfl rfl (fun g3 => ?_) ⟨_,rfl,rfl,rfl,(.cons rfl (.cons rfl (.nil _)))⟩ rfl ?_
 rotate_left
 · skip
   exact aj fk rfl rfl (ak bd N0 rfl rfl rfl (bE rfl rfl rfl (ae (Piece.mk rfl rfl (.cons rfl (.cons rfl (.nil _))) (fun _ h => h)))))
 refine ah rfl rfl ?_
 refine' aA [_,_,_] [(4,_),(2,_)] (dj := 25) (dr := 28) rfl rfl (fun g4 => ?_) ⟨_,rfl,rfl,rfl,(.cons rfl (.cons rfl (.nil _)))⟩ rfl ?_
 rotate_left
 · skip
   exact aj oK rfl rfl (ak bz N0 rfl rfl rfl (ax rfl rfl rfl (ae (Piece.mk rfl rfl (.cons rfl (.cons rfl (.nil _))) (fun _ h => h)))))
 refine ah rfl rfl ?_
 refine' aA [_,_,_,_] [(4,_)] (dj := 30) (dr := 34) rfl rfl (fun g5 => ?_) ⟨_,rfl,rfl,rfl,(.cons rfl (.nil _))⟩ rfl ?_
 rotate_left
 · skip
   exact aj cK rfl rfl (ak cM N0 rfl rfl rfl (aN Tryz.underlying28 rfl rfl (ax rfl rfl rfl (ae (Piece.mk rfl rfl (.cons rfl (.nil _)) (fun _ h => h))))))
 refine o_assignN rfl rfl (ap (aT rfl rfl ?_)); exact fun w1 hw1 => ⟨congrArg (fun b => Ending.returned (.bool b)) (by exact bareX_eq o v t n cc al op),hw1.chg⟩
theorem lacksK (o cc : Int) (v : Val) (t n : List UInt8) (al : List Ex) (Ax : Option Addr) (kx : Nat) (w : World)  : Calls Tryz.prog 72 #[.agg ([.int .i64 o,.int .i64 v.k,.int .i64 v.n,.string (B v.s),.string (B t),.string (B n),.int .i64 cc,.slice Ax al.length kx] : List Value).toArray] w (bX w (.bool (dW (.mk o v t n cc al)))) := by
 refine ay (args := [.agg ([.int .i64 o,.int .i64 v.k,.int .i64 v.n,.string (B v.s),.string (B t),.string (B n),.int .i64 cc,.slice Ax al.length kx] : List Value).toArray]) (lent := []) (H := []) Tryz.func72 rfl Tryz.ntmps72 rfl (Sat.start _ _ _ _) ((show Tri _ [(0,_)] _ _ _ from ab (aa (bY _ rfl rfl rfl (fun b1 => o_assignN rfl rfl (ab (aa (aC aW aV N0 rfl rfl rfl rfl (av (first := []) (cap := []) rfl rfl rfl Tryz.call70 (fun w1 h1 => bareK o cc v t n al Ax kx 0 w1) (o_assignN rfl rfl (ap (aT rfl rfl ?_)))))))))))); exact fun w1 hw1 => ⟨rfl,hw1.chg⟩
def MX (e : Ex) : Prop := ∀ (cs : List Value) (w : World),ExC w e cs → e.ok → e.size ≤ 70368744177664 → Calls Tryz.prog 32 #[.agg cs.toArray] w (bX w (.bool e.may))
theorem ar1 {o : Int} (h : (((decide (o = 4) || decide (o = 5)) || decide (o = 6)) || decide (o = 7)) = true) : arity o = 1 := by
 simp only [Bool.or_eq_true,decide_eq_true_eq] at h
 unfold arity; rw [if_pos (by omega)]
theorem ar2 {o : Int} (h : (((decide (o = 4) || decide (o = 5)) || decide (o = 6)) || decide (o = 7)) = false) : arity o = 2 := by
 simp only [Bool.or_eq_false_iff,decide_eq_false_iff_not] at h
 unfold arity; rw [if_neg (by omega)]
set_option maxHeartbeats 1000000 in
theorem mayStep (o cc : Int) (v : Val) (t n : List UInt8) (al : List Ex) (Ax : Option Addr) (kx : Nat) (xs : List Value) (w : World) (_ : al.length ≤ kx) (hxr : Rd w Ax xs) (hxs : ExsC w al xs) (ho : Ex.ok (.mk o v t n cc al)) (hz : Ex.size (.mk o v t n cc al) ≤ 70368744177664) (ih : ∀ i,i < al.length → MX (al.getD i Ex.zero)) : Calls Tryz.prog 32 #[.agg ([.int .i64 o,.int .i64 v.k,.int .i64 v.n,.string (B v.s),.string (B t),.string (B n),.int .i64 cc,.slice Ax al.length kx] : List Value).toArray] w (bX w (.bool (Ex.may (.mk o v t n cc al)))) := by
 refine ay (args := [.agg ([.int .i64 o,.int .i64 v.k,.int .i64 v.n,.string (B v.s),.string (B t),.string (B n),.int .i64 cc,.slice Ax al.length kx] : List Value).toArray]) (lent := []) (H := []) Tryz.func32 rfl Tryz.ntmps32 rfl (Sat.start _ _ _ _) ((show Tri _ [(0,_)] _ _ _ from ?_))
 have hR : ∀ cx H,cx.w0 = w → cx.lent = [] → RdS cx H Ax xs := fun cx H q1 q2 => RdS.lent (by rw [q1]; exact hxr) (fun b hb => by rw [q2]; simp)
 have hxl := hxs.len
 have hz2 : v.s.length + t.length + n.length ≤ 70368744177664 ∧ al.length ≤ 70368744177664 := by have := Exs.len_size al; simp only [Ex.size] at hz; omega
 refine ab (aa (bY _ rfl rfl rfl (fun b1 => o_assignN rfl rfl (ab (aa (o_assignN rfl rfl (br (ι := Nat) (fun i => [(1,.pointer (some ⟨b1,0,none⟩)),(3,.int .i64 (arity o : Int))]) (fun i => [box b1 30 ([.int .i64 o,.int .i64 v.k,.int .i64 v.n,.string (B v.s),.string (B t),.string (B n),.int .i64 cc,.slice Ax al.length kx] : List Value)]) (fun i => (4 ≤ o ∧ o ≤ 21)) ?_ (fun i hj => ?_))))))))
 · skip
   refine aw (ab (aa (aj bT rfl rfl (ak bz N0 rfl rfl rfl (ax rfl rfl rfl (o_assignN rfl rfl (ar rfl (fun q0 => ?_) (fun q0 => ?_))))))))
   · skip
     subst q0
     refine ab (tri_slo [(1,_)] rfl (aa (aj gb rfl rfl (aC hY jJ .z rfl rfl (vs := Val.cs v) rfl rfl (aP (Val.cs Val.zero) rfl zero27 rfl (fun b4 => s6 jJ N0 rfl rfl rfl (triL_nilN (ab (aa (aU mU rfl rfl (aj gb rfl rfl (aO jJ (.s .z) rfl rfl rfl (vs := Val.cs Val.zero) rfl rfl (Nat.le_of_ble_eq_true rfl) rfl (triL_nilN (ab (tri_slo [(4,_),(1,_)] rfl (aa (aC aW aV (.s .z) rfl rfl (vs := ([.int .i64 1,.int .i64 (Val.zero).k,.int .i64 (Val.zero).n,.string (B (Val.zero).s),.string (B t),.string (B n),.int .i64 cc,.slice Ax al.length kx] : List Value)) rfl rfl (av (first := []) (cap := []) rfl rfl rfl Tryz.call70 (fun w1 h1 => bareK 1 cc Val.zero t n al Ax kx 1 w1) (ah rfl rfl ?_)))))))))))))))))))
     refine' aA [_,_] [(4,_)] (dj := 18) (dr := 20) rfl rfl (fun g1 => ?_) ⟨_,rfl,rfl,rfl,(.cons rfl (.nil _))⟩ rfl ?_
     rotate_left
     · skip
       exact jg hY jJ N0 rfl rfl (av (first := []) (cap := []) rfl rfl rfl Tryz.call71 (fun w1 h1 => mayK v w1 ⟨ho.2.1,by omega⟩) (ae (Piece.mk rfl rfl (.cons rfl (.nil _)) (fun _ h => h))))
     refine ah rfl rfl ?_
     refine' aA [_,_,_,_,_,_,_,_] [] (dj := 22) (dr := 30) rfl rfl (fun g2 => ?_) ⟨_,rfl,rfl,rfl,(.nil _)⟩ rfl ?_
     rotate_left
     · skip
       refine aj ga rfl rfl (ak bz N0 rfl rfl rfl (cB rfl rfl rfl (ah rfl rfl ?_)))
       refine' aQ [_,_,_] [(22,_)] (dj := 26) (dr := 29) rfl rfl (fun g3 => ?_) ⟨_,rfl,rfl,rfl,(.cons rfl (.nil _))⟩ rfl ?_
       rotate_left
       · skip
         exact aj fw rfl rfl (ak lm N0 rfl rfl rfl (gd rfl rfl rfl (ae (Piece.mk rfl rfl (.cons rfl (.nil _)) (fun _ h => h)))))
       exact ae (Piece.mk rfl rfl (.nil _) (fun _ h => h))
     refine o_assignN rfl rfl (ap (aq (an (aT rfl rfl ?_)))); exact fun w1 hw1 => ⟨congrArg (fun b => Ending.returned (.bool b)) (by rw [may_1]),hw1.chg⟩
   · skip
     refine ab (tri_slo [(3,_),(1,_)] rfl (aa (aj bT rfl rfl (ak bz N0 rfl rfl rfl (ax rfl rfl rfl (o_assignN rfl rfl (ar rfl (fun q1 => ?_) (fun q1 => ?_))))))))
     · skip
       subst q1
       refine ab (tri_slo [(1,_)] rfl (aa (aj fk rfl rfl (ak bd N0 rfl rfl rfl (av (first := []) (cap := []) rfl rfl rfl Tryz.call30 (fun w1 h1 => dZ n w1 (by omega)) (ah rfl rfl ?_))))))
       refine' aA [_,_,_,_,_,_,_,_] [(1,_)] (dj := 39) (dr := 47) rfl rfl (fun g4 => ?_) ⟨_,rfl,rfl,rfl,(.cons rfl (.nil _))⟩ rfl ?_
       rotate_left
       · skip
         refine aj eL rfl rfl (ak bd N0 rfl rfl rfl (bE rfl rfl rfl (ah rfl rfl ?_)))
         refine' aQ [_,_,_] [(39,_),(1,_)] (dj := 43) (dr := 46) rfl rfl (fun g5 => ?_) ⟨_,rfl,rfl,rfl,(.cons rfl (.cons rfl (.nil _)))⟩ rfl ?_
         rotate_left
         · skip
           exact aj eL rfl rfl (ak bd N0 rfl rfl rfl (av (first := []) (cap := []) rfl rfl rfl Tryz.call30 (fun w1 h1 => dZ t w1 (by omega)) (ae (Piece.mk rfl rfl (.cons rfl (.cons rfl (.nil _))) (fun _ h => h)))))
         exact ae (Piece.mk rfl rfl (.cons rfl (.nil _)) (fun _ h => h))
       refine o_assignN rfl rfl (ab (aa (aj fk rfl rfl (aO sz9 N0 rfl rfl rfl rfl rfl (Nat.le_of_ble_eq_true rfl) rfl (aj eL rfl rfl (aO sz9 N0 rfl rfl rfl rfl rfl (Nat.le_of_ble_eq_true rfl) rfl (triL_nilN (ab (aa (ah rfl rfl (ah rfl rfl ?_)))))))))))
       refine' aA [_,_] [] (dj := 52) (dr := 54) rfl rfl (fun g6 => ?_) ⟨_,rfl,rfl,rfl,(.nil _)⟩ rfl ?_
       rotate_left
       · skip
         exact aC aW aV .z rfl rfl (vs := ([.int .i64 2,.int .i64 (v).k,.int .i64 (v).n,.string (B (v).s),.string (B []),.string (B []),.int .i64 cc,.slice Ax al.length kx] : List Value)) rfl rfl (av (first := []) (cap := []) rfl rfl rfl Tryz.call70 (fun w1 h1 => bareK 2 cc v [] [] al Ax kx 2 w1) (ae (Piece.mk rfl rfl (.nil _) (fun _ h => h))))
       refine o_assignN rfl rfl (ap (aq (an (aT rfl rfl ?_)))); exact fun w1 hw1 => ⟨congrArg (fun b => Ending.returned (.bool b)) (by rw [may_2]),hw1.chg⟩
     · skip
       refine ab (tri_slo [(3,_),(1,_)] rfl (aa (aj bT rfl rfl (ak bz N0 rfl rfl rfl (ax rfl rfl rfl (ah rfl rfl ?_))))))
       refine' aQ [_,_,_] [(3,_),(1,_)] (dj := 60) (dr := 63) rfl rfl (fun g7 => ?_) ⟨_,rfl,rfl,rfl,(.cons rfl (.cons rfl (.nil _)))⟩ rfl ?_
       rotate_left
       · skip
         exact aj bT rfl rfl (ak bz N0 rfl rfl rfl (ax rfl rfl rfl (ae (Piece.mk rfl rfl (.cons rfl (.cons rfl (.nil _))) (fun _ h => h)))))
       refine ah rfl rfl ?_
       refine' aQ [_,_,_] [(3,_),(1,_)] (dj := 65) (dr := 68) rfl rfl (fun g8 => ?_) ⟨_,rfl,rfl,rfl,(.cons rfl (.cons rfl (.nil _)))⟩ rfl ?_
       rotate_left
       · skip
         exact aj bT rfl rfl (ak bz N0 rfl rfl rfl (ax rfl rfl rfl (ae (Piece.mk rfl rfl (.cons rfl (.cons rfl (.nil _))) (fun _ h => h)))))
       refine ah rfl rfl ?_
       refine' aQ [_,_,_] [(3,_),(1,_)] (dj := 70) (dr := 73) rfl rfl (fun g9 => ?_) ⟨_,rfl,rfl,rfl,(.cons rfl (.cons rfl (.nil _)))⟩ rfl ?_
       rotate_left
       · skip
         exact aj bT rfl rfl (ak bz N0 rfl rfl rfl (ax rfl rfl rfl (ae (Piece.mk rfl rfl (.cons rfl (.cons rfl (.nil _))) (fun _ h => h)))))
       refine o_assignN rfl rfl (aE rfl (fun q2 => ?_) (fun q2 => ?_))
       · skip
         exact aa (aB rfl rfl (ae (ao (ag (⟨0,(.cons rfl (.cons (by rw [ar1 q2]; rfl) (.nil _))),fun _ h => h,by simp only [Bool.or_eq_true,decide_eq_true_eq] at q2; omega⟩)))))
       · skip
         refine ab (aa (aj bT rfl rfl (ak bz N0 rfl rfl rfl (bK rfl rfl rfl (ah rfl rfl ?_)))))
         refine' aQ [_,_,_] [(3,_),(1,_)] (dj := 79) (dr := 82) rfl rfl (fun g10 => ?_) ⟨_,rfl,rfl,rfl,(.cons rfl (.cons rfl (.nil _)))⟩ rfl ?_
         rotate_left
         · skip
           exact aj bT rfl rfl (ak bz N0 rfl rfl rfl (cR rfl rfl rfl (ae (Piece.mk rfl rfl (.cons rfl (.cons rfl (.nil _))) (fun _ h => h)))))
         refine o_assignN rfl rfl (aE rfl (fun q3 => ?_) (fun q3 => ?_))
         · skip
           refine ab (az [] (.nil _) (aa (o_assignN rfl rfl (ap (aq (an (aT rfl rfl ?_))))))); exact fun w1 hw1 => ⟨congrArg (fun b => Ending.returned (.bool b)) (by exact (may_no v t n cc al q0 q1 (by simp only [Bool.or_eq_true,decide_eq_true_eq] at q3; simp only [Bool.or_eq_false_iff,decide_eq_false_iff_not] at q2; omega)).symm),hw1.chg⟩
         · skip
           exact am (ao (ag (⟨0,(.cons rfl (.cons (by rw [ar2 q2]; rfl) (.nil _))),fun _ h => h,by simp only [Bool.or_eq_false_iff,decide_eq_false_iff_not] at q3; omega⟩)))
 have hn1 : o ≠ 1 := by omega
 have hn2 : o ≠ 2 := by omega
 refine ab (ab (aa (aj cK rfl rfl (ak cM N0 rfl rfl rfl (aN Tryz.underlying28 rfl rfl (ah rfl rfl (cB rfl rfl rfl (ah rfl rfl ?_))))))))
 refine' aQ [_,_,_,_] [(1,_)] (dj := 89) (dr := 93) rfl rfl (fun g11 => ?_) ⟨_,rfl,rfl,rfl,(.cons rfl (.nil _))⟩ rfl ?_
 rotate_left
 · skip
   exact aj gb rfl rfl (aC hY jJ .z rfl rfl (vs := Val.cs v) rfl rfl (aU mU rfl rfl (o_neqV oI rfl rfl rfl (ae (Piece.mk rfl rfl (.cons rfl (.nil _)) (fun _ h => h))))))
 refine ah rfl rfl ?_
 refine' aQ [_,_,_] [(1,_)] (dj := 95) (dr := 98) rfl rfl (fun g12 => ?_) ⟨_,rfl,rfl,rfl,(.cons rfl (.nil _))⟩ rfl ?_
 rotate_left
 · skip
   exact aj eL rfl rfl (ak bd N0 rfl rfl rfl (cY rfl rfl rfl (ae (Piece.mk rfl rfl (.cons rfl (.nil _)) (fun _ h => h)))))
 refine ah rfl rfl ?_
 refine' aQ [_,_,_] [(1,_)] (dj := 100) (dr := 103) rfl rfl (fun g13 => ?_) ⟨_,rfl,rfl,rfl,(.cons rfl (.nil _))⟩ rfl ?_
 rotate_left
 · skip
   exact aj fk rfl rfl (ak bd N0 rfl rfl rfl (cY rfl rfl rfl (ae (Piece.mk rfl rfl (.cons rfl (.nil _)) (fun _ h => h)))))
 refine ah rfl rfl ?_
 refine' aQ [_,_,_] [(1,_)] (dj := 105) (dr := 108) rfl rfl (fun g14 => ?_) ⟨_,rfl,rfl,rfl,(.cons rfl (.nil _))⟩ rfl ?_
 rotate_left
 · skip
   exact aj oK rfl rfl (ak bz N0 rfl rfl rfl (cB rfl rfl rfl (ae (Piece.mk rfl rfl (.cons rfl (.nil _)) (fun _ h => h)))))
 refine triL_nilN (aE rfl (fun q4 => ?_) (fun q4 => ?_))
 · skip
   refine ab (aa (o_assignN rfl rfl (ap (an (aT rfl rfl ?_))))); exact fun w1 hw1 => ⟨congrArg (fun b => Ending.returned (.bool b)) (by exact (r7 v t n cc al hn1 hn2 q4).symm),hw1.chg⟩
 · skip
   refine am (ag (ab (ab (aa (aj cK rfl rfl (ak cM N0 rfl rfl rfl (aN Tryz.underlying28 rfl rfl (ah rfl rfl (triL_nilN (aw (bf (ι := Nat) (F := fun i => [(111,.slice Ax al.length kx),(112,.int .i64 (al.length : Int)),(113,.int .i64 (i : Int))]) (HH := fun i => [box b1 30 ([.int .i64 o,.int .i64 v.k,.int .i64 v.n,.string (B v.s),.string (B t),.string (B n),.int .i64 cc,.slice Ax al.length kx] : List Value)]) (Pu := fun i => i ≤ al.length ∧ (al.take i).all Ex.may = true) (μ := fun i => al.length - i) (0) (.cons rfl (.cons rfl (.cons rfl (.nil _)))) (fun _ h => h) (⟨Nat.zero_le _,rfl⟩) (fun i hi => ab (aa (bK rfl rfl rfl (triL_nilN (ab (ar rfl (fun q5 => ?_) (fun q5 => ?_))))))))))))))))))
   · skip
     refine am (ag (ab (aw (ab ?_))))
     obtain ⟨ca,hca,hka⟩ := ExsC.at i hxs (by omega)
     refine aa (aL Tryz.underlying28 aV rfl rfl rfl (hR _ _ rfl rfl) (by omega) (by omega) (by omega) (by decide) (bo aW aV rfl rfl (hR _ _ rfl rfl) (vs := ca) hca hka.len (by decide) (aP _ rfl c7 rfl (fun b7 => bN rfl hka.xc aV N0 rfl rfl rfl (triL_nilN (ab (aa (dN hka.xc aW aV N0 rfl rfl (av (first := []) (cap := []) rfl rfl rfl Tryz.call32 (fun w1 h1 => ih i (by omega) ca w1 (ExC.chg h1.chg _ _ hka) (Ex.ok_at ho (by omega)) (by have := Ex.size_at (o := o) (c := cc) (v := v) (t := t) (n := n) (l := al) (i := i) (by omega); omega)) (cu rfl rfl (triL_nilN (aE rfl (fun q6 => ?_) (fun q6 => ?_)))))))))))))
     · skip
       have q6 := ci q6
       refine ab (az [] (.nil _) (aa (o_assignN rfl rfl (ap (aq (an (an (aq (an (aT rfl rfl ?_)))))))))); exact fun w1 hw1 => ⟨congrArg (fun b => Ending.returned (.bool b)) (by rw [om v t n cc al hn1 hn2 hj q4]; exact (r8 (by omega) q6).symm),hw1.chg⟩
     · skip
       have q6 := bU q6
       exact am (ao (ag (tri_slo [(111,_),(112,_),(113,_)] rfl (aa (bn rfl rfl rfl (by omega) (ah rfl rfl (triL_nilN (⟨i + 1,(.cons rfl (.cons rfl (.cons rfl (.nil _)))),(fun w2 hw2 => hw2.tail),⟨by omega,pz (by omega) hi.2 q6⟩,by omega⟩))))))))
   · skip
     refine aS (au (au (aG (ag (ab (az [] (.nil _) (aa (o_assignN rfl rfl (ap (aT rfl rfl ?_)))))))))); exact fun w1 hw1 => ⟨congrArg (fun b => Ending.returned (.bool b)) (by rw [om v t n cc al hn1 hn2 hj q4, ← hi.2,List.take_of_length_le (by omega)]),hw1.chg⟩
end Go.Proofs.YtjbpkcbefmpfgaaGreatDoor
namespace Go.Proofs.YtjbpkcbefmpfgaaGreatDoor
open Go.WK Go.RowKit 
theorem sH : Tryz.prog.built 67 [] = some ([.slice none 0 0,.int .i64 0,.int .i64 0] : List Value).toArray := by kernel_rfl
theorem mayXK : ∀ (n : Nat) (e : Ex),e.size < n → MX e := by
 intro n
 induction n with
 | zero => intro e h; omega
 | succ n ih =>
  intro e hs
  obtain ⟨o,v,t,nn,cc,al⟩ := e
  intro cs w hc ho hz
  obtain ⟨Ax,kx,xs,rfl,h1,h2,h3⟩ := hc
  exact mayStep o cc v t nn al Ax kx xs w h1 h2 h3 ho hz (fun i hi => ih _ (by have := Ex.size_at (o := o) (c := cc) (v := v) (t := t) (n := nn) hi; omega))
theorem nS (e : Ex) (bl : List Nat) (y : SL) (w : World) (h : ExR bl w e y) (ho : e.ok) (hz : e.size ≤ 70368744177664) : Calls Tryz.prog 32 #[.agg (bA e y).toArray] w (bX w (.bool e.may)) := mayXK (e.size + 1) e (by omega) _ w (ExK.c _ _ h) ho hz
theorem oL (e : Ex) (y : SL) (w : World) : Calls Tryz.prog 72 #[.agg (bA e y).toArray] w (bX w (.bool (dW e))) := by
 obtain ⟨o,v,t,n,c,al⟩ := e
 exact lacksK o c v t n al y.A y.k w
theorem nT (e : Ex) (hm : e.may = true) (ho : e.ok) (low : Int) (bl : List Nat) (y : SL) (pb : Nat) (A : Option Addr) (c : Nat) (l : List UInt8) (d m : Int) (w : World) (hP : gq w pb A c l d m) (hV : PV w (prL pb A) bl) (hK : ExR bl w e y) (hdm : 0 ≤ d ∧ d ≤ m) (hd : d + ((e.txt low).1.length : Int) ≤ 140737488355328) (hb : l.length + (e.txt low).1.length ≤ 70368744177664) :
  Calls Tryz.prog 26 #[.pointer (some ⟨pb,0,none⟩),.agg (bA e y).toArray,.int .i64 low] w (PrT w pb A (l ++ (e.txt low).1) d (max m (d + ((e.txt low).2 : Int)))) :=
 exprK (e.size + 1) e (by omega) hm ho low bl _ pb A c l d m w hP hV hK hdm (by have := r6 (e.size + 1) e (by omega) hm low; omega) hb
theorem rr (e : Ex) (y : SL) (bl : List Nat) (w : World) (hK : ExR bl w e y) (ho : e.ok) (hz : e.size ≤ 70368744177664) (hbl : ∀ k ∈ bl,k < w.heap.size) : Calls Tryz.prog 33 #[.agg (bA e y).toArray] w (bX w (.bool (gR e))) := by
 refine ay (args := [.agg (bA e y).toArray]) (lent := []) (H := []) Tryz.func33 rfl Tryz.ntmps33 rfl (Sat.start _ _ _ _) ((show Tri _ [(0,_)] _ _ _ from ab (aa (bY _ rfl rfl rfl (fun b1 => o_assignN rfl rfl (ab (aa (aC aW aV .z rfl rfl (vs := bA e y) rfl rfl (av (first := []) (cap := []) rfl rfl rfl Tryz.call72 (fun w1 h1 => oL e y w1) (ah rfl rfl ?_))))))))))
 refine' aQ [_,_] [(2,_)] (dj := 5) (dr := 7) rfl rfl (fun g1 => ?_) ⟨_,rfl,rfl,rfl,(.cons rfl (.nil _))⟩ rfl ?_
 rotate_left
 · skip
   exact aC aW aV .z rfl rfl (vs := bA e y) rfl rfl (av (first := []) (cap := []) rfl rfl rfl Tryz.call32 (fun w1 h1 => nS e bl y w1 (hK.stab (fun k hk => h1.chg.block k (hbl k hk) (by simp))) ho hz) (ae (Piece.mk rfl rfl (.cons rfl (.nil _)) (fun _ h => h))))
 refine o_assignN rfl rfl (ap (aT rfl rfl ?_)); exact fun w1 hw1 => ⟨rfl,hw1.chg⟩
theorem Sat.nilRow {cx : Cx} {H : List Chunk} {w : World} (h : Sat cx H w) (t : Nat) : Sat cx (row (.slice none 0 0) t 1 0 [] :: H) w :=
 h.fuse (l := []) _ (fun _ => ⟨rfl,.inl ⟨rfl,rfl⟩⟩) (fun k hk => by cases hk)
theorem rs (e : Ex) (y : SL) (bl : List Nat) (w : World) (hV : PV w [] bl) (hK : ExR bl w e y) (ho : e.ok) (hz : e.size ≤ 70368744177664) (hT : e.may = true → (e.txt 1).1.length ≤ 70368744177664) : Calls Tryz.prog 13 #[.agg (bA e y).toArray] w (bX w (.tuple #[.string (B (prX e).1),.int .i64 (prX e).2])) := by
 refine ay (args := [.agg (bA e y).toArray]) (lent := []) (H := []) Tryz.func13 rfl Tryz.ntmps13 rfl (Sat.start _ _ _ _) ((show Tri _ [(0,_)] _ _ _ from ?_))
 have hbl : ∀ k ∈ bl,k < w.heap.size := fun k hk => (hV.pe.lt k hk).1
 rw [prX_told]
 refine ab (aa (bY _ rfl rfl rfl (fun b1 => aB rfl rfl (o_assignN rfl rfl (ab (ab (aa (aC aW aV .z rfl rfl (vs := bA e y) rfl rfl (av (first := []) (cap := []) rfl rfl rfl Tryz.call32 (fun w1 h1 => nS e bl y w1 (hK.stab (fun k hk => h1.chg.block k (hbl k hk) (by simp))) ho hz) (cu rfl rfl (triL_nilN (aE rfl (fun q0 => ?_) (fun q0 => ?_)))))))))))))
 · skip
   have q0 := ci q0
   refine ab (az [] (.nil _) (aa (aB rfl rfl (o_assignN rfl rfl (ap (an (dA rfl rfl rfl ?_))))))); exact fun w1 hw1 => ⟨by rw [if_neg (dP q0)],hw1.chg⟩
 · skip
   have q0 := bU q0
   refine am (ag (ab (tri_slo [(1,_)] rfl (aa (aU sH rfl rfl (bY _ rfl rfl rfl (fun b9 => o_assignN rfl rfl (ab ?_))))))))
   have hT2 := hT q0
   refine Tri.heap (H' := [box b1 30 (bA e y)] ++ prD b9 none 0 [] 0 0) (fun w hw => (Sat.nilRow hw 5).sel [2,1,0] (by decide)) (aa (ah rfl rfl (aC aW aV .z rfl rfl (vs := bA e y) rfl rfl (aK (pb := b9) [_] rfl rfl rfl rfl Tryz.call26 (fun w1 h1 h2 h3 => nT e q0 ho 1 bl y b9 _ _ _ _ _ w1 h2 (hV.sub (PSub.of h1 h3)) (hK.stab (hV.pe.st (PSub.of h1 h3))) (by omega) (by omega) (by simp only [List.length_nil]; omega)) (fun A12 c12 => triL_nilN (ab (tri_slo [(4,_)] rfl (aa (ah rfl rfl (jt (J := Unit) (val := fun _ => .tuple #[.string (B (gH _ _).1),.int .i64 (gH _ _).2]) (D' := fun _ => prD b9 _ _ _ _ _) (Pu := fun _ => True) [_] (prD b9 _ _ _ _ _) [] (prL b9 _) rfl rfl rfl rfl Tryz.call28 (prD1 _ _ _ _ _ _) (prD2 _ _ _ _ _ _) (fun w1 h1 h2 => toldK b9 _ _ _ _ _ w1 h2 (by (try simp only [List.nil_append]); omega)) (fun _ _ => aX rfl rfl rfl (aX rfl rfl rfl (aB rfl rfl (o_assignN rfl rfl (ap (dA rfl rfl rfl ?_)))))))))))))))); exact fun w1 hw1 => ⟨by rw [if_pos q0,List.nil_append,show max (0 : Int) (0 + ((e.txt 1).2 : Int)) = ((e.txt 1).2 : Int) by omega],hw1.chg⟩
end Go.Proofs.YtjbpkcbefmpfgaaGreatDoor
namespace Go.Proofs.YtjbpkcbefmpfgaaGreatDoor
open Go.WK Go.RowKit 
theorem asR_ (s : List UInt8) (pb : Nat) (A : Option Addr) (c : Nat) (l : List UInt8) (m : Int) (w : World) (hP : gq w pb A c l 0 m) (_ : 0 ≤ m) (hb : l.length + (asT s).length ≤ 70368744177664) : Calls Tryz.prog 119 #[.pointer (some ⟨pb,0,none⟩),.string (B s)] w (PrT w pb A (l ++ asT s) 0 m) := by
 refine ay (args := [.pointer (some ⟨pb,0,none⟩),.string (B s)]) (lent := prL pb A) (H := prD pb A c l 0 m) Tryz.func119 rfl Tryz.ntmps119 rfl (Sat.cx hP) ((show Tri _ [(0,_),(1,_)] _ _ _ from ?_))
 unfold asT at hb ⊢
 refine ab (aa (ah rfl rfl (cY rfl rfl rfl (triL_nilN (aE rfl (fun q0 => ?_) (fun q0 => ?_))))))
 · skip
   have q0 := of_decide_eq_true q0
   rw [if_neg q0] at hb ⊢
   exact aa (ah rfl rfl (ah rfl rfl (ee (parts := [_,_]) (dm [[32,97,115,32],s]) Tryz.underlying23 zs9 rfl rfl rfl rfl (by decide) (by decide) (fun b8 => aK (pb := pb) [_] rfl rfl rfl rfl Tryz.call20 (fun w1 h1 h2 h3 => cV [[32,97,115,32],s] _ _ pb _ _ _ _ _ w1 h2 (RdS.row .z w1 h1) (fun a ha => by cases ha; exact bv h1 (fun x hx => hx) rfl) (by (try simp only [List.length_append,List.length_cons,List.length_nil,List.flatten_cons,List.flatten_nil] at hb ⊢); omega) (by simp)) (fun A9 c9 => ae (cv rfl (bG (J := Option Addr × Nat) (A9,c9) rfl trivial (fun w2 hw2 => cj (by simp) rfl (by rfl) (hw2.sel [1,2] (by decide))))))))))
 · skip
   have q0 := Decidable.not_not.1 (of_decide_eq_false q0)
   rw [if_pos q0] at hb ⊢
   exact am (cv rfl (bG (J := Option Addr × Nat) (A,c) rfl trivial (fun w2 hw2 => cj (by simp) rfl (by rfl) (hw2.sel [0,1] (by decide)))))
theorem oM (e : Ex) (y : SL) (bl : List Nat) (pb : Nat) (A : Option Addr) (c : Nat) (l : List UInt8) (m : Int) (w : World) (hP : gq w pb A c l 0 m) (hm0 : 0 ≤ m) (hV : PV w (prL pb A) bl) (hK : ExR bl w e y) (ho : e.ok) (hmy : gR e = true) (hb : l.length + (cT e).1.length ≤ 70368744177664) : Calls Tryz.prog 60 #[.pointer (some ⟨pb,0,none⟩),.agg (bA e y).toArray] w (PrT w pb A (l ++ (cT e).1) 0 (max m ((cT e).2 : Int))) := by
 refine ay (args := [.pointer (some ⟨pb,0,none⟩),.agg (bA e y).toArray]) (lent := prL pb A) (H := prD pb A c l 0 m) Tryz.func60 rfl Tryz.ntmps60 rfl (Sat.cx hP) ((show Tri _ [(0,_),(1,_)] _ _ _ from ?_))
 unfold cT at hb ⊢
 refine ab (aa (bY _ rfl rfl rfl (fun b3 => triL_nilN (ab (aa (aj bT rfl rfl (ak bz N0 rfl rfl rfl (cB rfl rfl rfl (triL_nilN (ar rfl (fun q0 => ?_) (fun q0 => ?_)))))))))))
 · skip
   rw [if_neg q0] at hb ⊢
   exact ab (tri_slo [(3,_),(0,_)] rfl (aa (ah rfl rfl (bF Tryz.underlying23 zs9 rfl rfl rfl rfl rfl (by decide) (by decide) (fun b8 => aK (pb := pb) [_,_] rfl rfl rfl rfl Tryz.call20 (fun w1 h1 h2 h3 => cV [[32,119,104,101,114,101,32]] _ _ pb _ _ _ _ _ w1 h2 (RdS.row .z w1 h1) (fun a ha => by cases ha; exact bv h1 (fun x hx => (List.mem_cons_of_mem _ hx)) rfl) (by (try simp only [cat,raw,List.length_append,List.length_cons,List.length_nil,List.flatten_cons,List.flatten_nil] at hb ⊢); omega) (by simp)) (fun A9 c9 => triL_nilN (aa (ah rfl rfl (aC aW aV (.s .z) rfl rfl (vs := bA e y) rfl rfl (aK (pb := pb) [_,_] rfl rfl rfl rfl Tryz.call26 (fun w1 h1 h2 h3 => nT e (kF hmy q0) ho 1 bl y pb _ _ _ _ _ w1 h2 (hV.sub (PSub.of h1 h3)) (hK.stab (hV.pe.st (PSub.of h1 h3))) (by omega) (by (try simp only [cat,raw,List.length_append,List.length_cons,List.length_nil] at hb ⊢); omega) (by (try simp only [cat,raw,List.length_append,List.length_cons,List.length_nil,List.flatten_cons,List.flatten_nil] at hb ⊢); omega)) (fun A12 c12 => ae (cv rfl (bG (J := Option Addr × Nat) (A12,c12) rfl trivial (fun w2 hw2 => cj (by simp [cat,raw]) rfl (by simp only [cat,raw]; omega) (hw2.sel [2,3] (by decide))))))))))))))))
 · skip
   have q0 := Decidable.not_not.1 q0
   rw [if_pos q0] at hb ⊢
   exact am (cv rfl (bG (J := Option Addr × Nat) (A,c) rfl trivial (fun w2 hw2 => cj (by simp) rfl (by simp only; omega) (hw2.sel [1,2] (by decide)))))
theorem nU (g : Nat → Txt) (i : Nat) : cr g (i + 1) = cat (cr g i) (cat (raw (cm i)) (g i)) := rfl
theorem sI (g : Nat → Txt) {i n : Nat} (h : i < n) : (cr g i).1.length + ((cm i).length + (g i).1.length) ≤ (cr g n).1.length := by
 have := mH (fun i => cat (raw (cm i)) (g i)) h
 simpa [cat,raw,cr] using this
theorem ia (g : Nat → Txt) (n : Nat) (q : Nat) (fst cap : List Value) (pb : Nat) (A : Option Addr) (c : Nat) (l : List UInt8) (m : Int) (w : World) (hP : gq w pb A c l 0 m) (hm0 : 0 ≤ m) (hn : n ≤ 70368744177664) (hb : l.length + (cr g n).1.length ≤ 70368744177664) (hcf : ∀ args w,(callFunc q args).run Tryz.prog w = .ok (.enter q args) w) (hone : ∀ (i : Nat) (A1 : Option Addr) (c1 : Nat) (l1 : List UInt8) (m1 : Int) (w1 : World),i < n → PSub w (prL pb A) w1 (prL pb A1) → gq w1 pb A1 c1 l1 0 m1 → 0 ≤ m1 → l1.length + (g i).1.length ≤ 70368744177664 → Calls Tryz.prog q (fst ++ [Value.int .i64 (i : Int)] ++ cap).toArray w1 (PrT w1 pb A1 (l1 ++ (g i).1) 0 (max m1 ((g i).2 : Int)))) : Calls Tryz.prog 21 #[.pointer (some ⟨pb,0,none⟩),.int .i64 (n : Int),.func (.func q) fst.toArray cap.toArray] w (PrT w pb A (l ++ (cr g n).1) 0 (max m ((cr g n).2 : Int))) := by
 refine ay (args := [.pointer (some ⟨pb,0,none⟩),.int .i64 (n : Int),.func (.func q) fst.toArray cap.toArray]) (lent := prL pb A) (H := prD pb A c l 0 m) Tryz.func21 rfl Tryz.ntmps21 rfl (Sat.cx hP) ((show Tri _ [(0,_),(1,_),(2,_)] _ _ _ from ab (aa (ah rfl rfl (ah rfl rfl (triL_nilN (aw (bf (ι := Nat × Option Addr × Nat) (F := fun i => [(0,.pointer (some ⟨pb,0,none⟩)),(2,.func (.func q) fst.toArray cap.toArray),(7,.int .i64 (n : Int)),(8,.int .i64 (i.1 : Int))]) (HH := fun i => prD pb i.2.1 i.2.2 (l ++ (cr g i.1).1) 0 (max m ((cr g i.1).2 : Int))) (Pu := fun i => i.1 ≤ n) (μ := fun i => n - i.1) ((0,A,c)) (.cons rfl (.cons rfl (.cons rfl (.cons rfl (.nil _))))) (fun w2 hw2 => cj (by simp [cr,upT]) rfl (by simp only [cr,upT]; omega) hw2) (Nat.zero_le _) (fun i hi => ab (aa (bK rfl rfl rfl (triL_nilN (ab (ar rfl (fun q0 => ?_) (fun q0 => ?_)))))))))))))))
 · skip
   have hil : i.1 < n := by omega
   refine am (ag (ab (aw (ab (aa (ah rfl rfl (o_assignN rfl rfl (br (ι := Option Addr × Nat) (fun j => [(0,.pointer (some ⟨pb,0,none⟩)),(2,.func (.func q) fst.toArray cap.toArray),(6,.int .i64 (i.1 : Int)),(7,.int .i64 (n : Int)),(8,.int .i64 (i.1 : Int))]) (fun j => prD pb j.1 j.2 (l ++ ((cr g i.1).1 ++ cm i.1)) 0 (max m ((cr g i.1).2 : Int))) (fun j => True) ?_ (fun j hj => ?_)))))))))
   · skip
     refine ab (aa (ah rfl rfl (cR rfl rfl rfl (triL_nilN (ar rfl (fun q1 => ?_) (fun q1 => ?_))))))
     · skip
       exact tri_slo [(6,_),(0,_),(2,_),(7,_),(8,_)] rfl (aa (ah rfl rfl (bF Tryz.underlying23 zs9 rfl rfl rfl rfl rfl (by decide) (by decide) (fun b14 => aK (pb := pb) [_] rfl rfl rfl rfl Tryz.call20 (fun w1 h1 h2 h3 => cV [[44,32]] _ _ pb _ _ _ _ _ w1 h2 (RdS.row .z w1 h1) (fun a ha => by cases ha; exact bv h1 (fun x hx => hx) rfl) (by have := sI g hil; rw [cm,if_neg (by omega)] at this; simp only [List.length_append,List.length_cons,List.length_nil,List.flatten_cons,List.flatten_nil] at this ⊢; omega) (by simp)) (fun A15 c15 => triL_nilN (⟨(A15,c15),(.cons rfl (.cons rfl (.cons rfl (.cons rfl (.cons rfl (.nil _)))))),(fun w2 hw2 => cj (by rw [cm,if_neg (by omega)]; simp) rfl rfl (hw2.sel [1,2] (by decide))),trivial⟩))))))
     · skip
       exact am (ag (⟨(i.2.1,i.2.2),(.cons rfl (.cons rfl (.cons rfl (.cons rfl (.cons rfl (.nil _)))))),(fun w2 hw2 => cj (by rw [cm,if_pos (by omega)]; simp) rfl rfl hw2),trivial⟩))
   exact aa (ah rfl rfl (ah rfl rfl (aK (pb := pb) [] rfl rfl rfl rfl hcf (fun w1 h1 h2 h3 => hone i.1 _ _ _ _ w1 hil (PSub.of h1 h3) h2 (by omega) (by have := sI g hil; simp only [List.length_append]; omega)) (fun A18 c18 => ae (ao (ag (tri_slo [(0,_),(2,_),(7,_),(8,_)] rfl (aa (bn rfl rfl rfl (by omega) (ah rfl rfl (triL_nilN (⟨(i.1 + 1,A18,c18),(.cons rfl (.cons rfl (.cons rfl (.cons rfl (.nil _))))),(fun w2 hw2 => cj (by rw [nU]; simp [cat,raw]) rfl (by rw [nU]; simp only [cat,raw]; omega) hw2),by simp only; omega,(by simp only; omega)⟩))))))))))))
 · skip
   exact aS (au (au (aG (cv rfl (bG (J := Option Addr × Nat) (i.2.1,i.2.2) rfl trivial (fun w2 hw2 => cj (by rw [show i.1 = n by omega]) rfl (by rw [show i.1 = n by omega]) hw2))))))
end Go.Proofs.YtjbpkcbefmpfgaaGreatDoor
namespace Go.Proofs.YtjbpkcbefmpfgaaGreatDoor
open Go.WK Go.RowKit 
theorem ck : cG Tryz.prog 64 = some false := by kernel_rfl
theorem ln : bH Tryz.prog 53 0 = some 0 := by kernel_rfl
theorem lP : bH Tryz.prog 121 0 = some 0 := by kernel_rfl
theorem eb : cG Tryz.prog 4 = some false := by kernel_rfl
theorem mayI_1 {a : ItemX} (h : ij a = true) : a.e.may = true := by
 unfold ij at h; simp only [Bool.and_eq_true] at h; exact h.1
theorem query1K (q : QryX) (y : QLay) (bl : List Nat) (bp bx i : Nat) (pb : Nat) (A : Option Addr) (c : Nat) (l : List UInt8) (m : Int) (w : World) (hP : gq w pb A c l 0 m) (hm0 : 0 ≤ m) (hV : PV w (prL pb A) bl) (hE : CEnv w bl bp pb bx (cI q y)) (hA : QAt bl w q y) (hi : i < q.items.length) (hmy : ij (q.items.getD i ItemX.zero) = true) (ho : (q.items.getD i ItemX.zero).e.ok) (hb : l.length + (dv (q.items.getD i ItemX.zero)).1.length ≤ 70368744177664) : Calls Tryz.prog 118 #[.int .i64 (i : Int),.pointer (some ⟨bp,0,none⟩),.pointer (some ⟨bx,0,none⟩)] w (PrT w pb A (l ++ (dv (q.items.getD i ItemX.zero)).1) 0 (max m ((dv (q.items.getD i ItemX.zero)).2 : Int))) := by
 refine ay (args := [.int .i64 (i : Int),.pointer (some ⟨bp,0,none⟩),.pointer (some ⟨bx,0,none⟩)]) (lent := prL pb A) (H := prD pb A c l 0 m) Tryz.func118 rfl Tryz.ntmps118 rfl (Sat.cx hP) ((show Tri _ [(0,_),(1,_),(2,_)] _ _ _ from ?_))
 have hP_ := hE.rp hV.pe
 have hX_ := hE.rx hV.pe
 obtain ⟨xI,xF,xO,hI,_,_,_⟩ := hA
 obtain ⟨ye,hci,hye⟩ := jy hI i hi
 simp only [dv,cat,raw,List.length_append] at hb
 refine ab (bj (_) [(0,true),(1,true),(2,true),(3,true),(4,true),(5,true),(6,true),(7,false)] [7] (by kernel_rfl) (by kernel_rfl) (fun _ h => h) (ai rfl (aH (A := some ⟨bp,0,none⟩) (kk := 0) ck rfl rfl (hP_ _ _ rfl rfl) rfl (ae ⟨rfl,ai rfl (aJ (A := some ⟨bx,0,none⟩) (kk := 0) cA rfl rfl (hX_ _ _ rfl rfl) rfl (ae ⟨rfl,ai rfl (aH dn rfl rfl (hX_ _ _ rfl rfl) rfl (ae ⟨rfl,ai rfl (ah rfl rfl (ae ⟨rfl,ai rfl (aL Tryz.underlying31 iS rfl rfl rfl (hI.rd hV.pe _ _ rfl rfl) (by omega) (by omega) hI.len (by decide) (ae ⟨rfl,ai rfl (aJ ln rfl rfl (hI.rd hV.pe _ _ rfl rfl) (aD hci (j := 0) rfl) (ae ⟨rfl,ai rfl (bo aW aV rfl rfl (hI.rd hV.pe _ _ rfl rfl) (vs := bA ((q.items.getD i ItemX.zero).e) ye) (dw (p := []) (cs := bA ((q.items.getD i ItemX.zero).e) ye) (r := [_]) hci) rfl (by decide) (ae ⟨rfl,(bu [7] [_] rfl rfl (aK (pb := pb) [] rfl rfl rfl rfl Tryz.call26 (fun w1 h1 h2 h3 => nT ((q.items.getD i ItemX.zero).e) (mayI_1 hmy) (ho) 1 bl ye pb _ _ _ _ _ w1 h2 (hV.sub (PSub.of h1 h3)) (hye.stab (hV.pe.st (PSub.of h1 h3))) (by omega) (by (try simp only [cat,raw,List.length_append,List.length_cons,List.length_nil,List.flatten_cons,List.flatten_nil] at hb ⊢); omega) (by (try simp only [cat,raw,List.length_append,List.length_cons,List.length_nil,List.flatten_cons,List.flatten_nil] at hb ⊢); omega)) (fun A11 c11 => ae ⟨rfl,(ag (tri_slo [(0,_),(1,_),(2,_)] rfl (bj (_) [(0,true),(1,true),(2,true),(3,true),(4,true),(5,true),(6,true),(7,false)] [7] (by kernel_rfl) (by kernel_rfl) (fun _ h => h) (ai rfl (aH (A := some ⟨bp,0,none⟩) (kk := 0) ck rfl rfl (hP_ _ _ rfl rfl) rfl (ae ⟨rfl,ai rfl (aJ (A := some ⟨bx,0,none⟩) (kk := 0) cA rfl rfl (hX_ _ _ rfl rfl) rfl (ae ⟨rfl,ai rfl (aH dn rfl rfl (hX_ _ _ rfl rfl) rfl (ae ⟨rfl,ai rfl (ah rfl rfl (ae ⟨rfl,ai rfl (aL Tryz.underlying31 iS rfl rfl rfl (hI.rd hV.pe _ _ rfl rfl) (by omega) (by omega) hI.len (by decide) (ae ⟨rfl,ai rfl (aJ gL rfl rfl (hI.rd hV.pe _ _ rfl rfl) (aD hci (j := 0) rfl) (ae ⟨rfl,ai rfl (aH bd rfl rfl (hI.rd hV.pe _ _ rfl rfl) (aD hci (j := 8) rfl) (ae ⟨rfl,(bu [7] [_] rfl rfl (aK (pb := pb) [] rfl rfl rfl rfl Tryz.call119 (fun w1 h1 h2 h3 => asR_ (q.items.getD i ItemX.zero).s pb _ _ _ _ w1 h2 (by omega) (by (try simp only [List.length_append] at hb ⊢); omega)) (fun A19 c19 => ?_)))⟩))⟩))⟩))⟩))⟩))⟩))⟩))))))⟩)))⟩))⟩))⟩))⟩))⟩))⟩))⟩)))); exact ae ⟨rfl,(cv rfl (bG (J := Option Addr × Nat) (A19,c19) rfl trivial (fun w2 hw2 => cj (by simp [dv,cat,raw]) rfl (by simp only [dv,cat,raw]; omega) (hw2.sel [0,1] (by decide)))))⟩
theorem query2K (q : QryX) (y : QLay) (bl : List Nat) (bp bx i : Nat) (pb : Nat) (A : Option Addr) (c : Nat) (l : List UInt8) (m : Int) (w : World) (hP : gq w pb A c l 0 m) (hm0 : 0 ≤ m) (hV : PV w (prL pb A) bl) (hE : CEnv w bl bp pb bx (cI q y)) (hA : QAt bl w q y) (hi : i < q.ord.length) (hb : l.length + (gS (q.ord.getD i OrdX.zero)).1.length ≤ 70368744177664) : Calls Tryz.prog 120 #[.int .i64 (i : Int),.pointer (some ⟨bp,0,none⟩),.pointer (some ⟨bx,0,none⟩)] w (PrT w pb A (l ++ (gS (q.ord.getD i OrdX.zero)).1) 0 (max m ((gS (q.ord.getD i OrdX.zero)).2 : Int))) := by
 refine ay (args := [.int .i64 (i : Int),.pointer (some ⟨bp,0,none⟩),.pointer (some ⟨bx,0,none⟩)]) (lent := prL pb A) (H := prD pb A c l 0 m) Tryz.func120 rfl Tryz.ntmps120 rfl (Sat.cx hP) ((show Tri _ [(0,_),(1,_),(2,_)] _ _ _ from ?_))
 have hP_ := hE.rp hV.pe
 have hX_ := hE.rx hV.pe
 obtain ⟨xI,xF,xO,_,_,_,hO⟩ := hA
 have hci := ld hO i hi
 simp only [gS,raw,List.length_append] at hb
 refine ab (bj (_) [(0,true),(1,true),(2,true),(3,true),(4,true),(5,true),(6,true),(7,false),(8,false)] [8] (by kernel_rfl) (by kernel_rfl) (fun _ h => h) (ai rfl (aH (A := some ⟨bp,0,none⟩) (kk := 0) ck rfl rfl (hP_ _ _ rfl rfl) rfl (ae ⟨rfl,ai rfl (aJ (A := some ⟨bx,0,none⟩) (kk := 0) dl rfl rfl (hX_ _ _ rfl rfl) rfl (ae ⟨rfl,ai rfl (aH eP rfl rfl (hX_ _ _ rfl rfl) rfl (ae ⟨rfl,ai rfl (ah rfl rfl (ae ⟨rfl,ai rfl (aL Tryz.underlying33 hZ rfl rfl rfl (hO.rd hV.pe _ _ rfl rfl) (by omega) (by omega) hO.len (by decide) (ae ⟨rfl,ai rfl (aJ lP rfl rfl (hO.rd hV.pe _ _ rfl rfl) (aD hci (j := 0) rfl) (ae ⟨rfl,ai rfl (aH bd rfl rfl (hO.rd hV.pe _ _ rfl rfl) (aD hci (j := 0) rfl) (ae ⟨rfl,(aZ rfl (bF Tryz.underlying23 zs9 rfl rfl rfl rfl rfl (by decide) (by decide) (fun b11 => ae ⟨rfl,fun _ _ h => Sat.dropS 1 h,(bu [8] [_] rfl rfl (aK (pb := pb) [_] rfl rfl rfl rfl Tryz.call20 (fun w1 h1 h2 h3 => cV [(q.ord.getD i OrdX.zero).n] _ _ pb _ _ _ _ _ w1 h2 (RdS.row .z w1 h1) (fun a ha => by cases ha; exact bv h1 (fun x hx => hx) rfl) (by (try simp only [List.length_append,List.length_nil,List.flatten_cons,List.flatten_nil] at hb ⊢); omega) (by simp)) (fun A12 c12 => ae ⟨rfl,(ag (ab (tri_slo [(0,_),(1,_),(2,_)] rfl (aa (aJ (A := some ⟨bx,0,none⟩) (kk := 0) dl rfl rfl (hX_ _ _ rfl rfl) rfl (aH eP rfl rfl (hX_ _ _ rfl rfl) rfl (ah rfl rfl (aL Tryz.underlying33 hZ rfl rfl rfl (hO.rd hV.pe _ _ rfl rfl) (by omega) (by omega) hO.len (by decide) (aJ oG rfl rfl (hO.rd hV.pe _ _ rfl rfl) (aD hci (j := 0) rfl) (aH eb rfl rfl (hO.rd hV.pe _ _ rfl rfl) (aD hci (j := 1) rfl) (triL_nilN (aE rfl (fun q0 => ?_) (fun q0 => ?_)))))))))))))⟩)))⟩)))⟩))⟩))⟩))⟩))⟩))⟩))⟩))))
 · skip
   exact tri_slo [(1,_)] rfl (aa (aH (A := some ⟨bp,0,none⟩) (kk := 0) ck rfl rfl (hP_ _ _ rfl rfl) rfl (bF Tryz.underlying23 zs9 rfl rfl rfl rfl rfl (by decide) (by decide) (fun b20 => aK (pb := pb) [_,_] rfl rfl rfl rfl Tryz.call20 (fun w1 h1 h2 h3 => cV [[32,100,101,115,99]] _ _ pb _ _ _ _ _ w1 h2 (RdS.row .z w1 h1) (fun a ha => by cases ha; exact bv h1 (fun x hx => (List.mem_cons_of_mem _ hx)) rfl) (by rw [q0] at hb; simp only [jQ,if_true,List.length_append,List.length_cons,List.length_nil,List.flatten_cons,List.flatten_nil] at hb ⊢; omega) (by simp)) (fun A21 c21 => ae (cv rfl (bG (J := Option Addr × Nat) (A21,c21) rfl trivial (fun w2 hw2 => cj (by rw [gS,q0]; simp [raw,jQ]) rfl (by simp only [gS,raw]; omega) (hw2.sel [2,3] (by decide))))))))))
 · skip
   exact am (cv rfl (bG (J := Option Addr × Nat) (A12,c12) rfl trivial (fun w2 hw2 => cj (by rw [gS,q0]; simp [raw,jQ]) rfl (by simp only [gS,raw]; omega) (hw2.sel [1,2] (by decide)))))
end Go.Proofs.YtjbpkcbefmpfgaaGreatDoor
namespace Go.Proofs.YtjbpkcbefmpfgaaGreatDoor
open Go.WK Go.RowKit 
theorem built160 : ∀ (a b : ByteArray),Tryz.prog.built 160 [(0,.string a),(1,.string b)] = some ([.string a,.string b] : List Value).toArray := by intros; kernel_rfl
theorem gO : bH Tryz.prog 87 0 = some 0 := by kernel_rfl
theorem ez {F : List Chunk} {pb : Nat} {A : Option Addr} {c : Nat} {l l' : List UInt8} {d d' m m' : Int} {cx : Cx} {w : World} (h1 : l = l') (h2 : d = d') (h3 : m = m') (h : Sat cx (F ++ prD pb A c l d m) w) : Sat cx (F ++ prD pb A c l' d' m') w := by subst h1 h2 h3; exact h
theorem rt {q : QryX} (h : fL q = true) : gR q.wh = true ∧ (q.from_.length ≤ 4 ∧ q.ord.length ≤ 16 ∧ q.items.length ≤ 16) ∧ (∀ i,i < q.items.length → ij (q.items.getD i ItemX.zero) = true) ∧ (∀ i,i < q.from_.length → iY i (q.from_.getD i SrcX.zero) = true) := by
 unfold fL at h
 simp only [Bool.and_eq_true,decide_eq_true_eq] at h
 obtain ⟨⟨h1,h2,h3,_⟩,h4,h5,h6,_⟩ := h
 refine ⟨h1,⟨h2,h3, ?_⟩,fun i hi => dO h5 hi,fun i hi => dO h6 hi⟩
 split at h4
 · have := of_decide_eq_true h4; omega
 · unfold ft at h4; simp only [Bool.and_eq_true,decide_eq_true_eq] at h4; exact h4.2
theorem srcT_len (i : Nat) (a : SrcX) : (eD i a).1.length = 6 + (a.t.length + (asT a.s).length) + (if i = 0 then 0 else 4 + (a.e.txt 1).1.length) := by
 unfold eD
 by_cases h : i = 0
 · rw [if_pos h,if_pos h,if_pos h]; simp only [cat,raw,List.length_append,List.length_cons,List.length_nil]; try omega
 · rw [if_neg h,if_neg h,if_neg h]; simp only [cat,raw,List.length_append,List.length_cons,List.length_nil]; try omega
theorem fj_get (i : Nat) : ([.string (B [32,102,114,111,109,32]),.string (B [32,106,111,105,110,32])] : List Value)[(min (i : Int) 1).toNat]? = some (.string (B (if i = 0 then [32,102,114,111,109,32] else [32,106,111,105,110,32]))) := by
 by_cases h : i = 0
 · subst h; rfl
 · rw [if_neg h,show (min (i : Int) 1).toNat = 1 by omega]; rfl
theorem mayF_2 {i : Nat} {a : SrcX} (h : iY i a = true) (hi : 0 < i) : a.e.may = true := by
 unfold iY at h
 rw [if_neg (by omega)] at h
 simp only [Bool.and_eq_true] at h
 exact h.2.2
set_option maxHeartbeats 1000000 in
theorem dh (q : QryX) (y : QLay) (bl : List Nat) (pb : Nat) (A : Option Addr) (c : Nat) (l : List UInt8) (m : Int) (w : World) (hP : gq w pb A c l 0 m) (hm0 : 0 ≤ m) (hV : PV w (prL pb A) bl) (hA : QAt bl w q y) (hmy : fL q = true) (hok : QOk q) (hb : l.length + (i8 q).1.length ≤ 70368744177664) : Calls Tryz.prog 62 #[.pointer (some ⟨pb,0,none⟩),.agg (cI q y).toArray] w (PrT w pb A (l ++ (i8 q).1) 0 (max m ((i8 q).2 : Int))) := by
 refine ay (args := [.pointer (some ⟨pb,0,none⟩),.agg (cI q y).toArray]) (lent := prL pb A) (H := prD pb A c l 0 m) Tryz.func62 rfl Tryz.ntmps62 rfl (Sat.cx hP) ((show Tri _ [(0,_),(1,_)] _ _ _ from ?_))
 obtain ⟨my1,⟨my2,my3,my4⟩,my5,my6⟩ := rt hmy
 obtain ⟨xI,xF,xO,hI,hF,hW,hO⟩ := id hA
 simp only [i8,cat,raw,List.length_append] at hb
 refine ab (aa (bY _ rfl rfl rfl (fun b2 => bY _ rfl rfl rfl (fun b3 => triL_nilN (ab (aa (ak ck N1 rfl rfl rfl (bF Tryz.underlying23 zs9 rfl rfl rfl rfl rfl (by decide) (by decide) (fun b7 => aK (pb := pb) [_,_,_] rfl rfl rfl rfl Tryz.call20 (fun w1 h1 h2 h3 => cV [[115,101,108,101,99,116,32]] _ _ pb _ _ _ _ _ w1 h2 (RdS.row .z w1 h1) (fun a ha => by cases ha; exact bv h1 (fun x hx => (List.mem_cons_of_mem _ (List.mem_cons_of_mem _ hx))) rfl) (by (try simp only [List.length_append,List.length_cons,List.length_nil,List.flatten_cons,List.flatten_nil,eE] at hb ⊢); omega) (by simp)) (fun A8 c8 => triL_nilN (br (ι := Option Addr × Nat) (fun j => [(2,.pointer (some ⟨b2,0,none⟩)),(3,.pointer (some ⟨b3,0,none⟩))]) (fun j => [box b3 35 (cI q y),box b2 64 [.pointer (some ⟨pb,0,none⟩)]] ++ prD pb j.1 j.2 (l ++ ([115,101,108,101,99,116,32] ++ (if q.di = true then [100,105,115,116,105,110,99,116,32] else []))) 0 (m)) (fun j => True) ?_ (fun j hj => ?_))))))))))))
 · skip
   refine ab (tri_slo [(3,_),(2,_)] rfl (aa (aj kh rfl rfl (ak eb N1 rfl rfl rfl (triL_nilN (aE rfl (fun q0 => ?_) (fun q0 => ?_)))))))
   · skip
     exact aa (ak ck N2 rfl rfl rfl (bF Tryz.underlying23 zs9 rfl rfl rfl rfl rfl (by decide) (by decide) (fun b12 => aK (pb := pb) [_,_,_,_] rfl rfl rfl rfl Tryz.call20 (fun w1 h1 h2 h3 => cV [[100,105,115,116,105,110,99,116,32]] _ _ pb _ _ _ _ _ w1 h2 (RdS.row .z w1 h1) (fun a ha => by cases ha; exact bv h1 (fun x hx => (List.mem_cons_of_mem _ (List.mem_cons_of_mem _ (List.mem_cons_of_mem _ hx)))) rfl) (by rw [eE,q0] at hb; (try simp only [List.length_append,List.length_cons,List.length_nil,List.flatten_cons,List.flatten_nil,if_true] at hb ⊢); omega) (by simp)) (fun A13 c13 => triL_nilN (⟨(A13,c13),(.cons rfl (.cons rfl (.nil _))),(fun w2 hw2 => ez (by rw [q0]; simp) rfl (by rfl) (hw2.sel [2,3,4,5] (by decide))),trivial⟩)))))
   · skip
     exact am (ag (⟨(A8,c8),(.cons rfl (.cons rfl (.nil _))),(fun w2 hw2 => ez (by rw [q0]; simp) rfl (by rfl) (hw2.sel [1,2,3,4] (by decide))),trivial⟩))
 refine br (ι := Option Addr × Nat) (fun j => [(2,.pointer (some ⟨b2,0,none⟩)),(3,.pointer (some ⟨b3,0,none⟩))]) (fun j => [box b3 35 (cI q y),box b2 64 [.pointer (some ⟨pb,0,none⟩)]] ++ prD pb j.1 j.2 (l ++ eE q) 0 (m)) (fun j => True) ?_ (fun j hj => ?_)
 · skip
   refine ab (aa (aj iT rfl rfl (ak eb N0 rfl rfl rfl (triL_nilN (aE rfl (fun q1 => ?_) (fun q1 => ?_))))))
   · skip
     exact aa (ak ck N1 rfl rfl rfl (bF Tryz.underlying23 zs9 rfl rfl rfl rfl rfl (by decide) (by decide) (fun b17 => aK (pb := pb) [_,_,_] rfl rfl rfl rfl Tryz.call20 (fun w1 h1 h2 h3 => cV [[42]] _ _ pb _ _ _ _ _ w1 h2 (RdS.row .z w1 h1) (fun a ha => by cases ha; exact bv h1 (fun x hx => (List.mem_cons_of_mem _ (List.mem_cons_of_mem _ hx))) rfl) (by rw [eE,q1] at hb; (try simp only [List.length_append,List.length_cons,List.length_nil,List.flatten_cons,List.flatten_nil,if_true] at hb ⊢); omega) (by simp)) (fun A18 c18 => triL_nilN (⟨(A18,c18),(.cons rfl (.cons rfl (.nil _))),(fun w2 hw2 => ez (by rw [eE,q1]; simp) rfl (by rfl) (hw2.sel [1,2,3,4] (by decide))),trivial⟩)))))
   · skip
     exact am (ag (⟨j,(.cons rfl (.cons rfl (.nil _))),(fun w2 hw2 => ez (by rw [eE,q1]; simp) rfl (by rfl) (hw2.sel [0,1,2,3] (by decide))),trivial⟩))
 refine ab (aa (ak ck N1 rfl rfl rfl (aj cA rfl rfl (ak dn N0 rfl rfl rfl (aN Tryz.underlying31 rfl rfl (co rfl rfl rfl (aK (pb := pb) [_,_] rfl rfl rfl rfl Tryz.call21 (fun w1 h1 h2 h3 => ia (fun i => dv (q.items.getD i ItemX.zero)) q.items.length 118 [] [.pointer (some ⟨b2,0,none⟩),.pointer (some ⟨b3,0,none⟩)] pb _ _ _ _ w1 h2 (by omega) (by omega) (by (try simp only [List.length_append] at hb ⊢); omega) Tryz.call118 (fun i A1 c1 l1 m1 w2 hi hs hP1 hm1 hb1 => by have hce := cenv (F := [_,_]) hV.pe h1 (.s .z) .z; have hPV : PV w1 _ _ := ⟨hce.1,(hV.lv.chgL h1.chg (fun k hk => (hV.pe.g k hk).2))⟩; have hA2 := (hA.stab (hV.pe.st (PSub.of h1 h3))).mono (bl' := b2 :: b3 :: bl) (fun k hk => List.mem_cons_of_mem _ (List.mem_cons_of_mem _ hk)); exact query1K q y (b2 :: b3 :: bl) b2 b3 i pb A1 c1 l1 m1 w2 hP1 hm1 (hPV.sub hs) (hce.2.stab (hce.1.st hs)) (hA2.stab (hce.1.st hs)) hi (my5 i hi) (hok.items i hi) hb1)) (fun A24 c24 => triL_nilN (ab (ab (tri_slo [(2,_),(3,_)] rfl (aa (aj cp rfl rfl (ak cP N0 rfl rfl rfl (aN Tryz.underlying32 rfl rfl (ah rfl rfl (triL_nilN (aw (bf (ι := Nat × Option Addr × Nat) (F := fun i => [(2,.pointer (some ⟨b2,0,none⟩)),(3,.pointer (some ⟨b3,0,none⟩)),(26,.slice y.F.A q.from_.length y.F.k),(27,.int .i64 (q.from_.length : Int)),(28,.int .i64 (i.1 : Int))]) (HH := fun i => [box b3 35 (cI q y),box b2 64 [.pointer (some ⟨pb,0,none⟩)]] ++ prD pb i.2.1 i.2.2 (l ++ (eE q ++ ((cr (fun i => dv (q.items.getD i ItemX.zero)) q.items.length).1 ++ (upT (fun i => eD i (q.from_.getD i SrcX.zero)) i.1).1))) 0 (max (max m ((cr (fun i => dv (q.items.getD i ItemX.zero)) q.items.length).2 : Int)) ((upT (fun i => eD i (q.from_.getD i SrcX.zero)) i.1).2 : Int))) (Pu := fun i => i.1 ≤ q.from_.length) (μ := fun i => q.from_.length - i.1) ((0,A24,c24)) (.cons rfl (.cons rfl (.cons rfl (.cons rfl (.cons rfl (.nil _)))))) ((fun w2 hw2 => ez (by simp [upT]) rfl (by simp only [upT]; omega) (hw2.sel [0,1,2,3] (by decide)))) (Nat.zero_le _) (fun i hi => ab (aa (bK rfl rfl rfl (triL_nilN (ab (ar rfl (fun q2 => ?_) (fun q2 => ?_))))))))))))))))))))))))))
 · skip
   have hil : i.1 < q.from_.length := by omega
   have hbF := mH (fun i => eD i (q.from_.getD i SrcX.zero)) hil
   simp only [srcT_len] at hbF
   have h6 : (if i.1 = 0 then [32,102,114,111,109,32] else [32,106,111,105,110,32] : List UInt8).length = 6 := by split <;> rfl
   refine am (ag (ab (aw (ab ?_))))
   obtain ⟨ye,hci,hye⟩ := kc hF i.1 hil
   refine aa (ah rfl rfl (aL Tryz.underlying32 dY rfl rfl rfl (hF.rd hV.pe _ _ rfl rfl) (by omega) (by omega) hF.len (by decide) (bo lG dY rfl rfl (hF.rd hV.pe _ _ rfl rfl) (vs := Value.string (B (q.from_.getD i.1 SrcX.zero).t) :: Value.string (B (q.from_.getD i.1 SrcX.zero).s) :: bA (q.from_.getD i.1 SrcX.zero).e ye) hci rfl (by decide) (aP _ rfl ll rfl (fun b5 => aB rfl rfl (aO dY N0 rfl rfl rfl rfl rfl (Nat.le_of_ble_eq_true rfl) rfl (triL_nilN (ab (tri_slo [(4,_),(5,_),(2,_),(3,_),(26,_),(27,_),(28,_)] rfl (bj (_) [(0,true),(1,true),(2,true),(3,true),(4,true),(5,true),(6,true),(7,false),(8,false)] [8] (by kernel_rfl) (by kernel_rfl) (fun _ h => h) (ai rfl (ak ck N2 rfl rfl rfl (ae ⟨rfl,ai rfl (aU (built160 _ _) rfl rfl (ae ⟨rfl,ai rfl (ah rfl rfl (ae ⟨rfl,ai rfl (o_min rfl rfl rfl (ae ⟨rfl,ai rfl (nI Tryz.underlying160 bd sz9 rfl rfl rfl (by omega) (by omega) rfl (fj_get i.1) (ae ⟨rfl,ai rfl (aj gO rfl rfl (ae ⟨rfl,ai rfl (ak bd N0 rfl rfl rfl (ae ⟨rfl,(aZ rfl (ee (parts := [_,_]) (dm [if i.1 = 0 then [32,102,114,111,109,32] else [32,106,111,105,110,32],(q.from_.getD i.1 SrcX.zero).t]) Tryz.underlying23 zs9 rfl rfl rfl rfl (by decide) (by decide) (fun b40 => ae ⟨rfl,fun _ _ h => Sat.dropS 1 h,(bu [8] [_] rfl rfl (aK (pb := pb) [_,_,_,_] rfl rfl rfl rfl Tryz.call20 (fun w1 h1 h2 h3 => cV [if i.1 = 0 then [32,102,114,111,109,32] else [32,106,111,105,110,32],(q.from_.getD i.1 SrcX.zero).t] _ _ pb _ _ _ _ _ w1 h2 (RdS.row .z w1 h1) (fun a ha => by cases ha; exact bv h1 (fun x hx => (List.mem_cons_of_mem _ (List.mem_cons_of_mem _ (List.mem_cons_of_mem _ hx)))) rfl) (by (try simp only [List.length_append,List.length_cons,List.length_nil,List.flatten_cons,List.flatten_nil,eE] at hb ⊢); omega) (by simp)) (fun A41 c41 => ae ⟨rfl,(ag (ab (tri_slo [(4,_),(5,_),(2,_),(3,_),(26,_),(27,_),(28,_)] rfl (aa (ak ck N3 rfl rfl rfl (aj fY rfl rfl (ak bd N1 rfl rfl rfl (aK (pb := pb) [_,_,_,_] rfl rfl rfl rfl Tryz.call119 (fun w1 h1 h2 h3 => asR_ (q.from_.getD i.1 SrcX.zero).s pb _ _ _ _ w1 h2 (by omega) (by (try simp only [List.length_append,List.length_cons,List.length_nil,List.flatten_cons,List.flatten_nil,eE] at hb ⊢); omega)) (fun A45 c45 => ?_)))))))))⟩)))⟩)))⟩))⟩))⟩))⟩))⟩))⟩))⟩))))))))))))); refine triL_nilN (ab (tri_slo [(4,_),(5,_),(2,_),(3,_),(26,_),(27,_),(28,_)] rfl (aa (ah rfl rfl (cR rfl rfl rfl (triL_nilN (ar rfl (fun q3 => ?_) (fun q3 => ?_))))))))
   · skip
     exact ab (aa (ak ck N3 rfl rfl rfl (bF Tryz.underlying23 zs9 rfl rfl rfl rfl rfl (by decide) (by decide) (fun b49 => aK (pb := pb) [_,_,_,_,_] rfl rfl rfl rfl Tryz.call20 (fun w1 h1 h2 h3 => cV [[32,111,110,32]] _ _ pb _ _ _ _ _ w1 h2 (RdS.row .z w1 h1) (fun a ha => by cases ha; exact bv h1 (fun x hx => (List.mem_cons_of_mem _ (List.mem_cons_of_mem _ (List.mem_cons_of_mem _ (List.mem_cons_of_mem _ hx))))) rfl) (by rw [if_neg (by omega)] at hbF; (try simp only [List.length_append,List.length_cons,List.length_nil,List.flatten_cons,List.flatten_nil,eE] at hb ⊢); omega) (by simp)) (fun A50 c50 => triL_nilN (tri_slo [(5,_),(2,_),(3,_),(26,_),(27,_),(28,_)] rfl (aa (ak ck N4 rfl rfl rfl (aj iU rfl rfl (aC aW aV (.s (.s .z)) rfl rfl (vs := bA (q.from_.getD i.1 SrcX.zero).e ye) rfl rfl (aK (pb := pb) [_,_,_,_,_] rfl rfl rfl rfl Tryz.call26 (fun w1 h1 h2 h3 => nT (q.from_.getD i.1 SrcX.zero).e (mayF_2 (my6 i.1 hil) (by omega)) (hok.from_ i.1 hil) 1 bl ye pb _ _ _ _ _ w1 h2 (hV.sub (PSub.of h1 h3)) (hye.stab (hV.pe.st (PSub.of h1 h3))) (by omega) (by rw [if_neg (by omega)] at hbF; (try simp only [List.length_append,List.length_cons,List.length_nil,eE] at hb ⊢); omega) (by rw [if_neg (by omega)] at hbF; (try simp only [List.length_append,List.length_cons,List.length_nil,List.flatten_cons,List.flatten_nil,eE] at hb ⊢); omega)) (fun A54 c54 => ae (ao (ag (tri_slo [(2,_),(3,_),(26,_),(27,_),(28,_)] rfl (aa (bn rfl rfl rfl (by omega) (ah rfl rfl (triL_nilN (⟨(i.1 + 1,A54,c54),(.cons rfl (.cons rfl (.cons rfl (.cons rfl (.cons rfl (.nil _)))))),(fun w2 hw2 => ez (by simp only [upT,cat,raw,eD]; rw [if_neg (by omega),if_neg (by omega)]; simp) rfl (by simp only [upT,cat,raw,eD]; rw [if_neg (by omega)]; simp only; omega) (hw2.sel [3,4,5,6] (by decide))),by simp only; omega,(by simp only; omega)⟩))))))))))))))))))))
   · skip
     exact am (ao (ag (tri_slo [(2,_),(3,_),(26,_),(27,_),(28,_)] rfl (aa (bn rfl rfl rfl (by omega) (ah rfl rfl (triL_nilN (⟨(i.1 + 1,A45,c45),(.cons rfl (.cons rfl (.cons rfl (.cons rfl (.cons rfl (.nil _)))))),(fun w2 hw2 => ez (by simp only [upT,cat,raw,eD]; rw [if_pos (by omega),if_pos (by omega)]; simp) rfl (by simp only [upT,cat,raw,eD]; rw [if_pos (by omega)]; simp only; omega) (hw2.sel [2,3,4,5] (by decide))),by simp only; omega,(by simp only; omega)⟩))))))))
 · skip
   have hie : i.1 = q.from_.length := by omega
   rw [hie]
   refine aS (au (au (aG (ag (ab (tri_slo [(2,_),(3,_)] rfl (aa (ak ck N1 rfl rfl rfl (aj fZ rfl rfl (aC aW aV .z rfl rfl (vs := bA q.wh y.V) rfl rfl (aK (pb := pb) [_,_] rfl rfl rfl rfl Tryz.call60 (fun w1 h1 h2 h3 => oM q.wh y.V bl pb _ _ _ _ w1 h2 (by omega) (hV.sub (PSub.of h1 h3)) (hW.stab (hV.pe.st (PSub.of h1 h3))) hok.wh my1 (by (try simp only [List.length_append,List.length_cons,List.length_nil,eE] at hb ⊢); omega)) (fun A59 c59 => triL_nilN (br (ι := Option Addr × Nat) (fun j => [(2,.pointer (some ⟨b2,0,none⟩)),(3,.pointer (some ⟨b3,0,none⟩))]) (fun j => [box b3 35 (cI q y),box b2 64 [.pointer (some ⟨pb,0,none⟩)]] ++ prD pb j.1 j.2 (l ++ (eE q ++ ((cr (fun i => dv (q.items.getD i ItemX.zero)) q.items.length).1 ++ ((upT (fun i => eD i (q.from_.getD i SrcX.zero)) q.from_.length).1 ++ ((cT q.wh).1 ++ gI q.ord.length))))) 0 (max (max (max m ((cr (fun i => dv (q.items.getD i ItemX.zero)) q.items.length).2 : Int)) ((upT (fun i => eD i (q.from_.getD i SrcX.zero)) q.from_.length).2 : Int)) ((cT q.wh).2 : Int))) (fun j => True) ?_ (fun j hj => ?_))))))))))))))
   · skip
     refine ab (tri_slo [(2,_),(3,_)] rfl (aa (aj dl rfl rfl (ak eP N0 rfl rfl rfl (aN Tryz.underlying33 rfl rfl (cR rfl rfl rfl (triL_nilN (ar rfl (fun q4 => ?_) (fun q4 => ?_)))))))))
     · skip
       exact tri_slo [(2,_),(3,_)] rfl (aa (ak ck N1 rfl rfl rfl (bF Tryz.underlying23 zs9 rfl rfl rfl rfl rfl (by decide) (by decide) (fun b65 => aK (pb := pb) [_,_,_] rfl rfl rfl rfl Tryz.call20 (fun w1 h1 h2 h3 => cV [[32,111,114,100,101,114,32,98,121,32]] _ _ pb _ _ _ _ _ w1 h2 (RdS.row .z w1 h1) (fun a ha => by cases ha; exact bv h1 (fun x hx => (List.mem_cons_of_mem _ (List.mem_cons_of_mem _ hx))) rfl) (by rw [gI,if_pos (by omega)] at hb; (try simp only [List.length_append,List.length_cons,List.length_nil,List.flatten_cons,List.flatten_nil,eE] at hb ⊢); omega) (by simp)) (fun A66 c66 => triL_nilN (⟨(A66,c66),(.cons rfl (.cons rfl (.nil _))),(fun w2 hw2 => ez (by rw [gI,if_pos (by omega)]; simp) rfl (by rfl) (hw2.sel [1,2,3,4] (by decide))),trivial⟩))))))
     · skip
       exact am (ag (⟨(A59,c59),(.cons rfl (.cons rfl (.nil _))),(fun w2 hw2 => ez (by rw [gI,if_neg (by omega)]; simp) rfl (by rfl) (hw2.sel [0,1,2,3] (by decide))),trivial⟩))
   refine ab (aa (ak ck N1 rfl rfl rfl (aj dl rfl rfl (ak eP N0 rfl rfl rfl (aN Tryz.underlying33 rfl rfl (co rfl rfl rfl (aK (pb := pb) [_,_] rfl rfl rfl rfl Tryz.call21 (fun w1 h1 h2 h3 => ia (fun i => gS (q.ord.getD i OrdX.zero)) q.ord.length 120 [] [.pointer (some ⟨b2,0,none⟩),.pointer (some ⟨b3,0,none⟩)] pb _ _ _ _ w1 h2 (by omega) (by omega) (by (try simp only [List.length_append] at hb ⊢); omega) Tryz.call120 (fun i A1 c1 l1 m1 w2 hi hs hP1 hm1 hb1 => by have hce := cenv (F := [_,_]) hV.pe h1 (.s .z) .z; have hPV : PV w1 _ _ := ⟨hce.1,(hV.lv.chgL h1.chg (fun k hk => (hV.pe.g k hk).2))⟩; have hA2 := (hA.stab (hV.pe.st (PSub.of h1 h3))).mono (bl' := b2 :: b3 :: bl) (fun k hk => List.mem_cons_of_mem _ (List.mem_cons_of_mem _ hk)); exact query2K q y (b2 :: b3 :: bl) b2 b3 i pb A1 c1 l1 m1 w2 hP1 hm1 (hPV.sub hs) (hce.2.stab (hce.1.st hs)) (hA2.stab (hce.1.st hs)) hi hb1)) (fun A72 c72 => triL_nilN (ab (tri_slo [(2,_),(3,_)] rfl (aa (aj iV rfl rfl (ak eb N0 rfl rfl rfl (triL_nilN (aE rfl (fun q5 => ?_) (fun q5 => ?_))))))))))))))))
   · skip
     exact bj (_) [(0,true),(1,true),(2,true),(3,false),(4,false),(5,false)] [5] (by kernel_rfl) (by kernel_rfl) (fun _ h => h) (ai rfl (ak ck N1 rfl rfl rfl (ae ⟨rfl,ai rfl (aj gM rfl rfl (ae ⟨rfl,ai rfl (ak bz N0 rfl rfl rfl (ae ⟨rfl,(aZ rfl (av (first := []) (cap := []) rfl rfl rfl Tryz.call121 (fun w1 h1 => lib_itoa q.lim w1 hok.lim (hV.lv.chgL h1.chg (fun k hk => (hV.pe.g k hk).2))) (ae ⟨rfl,fun _ _ h => Sat.dropS 0 h,(aZ rfl (ee (parts := [_,_]) (dm [[32,108,105,109,105,116,32],Lib.itoa q.lim]) Tryz.underlying23 zs9 rfl rfl rfl rfl (by decide) (by decide) (fun b79 => ae ⟨rfl,fun _ _ h => Sat.dropS 1 h,(bu [5] [_] rfl rfl (aK (pb := pb) [_,_,_] rfl rfl rfl rfl Tryz.call20 (fun w1 h1 h2 h3 => cV [[32,108,105,109,105,116,32],Lib.itoa q.lim] _ _ pb _ _ _ _ _ w1 h2 (RdS.row .z w1 h1) (fun a ha => by cases ha; exact bv h1 (fun x hx => (List.mem_cons_of_mem _ (List.mem_cons_of_mem _ hx))) rfl) (by rw [limT,if_pos q5] at hb; (try simp only [List.length_append,List.length_cons,List.length_nil,List.flatten_cons,List.flatten_nil,eE] at hb ⊢); omega) (by simp)) (fun A80 c80 => ae ⟨rfl,(cv rfl (bG (J := Option Addr × Nat) (A80,c80) rfl trivial (fun w2 hw2 => cj (by rw [i8,limT,if_pos q5]; simp [cat,raw]) rfl (by simp only [i8,cat,raw]; omega) (hw2.sel [3,4] (by decide)))))⟩)))⟩)))⟩)))⟩))⟩))⟩)))
   · skip
     exact am (cv rfl (bG (J := Option Addr × Nat) (A72,c72) rfl trivial (fun w2 hw2 => cj (by rw [i8,limT,if_neg (dP q5)]; simp [cat,raw]) rfl (by simp only [i8,cat,raw]; omega) (hw2.sel [2,3] (by decide)))))
end Go.Proofs.YtjbpkcbefmpfgaaGreatDoor
namespace Go.Proofs.YtjbpkcbefmpfgaaGreatDoor
open Go.WK Go.RowKit 
theorem built72 : ∀ (a b c d : ByteArray),Tryz.prog.built 72 [(0,.string a),(1,.string b),(2,.string c),(3,.string d)] = some ([.string a,.string b,.string c,.string d] : List Value).toArray := by intros; kernel_rfl
theorem db : bH Tryz.prog 37 3 = some 3 := by kernel_rfl
theorem eQ : cG Tryz.prog 22 = some false := by kernel_rfl
theorem agg71 : cG Tryz.prog 71 = some true := by kernel_rfl
theorem jK : szB Tryz.prog 71 = some 3 := by kernel_rfl
theorem zero71 : (Tryz.prog.info? 71).map (·.zero) = some (some (.agg #[.string .empty,.int .i64 0,.bool false])) := by kernel_rfl
theorem oN : bH Tryz.prog 71 0 = some 0 := by kernel_rfl
theorem lq : bH Tryz.prog 71 1 = some 1 := by kernel_rfl
theorem fo71_2 : bH Tryz.prog 71 2 = some 2 := by kernel_rfl
theorem dF : bH Tryz.prog 37 4 = some 4 := by kernel_rfl
theorem fP : cG Tryz.prog 23 = some false := by kernel_rfl
theorem dc : bH Tryz.prog 37 6 = some 6 := by kernel_rfl
theorem eR : cG Tryz.prog 24 = some false := by kernel_rfl
theorem sz28 : szB Tryz.prog 28 = some 1 := by kernel_rfl
theorem cC : bH Tryz.prog 37 7 = some 7 := by kernel_rfl
theorem dz : cG Tryz.prog 25 = some false := by kernel_rfl
theorem kl : szB Tryz.prog 82 = some 9 := by kernel_rfl
theorem jo : bH Tryz.prog 82 0 = some 0 := by kernel_rfl
theorem lr : bH Tryz.prog 82 1 = some 1 := by kernel_rfl
theorem jS : cG Tryz.prog 35 = some true := by kernel_rfl
theorem jL : szB Tryz.prog 35 = some 15 := by kernel_rfl
theorem cl : bH Tryz.prog 37 1 = some 1 := by kernel_rfl
theorem dx : bH Tryz.prog 37 8 = some 8 := by kernel_rfl
theorem print1K (s : StmtX) (y : Lay) (bl : List Nat) (bp bx i : Nat) (pb : Nat) (A : Option Addr) (c : Nat) (l : List UInt8) (m : Int) (w : World) (hP : gq w pb A c l 0 m) (hm0 : 0 ≤ m) (hV : PV w (prL pb A) bl) (hE : CEnv w bl bp pb bx (bk s y)) (hA : SAt bl w s y) (hi : i < s.cols.length) (hmy : ew (s.cols.getD i ColX.zero) = true) (hb : l.length + (ik (s.cols.getD i ColX.zero)).1.length ≤ 70368744177664) : Calls Tryz.prog 22 #[.int .i64 (i : Int),.pointer (some ⟨bx,0,none⟩),.pointer (some ⟨bp,0,none⟩)] w (PrT w pb A (l ++ (ik (s.cols.getD i ColX.zero)).1) 0 (max m ((ik (s.cols.getD i ColX.zero)).2 : Int))) := by
 refine ay (args := [.int .i64 (i : Int),.pointer (some ⟨bx,0,none⟩),.pointer (some ⟨bp,0,none⟩)]) (lent := prL pb A) (H := prD pb A c l 0 m) Tryz.func22 rfl Tryz.ntmps22 rfl (Sat.cx hP) ((show Tri _ [(0,_),(1,_),(2,_)] _ _ _ from ?_))
 have hP_ := hE.rp hV.pe
 have hX_ := hE.rx hV.pe
 obtain ⟨xC,xN,xR,xS,xI,xF,xO,hC,hN,hR_,hS,hW,hQ⟩ := id hA
 have hci := lc hC i hi
 have hk := mayCol_k hmy
 simp only [ik,raw,List.length_append] at hb
 refine ab (aa (aJ (A := some ⟨bx,0,none⟩) (kk := 0) db rfl rfl (hX_ _ _ rfl rfl) rfl (aH eQ rfl rfl (hX_ _ _ rfl rfl) rfl (ah rfl rfl (aL Tryz.underlying22 jK rfl rfl rfl (hC.rd hV.pe _ _ rfl rfl) (by omega) (by omega) hC.len (by decide) (bo agg71 jK rfl rfl (hC.rd hV.pe _ _ rfl rfl) (vs := [Value.string (B (s.cols.getD i ColX.zero).n),Value.int .i64 (s.cols.getD i ColX.zero).k,Value.bool (s.cols.getD i ColX.zero).b]) hci rfl (by decide) (aP _ rfl zero71 rfl (fun b4 => aO jK N0 rfl rfl rfl rfl rfl (Nat.le_of_ble_eq_true rfl) rfl (triL_nilN (ab (tri_slo [(4,_),(2,_)] rfl (bj (_) [(0,true),(1,true),(2,true),(3,true),(4,true),(5,true),(6,true),(7,false),(8,false)] [8] (by kernel_rfl) (by kernel_rfl) (fun _ h => h) (ai rfl (aH (A := some ⟨bp,0,none⟩) (kk := 0) ck rfl rfl (hP_ _ _ rfl rfl) rfl (ae ⟨rfl,ai rfl (aj oN rfl rfl (ae ⟨rfl,ai rfl (ak bd N0 rfl rfl rfl (ae ⟨rfl,ai rfl (aU (built72 _ _ _ _) rfl rfl (ae ⟨rfl,ai rfl (aj lq rfl rfl (ae ⟨rfl,ai rfl (ak bz N0 rfl rfl rfl (ae ⟨rfl,ai rfl (nI Tryz.underlying72 bd sz9 rfl rfl rfl (by omega) (by omega) rfl (kd_get hk) (ae ⟨rfl,(aZ rfl (ee (parts := [_,_]) (dm [(s.cols.getD i ColX.zero).n,jl (s.cols.getD i ColX.zero).k]) Tryz.underlying23 zs9 rfl rfl rfl rfl (by decide) (by decide) (fun b17 => ae ⟨rfl,fun _ _ h => Sat.dropS 1 h,(bu [8] [_] rfl rfl (aK (pb := pb) [_,_] rfl rfl rfl rfl Tryz.call20 (fun w1 h1 h2 h3 => cV [(s.cols.getD i ColX.zero).n,jl (s.cols.getD i ColX.zero).k] _ _ pb _ _ _ _ _ w1 h2 (RdS.row .z w1 h1) (fun a ha => by cases ha; exact bv h1 (fun x hx => (List.mem_cons_of_mem _ hx)) rfl) (by (try simp only [List.length_append,List.length_nil,List.flatten_cons,List.flatten_nil] at hb ⊢); omega) (by simp)) (fun A18 c18 => ae ⟨rfl,(ag (ab (tri_slo [(4,_),(2,_)] rfl (aa (aj fo71_2 rfl rfl (ak eb N1 rfl rfl rfl (triL_nilN ?_)))))))⟩)))⟩)))⟩))⟩))⟩))⟩))⟩))⟩))⟩))))))))))))))); refine aE rfl (fun q0 => ?_) (fun q0 => ?_)
 · skip
   exact aa (aH (A := some ⟨bp,0,none⟩) (kk := 0) ck rfl rfl (hP_ _ _ rfl rfl) rfl (bF Tryz.underlying23 zs9 rfl rfl rfl rfl rfl (by decide) (by decide) (fun b22 => aK (pb := pb) [_,_,_] rfl rfl rfl rfl Tryz.call20 (fun w1 h1 h2 h3 => cV [[32,110,111,116,32,110,117,108,108]] _ _ pb _ _ _ _ _ w1 h2 (RdS.row .z w1 h1) (fun a ha => by cases ha; exact bv h1 (fun x hx => (List.mem_cons_of_mem _ (List.mem_cons_of_mem _ hx))) rfl) (by rw [q0] at hb; simp only [eC,if_true,List.length_append,List.length_cons,List.length_nil,List.flatten_cons,List.flatten_nil] at hb ⊢; omega) (by simp)) (fun A23 c23 => ae (cv rfl (bG (J := Option Addr × Nat) (A23,c23) rfl trivial (fun w2 hw2 => cj (by rw [ik,q0]; simp [raw,eC]) rfl (by simp only [ik,raw]; omega) (hw2.sel [3,4] (by decide)))))))))
 · skip
   exact am (cv rfl (bG (J := Option Addr × Nat) (A18,c18) rfl trivial (fun w2 hw2 => cj (by rw [ik,q0]; simp [raw,eC]) rfl (by simp only [ik,raw]; omega) (hw2.sel [2,3] (by decide)))))
theorem sJ (s : StmtX) (y : Lay) (bl : List Nat) (bp bx i : Nat) (pb : Nat) (A : Option Addr) (c : Nat) (l : List UInt8) (m : Int) (w : World) (hP : gq w pb A c l 0 m) (hm0 : 0 ≤ m) (hV : PV w (prL pb A) bl) (hE : CEnv w bl bp pb bx (bk s y)) (hA : SAt bl w s y) (hi : i < s.on.length) (hb : l.length + (raw (s.on.getD i [])).1.length ≤ 70368744177664) : Calls Tryz.prog 23 #[.int .i64 (i : Int),.pointer (some ⟨bp,0,none⟩),.pointer (some ⟨bx,0,none⟩)] w (PrT w pb A (l ++ (raw (s.on.getD i [])).1) 0 (max m ((raw (s.on.getD i [])).2 : Int))) := by
 refine ay (args := [.int .i64 (i : Int),.pointer (some ⟨bp,0,none⟩),.pointer (some ⟨bx,0,none⟩)]) (lent := prL pb A) (H := prD pb A c l 0 m) Tryz.func23 rfl Tryz.ntmps23 rfl (Sat.cx hP) ((show Tri _ [(0,_),(1,_),(2,_)] _ _ _ from ?_))
 have hP_ := hE.rp hV.pe
 have hX_ := hE.rx hV.pe
 obtain ⟨xC,xN,xR,xS,xI,xF,xO,hC,hN,hR_,hS,hW,hQ⟩ := id hA
 have hci := jz hN i hi
 simp only [raw] at hb
 exact bj (_) [(0,true),(1,true),(2,true),(3,true),(4,true),(5,true),(6,false),(7,false)] [7] (by kernel_rfl) (by kernel_rfl) (fun _ h => h) (ai rfl (aH (A := some ⟨bp,0,none⟩) (kk := 0) ck rfl rfl (hP_ _ _ rfl rfl) rfl (ae ⟨rfl,ai rfl (aJ (A := some ⟨bx,0,none⟩) (kk := 0) dF rfl rfl (hX_ _ _ rfl rfl) rfl (ae ⟨rfl,ai rfl (aH fP rfl rfl (hX_ _ _ rfl rfl) rfl (ae ⟨rfl,ai rfl (ah rfl rfl (ae ⟨rfl,ai rfl (aL Tryz.underlying23 sz9 rfl rfl rfl (hN.rd hV.pe _ _ rfl rfl) (by omega) (by omega) hN.len (by decide) (ae ⟨rfl,ai rfl (aH bd rfl rfl (hN.rd hV.pe _ _ rfl rfl) (aD hci (j := 0) rfl) (ae ⟨rfl,(aZ rfl (bF Tryz.underlying23 zs9 rfl rfl rfl rfl rfl (by decide) (by decide) (fun b10 => ae ⟨rfl,fun _ _ h => Sat.dropS 1 h,(bu [7] [_] rfl rfl (aK (pb := pb) [_] rfl rfl rfl rfl Tryz.call20 (fun w1 h1 h2 h3 => cV [(s.on.getD i [])] _ _ pb _ _ _ _ _ w1 h2 (RdS.row .z w1 h1) (fun a ha => by cases ha; exact bv h1 (fun x hx => hx) rfl) (by (try simp only [List.length_append,List.length_nil,List.flatten_cons,List.flatten_nil] at hb ⊢); omega) (by simp)) (fun A11 c11 => ae ⟨rfl,(cv rfl (bG (J := Option Addr × Nat) (A11,c11) rfl trivial (fun w2 hw2 => cj (by simp [raw]) rfl (by simp only [raw]; omega) (hw2.sel [1,2] (by decide)))))⟩)))⟩)))⟩))⟩))⟩))⟩))⟩))⟩)))
theorem print31K (s : StmtX) (y : Lay) (bl : List Nat) (bp bx bi i k : Nat) (pb : Nat) (A : Option Addr) (c : Nat) (l : List UInt8) (m : Int) (w : World) (hP : gq w pb A c l 0 m) (hm0 : 0 ≤ m) (hV : PV w (prL pb A) bl) (hE : CEnv w bl bp pb bx (bk s y)) (hA : SAt bl w s y) (hBI : Rd w (some ⟨bi,0,none⟩) [.int .i64 (i : Int)]) (hbi : bi ∈ bl) (hi : i < s.rows.length) (hk : k < (s.rows.getD i []).length) (hmy : ((s.rows.getD i []).getD k Ex.zero).may = true) (ho : ((s.rows.getD i []).getD k Ex.zero).ok) (hb : l.length + (((s.rows.getD i []).getD k Ex.zero).txt 1).1.length ≤ 70368744177664) : Calls Tryz.prog 25 #[.int .i64 (k : Int),.pointer (some ⟨bp,0,none⟩),.pointer (some ⟨bx,0,none⟩),.pointer (some ⟨bi,0,none⟩)] w (PrT w pb A (l ++ (((s.rows.getD i []).getD k Ex.zero).txt 1).1) 0 (max m ((((s.rows.getD i []).getD k Ex.zero).txt 1).2 : Int))) := by
 refine ay (args := [.int .i64 (k : Int),.pointer (some ⟨bp,0,none⟩),.pointer (some ⟨bx,0,none⟩),.pointer (some ⟨bi,0,none⟩)]) (lent := prL pb A) (H := prD pb A c l 0 m) Tryz.func25 rfl Tryz.ntmps25 rfl (Sat.cx hP) ((show Tri _ [(0,_),(1,_),(2,_),(3,_)] _ _ _ from ?_))
 have hP_ := hE.rp hV.pe
 have hX_ := hE.rx hV.pe
 obtain ⟨xC,xN,xR,xS,xI,xF,xO,hC,hN,hR_,hS,hW,hQ⟩ := id hA
 obtain ⟨yr,xr,hcr,hRr⟩ := iO hR_ i hi
 obtain ⟨ye,hci,hye⟩ := nJ hRr k hk
 have hB_ := fun cx H e1 e2 => hV.pe.rd hBI (fun a ha _ => by cases ha; exact hbi) cx H e1 e2
 exact bj (_) [(0,true),(1,true),(2,true),(3,true),(4,true),(5,true),(6,true),(7,true),(8,true),(9,false)] [9] (by kernel_rfl) (by kernel_rfl) (fun _ h => h) (ai rfl (aH (A := some ⟨bp,0,none⟩) (kk := 0) ck rfl rfl (hP_ _ _ rfl rfl) rfl (ae ⟨rfl,ai rfl (aJ (A := some ⟨bx,0,none⟩) (kk := 0) dc rfl rfl (hX_ _ _ rfl rfl) rfl (ae ⟨rfl,ai rfl (aH eR rfl rfl (hX_ _ _ rfl rfl) rfl (ae ⟨rfl,ai rfl (aH (A := some ⟨bi,0,none⟩) (kk := 0) bz rfl rfl (hB_ _ _ rfl rfl) rfl (ae ⟨rfl,ai rfl (aL Tryz.underlying24 sz28 rfl rfl rfl (hR_.rd hV.pe _ _ rfl rfl) (by omega) (by omega) hR_.len (by decide) (ae ⟨rfl,ai rfl (aH cM rfl rfl (hR_.rd hV.pe _ _ rfl rfl) (aD hcr (j := 0) rfl) (ae ⟨rfl,ai rfl (ah rfl rfl (ae ⟨rfl,ai rfl (aL Tryz.underlying28 aV rfl rfl rfl (hRr.rd hV.pe _ _ rfl rfl) (by omega) (by omega) hRr.len (by decide) (ae ⟨rfl,ai rfl (bo aW aV rfl rfl (hRr.rd hV.pe _ _ rfl rfl) (vs := bA ((s.rows.getD i []).getD k Ex.zero) ye) hci rfl (by decide) (ae ⟨rfl,(bu [9] [_] rfl rfl (aK (pb := pb) [] rfl rfl rfl rfl Tryz.call26 (fun w1 h1 h2 h3 => nT (((s.rows.getD i []).getD k Ex.zero)) (hmy) (ho) 1 bl ye pb _ _ _ _ _ w1 h2 (hV.sub (PSub.of h1 h3)) (hye.stab (hV.pe.st (PSub.of h1 h3))) (by omega) (by (try simp only [cat,raw,List.length_append,List.length_cons,List.length_nil,List.flatten_cons,List.flatten_nil] at hb ⊢); omega) (by (try simp only [cat,raw,List.length_append,List.length_cons,List.length_nil,List.flatten_cons,List.flatten_nil] at hb ⊢); omega)) (fun A14 c14 => ae ⟨rfl,(cv rfl (bG (J := Option Addr × Nat) (A14,c14) rfl trivial (fun w2 hw2 => cj (by rfl) rfl (by omega) (hw2.sel [0,1] (by decide)))))⟩)))⟩))⟩))⟩))⟩))⟩))⟩))⟩))⟩))⟩)))
theorem print3K (s : StmtX) (y : Lay) (bl : List Nat) (bp bx i : Nat) (pb : Nat) (A : Option Addr) (c : Nat) (l : List UInt8) (m : Int) (w : World) (hP : gq w pb A c l 0 m) (hm0 : 0 ≤ m) (hV : PV w (prL pb A) bl) (hE : CEnv w bl bp pb bx (bk s y)) (hA : SAt bl w s y) (hi : i < s.rows.length) (hmy : cS (s.rows.getD i []) = true) (hoR : ∀ j,j < (s.rows.getD i []).length → ((s.rows.getD i []).getD j Ex.zero).ok) (hb : l.length + (i6 (s.rows.getD i [])).1.length ≤ 70368744177664) : Calls Tryz.prog 24 #[.int .i64 (i : Int),.pointer (some ⟨bp,0,none⟩),.pointer (some ⟨bx,0,none⟩)] w (PrT w pb A (l ++ (i6 (s.rows.getD i [])).1) 0 (max m ((i6 (s.rows.getD i [])).2 : Int))) := by
 refine ay (args := [.int .i64 (i : Int),.pointer (some ⟨bp,0,none⟩),.pointer (some ⟨bx,0,none⟩)]) (lent := prL pb A) (H := prD pb A c l 0 m) Tryz.func24 rfl Tryz.ntmps24 rfl (Sat.cx hP) ((show Tri _ [(0,_),(1,_),(2,_)] _ _ _ from ?_))
 have hP_ := hE.rp hV.pe
 have hX_ := hE.rx hV.pe
 obtain ⟨xC,xN,xR,xS,xI,xF,xO,hC,hN,hR_,hS,hW,hQ⟩ := id hA
 obtain ⟨yr,xr,hcr,hRr⟩ := iO hR_ i hi
 obtain ⟨mr1,mr2⟩ := mayRow_p hmy
 simp only [i6,cat,raw,List.length_append,List.length_cons,List.length_nil] at hb
 exact ab (aa (bY _ rfl rfl rfl (fun b3 => triL_nilN (ab (aa (aH (A := some ⟨bp,0,none⟩) (kk := 0) ck rfl rfl (hP_ _ _ rfl rfl) rfl (bF Tryz.underlying23 zs9 rfl rfl rfl rfl rfl (by decide) (by decide) (fun b5 => aK (pb := pb) [_,_] rfl rfl rfl rfl Tryz.call20 (fun w1 h1 h2 h3 => cV [[40]] _ _ pb _ _ _ _ _ w1 h2 (RdS.row .z w1 h1) (fun a ha => by cases ha; exact bv h1 (fun x hx => (List.mem_cons_of_mem _ hx)) rfl) (by (try simp only [List.length_append,List.length_cons,List.length_nil,List.flatten_cons,List.flatten_nil] at hb ⊢); omega) (by simp)) (fun A6 c6 => triL_nilN (ab (tri_slo [(3,_),(1,_),(2,_)] rfl (bj (_) [(0,true),(1,true),(2,true),(3,true),(4,true),(5,true),(6,true),(7,true),(8,false)] [8] (by kernel_rfl) (by kernel_rfl) (fun _ h => h) (ai rfl (aH (A := some ⟨bp,0,none⟩) (kk := 0) ck rfl rfl (hP_ _ _ rfl rfl) rfl (ae ⟨rfl,ai rfl (aJ (A := some ⟨bx,0,none⟩) (kk := 0) dc rfl rfl (hX_ _ _ rfl rfl) rfl (ae ⟨rfl,ai rfl (aH eR rfl rfl (hX_ _ _ rfl rfl) rfl (ae ⟨rfl,ai rfl (ak bz N1 rfl rfl rfl (ae ⟨rfl,ai rfl (aL Tryz.underlying24 sz28 rfl rfl rfl (hR_.rd hV.pe _ _ rfl rfl) (by omega) (by omega) hR_.len (by decide) (ae ⟨rfl,ai rfl (aH cM rfl rfl (hR_.rd hV.pe _ _ rfl rfl) (aD hcr (j := 0) rfl) (ae ⟨rfl,ai rfl (aN Tryz.underlying28 rfl rfl (ae ⟨rfl,ai rfl (co rfl rfl rfl (ae ⟨rfl,(bu [8] [_] rfl rfl (aK (pb := pb) [_,_] rfl rfl rfl rfl Tryz.call21 (fun w1 h1 h2 h3 => ia (fun k => ((s.rows.getD i []).getD k Ex.zero).txt 1) (s.rows.getD i []).length 25 [] [.pointer (some ⟨bp,0,none⟩),.pointer (some ⟨bx,0,none⟩),.pointer (some ⟨b3,0,none⟩)] pb _ _ _ _ w1 h2 (by omega) (by omega) (by (try simp only [List.length_append,List.length_cons,List.length_nil,List.flatten_cons,List.flatten_nil] at hb ⊢); omega) Tryz.call25 (fun k A1 c1 l1 m1 w2 hk hs hP1 hm1 hb1 => by have hbe := benv (F := [_,_]) h1 (.s .z); have hs1 := PSub.of h1 h3; have hPE := (hV.pe.sub hs1).cons hbe.2.1 hbe.2.2; have hPV : PV w1 _ _ := ⟨hPE,(hV.lv.chgL h1.chg (fun k hk => (hV.pe.g k hk).2))⟩; have hup : ∀ j ∈ bl,j ∈ b3 :: bl := fun j hj => List.mem_cons_of_mem _ hj; have hA2 := (hA.stab (hV.pe.st hs1)).mono hup; have hE2 := (hE.stab (hV.pe.st hs1)).mono hup; exact print31K s y (b3 :: bl) bp bx b3 i k pb A1 c1 l1 m1 w2 hP1 hm1 (hPV.sub hs) (hE2.stab (hPE.st hs)) (hA2.stab (hPE.st hs)) (hbe.1.same (fun a ha _ => by cases ha; exact hPE.st hs _ List.mem_cons_self)) List.mem_cons_self hi hk (mr2 k hk) (hoR k hk) hb1)) (fun A15 c15 => ae ⟨rfl,(ag (tri_slo [(1,_)] rfl (aa (aH (A := some ⟨bp,0,none⟩) (kk := 0) ck rfl rfl (hP_ _ _ rfl rfl) rfl (bF Tryz.underlying23 zs9 rfl rfl rfl rfl rfl (by decide) (by decide) (fun b17 => aK (pb := pb) [_,_,_] rfl rfl rfl rfl Tryz.call20 (fun w1 h1 h2 h3 => cV [[41]] _ _ pb _ _ _ _ _ w1 h2 (RdS.row .z w1 h1) (fun a ha => by cases ha; exact bv h1 (fun x hx => (List.mem_cons_of_mem _ (List.mem_cons_of_mem _ hx))) rfl) (by (try simp only [List.length_append,List.length_cons,List.length_nil,List.flatten_cons,List.flatten_nil] at hb ⊢); omega) (by simp)) (fun A18 c18 => ae (cv rfl (bG (J := Option Addr × Nat) (A18,c18) rfl trivial (fun w2 hw2 => cj (by simp [i6,cat,raw]) rfl (by simp only [i6,cat,raw]; omega) (hw2.sel [3,4] (by decide))))))))))))⟩)))⟩))⟩))⟩))⟩))⟩))⟩))⟩))⟩)))))))))))))))
theorem others1K (s : StmtX) (y : Lay) (bl : List Nat) (bp bx i : Nat) (pb : Nat) (A : Option Addr) (c : Nat) (l : List UInt8) (m : Int) (w : World) (hP : gq w pb A c l 0 m) (hm0 : 0 ≤ m) (hV : PV w (prL pb A) bl) (hE : CEnv w bl bp pb bx (bk s y)) (hA : SAt bl w s y) (hi : i < s.sets.length) (hmy : fu (s.sets.getD i SetX.zero) = true) (ho : (s.sets.getD i SetX.zero).e.ok) (hb : l.length + (iZ (s.sets.getD i SetX.zero)).1.length ≤ 70368744177664) : Calls Tryz.prog 61 #[.int .i64 (i : Int),.pointer (some ⟨bp,0,none⟩),.pointer (some ⟨bx,0,none⟩)] w (PrT w pb A (l ++ (iZ (s.sets.getD i SetX.zero)).1) 0 (max m ((iZ (s.sets.getD i SetX.zero)).2 : Int))) := by
 refine ay (args := [.int .i64 (i : Int),.pointer (some ⟨bp,0,none⟩),.pointer (some ⟨bx,0,none⟩)]) (lent := prL pb A) (H := prD pb A c l 0 m) Tryz.func61 rfl Tryz.ntmps61 rfl (Sat.cx hP) ((show Tri _ [(0,_),(1,_),(2,_)] _ _ _ from ?_))
 have hP_ := hE.rp hV.pe
 have hX_ := hE.rx hV.pe
 obtain ⟨xC,xN,xR,xS,xI,xF,xO,hC,hN,hR_,hS,hW,hQ⟩ := id hA
 obtain ⟨ye,hci,hye⟩ := lb hS i hi
 simp only [iZ,cat,raw,List.length_append,List.length_cons,List.length_nil] at hb
 refine ab (bj (_) [(0,true),(1,true),(2,true),(3,true),(4,true),(5,true),(6,true),(7,false),(8,false)] [8] (by kernel_rfl) (by kernel_rfl) (fun _ h => h) (ai rfl (aH (A := some ⟨bp,0,none⟩) (kk := 0) ck rfl rfl (hP_ _ _ rfl rfl) rfl (ae ⟨rfl,ai rfl (aJ (A := some ⟨bx,0,none⟩) (kk := 0) cC rfl rfl (hX_ _ _ rfl rfl) rfl (ae ⟨rfl,ai rfl (aH dz rfl rfl (hX_ _ _ rfl rfl) rfl (ae ⟨rfl,ai rfl (ah rfl rfl (ae ⟨rfl,ai rfl (aL Tryz.underlying25 kl rfl rfl rfl (hS.rd hV.pe _ _ rfl rfl) (by omega) (by omega) hS.len (by decide) (ae ⟨rfl,ai rfl (aJ jo rfl rfl (hS.rd hV.pe _ _ rfl rfl) (aD hci (j := 0) rfl) (ae ⟨rfl,ai rfl (aH bd rfl rfl (hS.rd hV.pe _ _ rfl rfl) (aD hci (j := 0) rfl) (ae ⟨rfl,(aZ rfl (ee (parts := [_,_]) (dm [(s.sets.getD i SetX.zero).n,[32,61,32]]) Tryz.underlying23 zs9 rfl rfl rfl rfl (by decide) (by decide) (fun b11 => ae ⟨rfl,fun _ _ h => Sat.dropS 1 h,(bu [8] [_] rfl rfl (aK (pb := pb) [_] rfl rfl rfl rfl Tryz.call20 (fun w1 h1 h2 h3 => cV [(s.sets.getD i SetX.zero).n,[32,61,32]] _ _ pb _ _ _ _ _ w1 h2 (RdS.row .z w1 h1) (fun a ha => by cases ha; exact bv h1 (fun x hx => hx) rfl) (by (try simp only [List.length_append,List.length_cons,List.length_nil,List.flatten_cons,List.flatten_nil] at hb ⊢); omega) (by simp)) (fun A12 c12 => ae ⟨rfl,(ag (tri_slo [(0,_),(1,_),(2,_)] rfl (bj (_) [(0,true),(1,true),(2,true),(3,true),(4,true),(5,true),(6,true),(7,false)] [7] (by kernel_rfl) (by kernel_rfl) (fun _ h => h) (ai rfl (aH (A := some ⟨bp,0,none⟩) (kk := 0) ck rfl rfl (hP_ _ _ rfl rfl) rfl (ae ⟨rfl,ai rfl (aJ (A := some ⟨bx,0,none⟩) (kk := 0) cC rfl rfl (hX_ _ _ rfl rfl) rfl (ae ⟨rfl,ai rfl (aH dz rfl rfl (hX_ _ _ rfl rfl) rfl (ae ⟨rfl,ai rfl (ah rfl rfl (ae ⟨rfl,ai rfl (aL Tryz.underlying25 kl rfl rfl rfl (hS.rd hV.pe _ _ rfl rfl) (by omega) (by omega) hS.len (by decide) (ae ⟨rfl,ai rfl (aJ lr rfl rfl (hS.rd hV.pe _ _ rfl rfl) (aD hci (j := 0) rfl) (ae ⟨rfl,ai rfl (bo aW aV rfl rfl (hS.rd hV.pe _ _ rfl rfl) (vs := bA ((s.sets.getD i SetX.zero).e) ye) (dw (p := [.string (B (s.sets.getD i SetX.zero).n)]) (cs := bA ((s.sets.getD i SetX.zero).e) ye) (r := []) hci) rfl (by decide) ?_)⟩))⟩))⟩))⟩))⟩))⟩))))))⟩)))⟩)))⟩))⟩))⟩))⟩))⟩))⟩))⟩)))); exact ae ⟨rfl,(bu [7] [_] rfl rfl (aK (pb := pb) [_] rfl rfl rfl rfl Tryz.call26 (fun w1 h1 h2 h3 => nT ((s.sets.getD i SetX.zero).e) (maySet_1 hmy) (ho) 1 bl ye pb _ _ _ _ _ w1 h2 (hV.sub (PSub.of h1 h3)) (hye.stab (hV.pe.st (PSub.of h1 h3))) (by omega) (by (try simp only [cat,raw,List.length_append,List.length_cons,List.length_nil,List.flatten_cons,List.flatten_nil] at hb ⊢); omega) (by (try simp only [List.length_append,List.length_cons,List.length_nil,List.flatten_cons,List.flatten_nil] at hb ⊢); omega)) (fun A20 c20 => ae ⟨rfl,(cv rfl (bG (J := Option Addr × Nat) (A20,c20) rfl trivial (fun w2 hw2 => cj (by simp [iZ,cat,raw]) rfl (by simp only [iZ,cat,raw]; omega) (hw2.sel [1,2] (by decide)))))⟩)))⟩
set_option maxHeartbeats 1000000 in
theorem othersK (s : StmtX) (y : Lay) (bl : List Nat) (pb : Nat) (A : Option Addr) (c : Nat) (l : List UInt8) (m : Int) (w : World) (hP : gq w pb A c l 0 m) (hm0 : 0 ≤ m) (hV : PV w (prL pb A) bl) (hA : SAt bl w s y) (hk6 : 6 ≤ s.k) (hmy : cL s = true) (hok : SOk s) (hb : l.length + (dk s).1.length ≤ 70368744177664) : Calls Tryz.prog 27 #[.pointer (some ⟨pb,0,none⟩),.agg (bk s y).toArray] w (PrT w pb A (l ++ (dk s).1) 0 (max m ((dk s).2 : Int))) := by
 refine ay (args := [.pointer (some ⟨pb,0,none⟩),.agg (bk s y).toArray]) (lent := prL pb A) (H := prD pb A c l 0 m) Tryz.func27 rfl Tryz.ntmps27 rfl (Sat.cx hP) ((show Tri _ [(0,_),(1,_)] _ _ _ from ?_))
 obtain ⟨xC,xN,xR,xS,xI,xF,xO,hC,hN,hR_,hS,hW,hQ⟩ := id hA
 refine ab (aa (bY _ rfl rfl rfl (fun b2 => bY _ rfl rfl rfl (fun b3 => triL_nilN (ab (aa (aj dK rfl rfl (ak bz N0 rfl rfl rfl (triL_nilN (aw (ab (aa (ax rfl rfl rfl (o_assignN rfl rfl (ar rfl (fun q6 => ?_) (fun q6 => ?_))))))))))))))))
 · skip
   rw [st_6 q6] at hb ⊢
   simp only [cat,raw,List.length_append,List.length_cons,List.length_nil] at hb
   have hmw : gR s.wh = true := by rw [oo q6] at hmy; simp only [Bool.and_eq_true] at hmy; exact hmy.2
   exact ab (tri_slo [(3,_),(2,_)] rfl (aa (ak ck N1 rfl rfl rfl (aj cl rfl rfl (ak bd N0 rfl rfl rfl (ee (parts := [_,_]) (dm [[100,101,108,101,116,101,32,102,114,111,109,32],s.t]) Tryz.underlying23 zs9 rfl rfl rfl rfl (by decide) (by decide) (fun b11 => aK (pb := pb) [_,_,_] rfl rfl rfl rfl Tryz.call20 (fun w1 h1 h2 h3 => cV [[100,101,108,101,116,101,32,102,114,111,109,32],s.t] _ _ pb _ _ _ _ _ w1 h2 (RdS.row .z w1 h1) (fun a ha => by cases ha; exact bv h1 (fun x hx => (List.mem_cons_of_mem _ (List.mem_cons_of_mem _ hx))) rfl) (by (try simp only [List.length_append,List.length_cons,List.length_nil,List.flatten_cons,List.flatten_nil] at hb ⊢); omega) (by simp)) (fun A12 c12 => triL_nilN (tri_slo [(3,_),(2,_)] rfl (aa (ak ck N2 rfl rfl rfl (aj dx rfl rfl (aC aW aV (.s .z) rfl rfl (vs := bA s.wh y.W) rfl rfl (aK (pb := pb) [_,_,_] rfl rfl rfl rfl Tryz.call60 (fun w1 h1 h2 h3 => oM s.wh y.W bl pb _ _ _ _ w1 h2 (by omega) (hV.sub (PSub.of h1 h3)) (hW.stab (hV.pe.st (PSub.of h1 h3))) hok.wh hmw (by (try simp only [List.length_append,List.length_cons,List.length_nil,List.flatten_cons,List.flatten_nil] at hb ⊢); omega)) (fun A16 c16 => ae (ao (cv rfl (bG (J := Option Addr × Nat) (A16,c16) rfl trivial (fun w2 hw2 => cj (by simp [cat,raw]) rfl (by simp only [cat,raw]; omega) (hw2.sel [3,4] (by decide)))))))))))))))))))))
 · skip
   refine ab (tri_slo [(5,_),(3,_),(2,_)] rfl (aa (ax rfl rfl rfl (o_assignN rfl rfl (ar rfl (fun q7 => ?_) (fun q7 => ?_))))))
   · skip
     rw [st_7 q7] at hb ⊢
     simp only [cat,raw,List.length_append,List.length_cons,List.length_nil] at hb
     rw [mJ q7] at hmy
     simp only [Bool.and_eq_true] at hmy
     obtain ⟨_,hmu,hmw,hma⟩ := hmy
     have hmu := r9 hmu
     have hms : ∀ i,i < s.sets.length → fu (s.sets.getD i SetX.zero) = true := fun i hi => dO hma hi
     exact ab (aa (ak ck N1 rfl rfl rfl (aj cl rfl rfl (ak bd N0 rfl rfl rfl (ee (parts := [_,_,_]) (dm [[117,112,100,97,116,101,32],s.t,[32,115,101,116,32]]) Tryz.underlying23 zs9 rfl rfl rfl rfl (by decide) (by decide) (fun b22 => aK (pb := pb) [_,_,_] rfl rfl rfl rfl Tryz.call20 (fun w1 h1 h2 h3 => cV [[117,112,100,97,116,101,32],s.t,[32,115,101,116,32]] _ _ pb _ _ _ _ _ w1 h2 (RdS.row .z w1 h1) (fun a ha => by cases ha; exact bv h1 (fun x hx => (List.mem_cons_of_mem _ (List.mem_cons_of_mem _ hx))) rfl) (by (try simp only [List.length_append,List.length_cons,List.length_nil,List.flatten_cons,List.flatten_nil] at hb ⊢); omega) (by simp)) (fun A23 c23 => triL_nilN (ab (tri_slo [(3,_),(2,_)] rfl (aa (ak ck N2 rfl rfl rfl (aj cC rfl rfl (ak dz N1 rfl rfl rfl (aN Tryz.underlying25 rfl rfl (co rfl rfl rfl (aK (pb := pb) [_,_,_] rfl rfl rfl rfl Tryz.call21 (fun w1 h1 h2 h3 => ia (fun i => iZ (s.sets.getD i SetX.zero)) s.sets.length 61 [] [.pointer (some ⟨b2,0,none⟩),.pointer (some ⟨b3,0,none⟩)] pb _ _ _ _ w1 h2 (by omega) (by omega) (by (try simp only [List.length_append,List.length_cons,List.length_nil,List.flatten_cons,List.flatten_nil] at hb ⊢); omega) Tryz.call61 (fun i A1 c1 l1 m1 w2 hi hs hP1 hm1 hb1 => by have hce := cenv (F := [_,_,_]) hV.pe h1 (.s (.s .z)) (.s .z); have hPV : PV w1 _ _ := ⟨hce.1,(hV.lv.chgL h1.chg (fun k hk => (hV.pe.g k hk).2))⟩; have hA2 := (hA.stab (hV.pe.st (PSub.of h1 h3))).mono (bl' := b2 :: b3 :: bl) (fun k hk => List.mem_cons_of_mem _ (List.mem_cons_of_mem _ hk)); exact others1K s y (b2 :: b3 :: bl) b2 b3 i pb A1 c1 l1 m1 w2 hP1 hm1 (hPV.sub hs) (hce.2.stab (hce.1.st hs)) (hA2.stab (hce.1.st hs)) hi (hms i hi) (hok.sets i hi) hb1)) (fun A29 c29 => triL_nilN (tri_slo [(3,_),(2,_)] rfl (aa (ak ck N2 rfl rfl rfl (aj dx rfl rfl (aC aW aV (.s .z) rfl rfl (vs := bA s.wh y.W) rfl rfl (aK (pb := pb) [_,_,_] rfl rfl rfl rfl Tryz.call60 (fun w1 h1 h2 h3 => oM s.wh y.W bl pb _ _ _ _ w1 h2 (by omega) (hV.sub (PSub.of h1 h3)) (hW.stab (hV.pe.st (PSub.of h1 h3))) hok.wh hmw (by (try simp only [List.length_append,List.length_cons,List.length_nil,List.flatten_cons,List.flatten_nil] at hb ⊢); omega)) (fun A33 c33 => ae (ao (cv rfl (bG (J := Option Addr × Nat) (A33,c33) rfl trivial (fun w2 hw2 => cj (by simp [cat,raw]) rfl (by simp only [cat,raw]; omega) (hw2.sel [3,4] (by decide))))))))))))))))))))))))))))))
   · skip
     refine ab (aa (ax rfl rfl rfl (o_assignN rfl rfl (ar rfl (fun q8 => ?_) (fun q8 => ?_)))))
     · skip
       rw [st_8 q8] at hb ⊢
       exact tri_slo [(3,_),(2,_)] rfl (aa (ak ck N1 rfl rfl rfl (aj fv rfl rfl (aC jS jL .z rfl rfl (vs := cI s.q y.q) rfl rfl (aK (pb := pb) [_,_] rfl rfl rfl rfl Tryz.call62 (fun w1 h1 h2 h3 => dh s.q y.q bl pb _ _ _ _ w1 h2 (by omega) (hV.sub (PSub.of h1 h3)) (hA.q.stab (hV.pe.st (PSub.of h1 h3))) (by rw [oq q8] at hmy; exact hmy) hok.q (by omega)) (fun A39 c39 => ae (ao (cv rfl (bG (J := Option Addr × Nat) (A39,c39) rfl trivial (fun w2 hw2 => cj (by rfl) rfl (by rfl) (hw2.sel [2,3] (by decide))))))))))))
     · skip
       refine ab (tri_slo [(5,_),(2,_)] rfl (aa (ax rfl rfl rfl (o_assignN rfl rfl (ar rfl (fun q9 => ?_) (fun q9 => ?_))))))
       · skip
         rw [st_9 q9] at hb ⊢
         simp only [raw,List.length_cons,List.length_nil] at hb
         exact aa (ak ck N1 rfl rfl rfl (bF Tryz.underlying23 zs9 rfl rfl rfl rfl rfl (by decide) (by decide) (fun b43 => aK (pb := pb) [_,_,_] rfl rfl rfl rfl Tryz.call20 (fun w1 h1 h2 h3 => cV [[98,101,103,105,110]] _ _ pb _ _ _ _ _ w1 h2 (RdS.row .z w1 h1) (fun a ha => by cases ha; exact bv h1 (fun x hx => (List.mem_cons_of_mem _ (List.mem_cons_of_mem _ hx))) rfl) (by (try simp only [List.length_append,List.length_cons,List.length_nil,List.flatten_cons,List.flatten_nil] at hb ⊢); omega) (by simp)) (fun A44 c44 => ae (ao (cv rfl (bG (J := Option Addr × Nat) (A44,c44) rfl trivial (fun w2 hw2 => cj (by simp [raw]) rfl (by simp only [raw]; omega) (hw2.sel [3,4] (by decide))))))))))
       · skip
         refine ab (aa (ax rfl rfl rfl (o_assignN rfl rfl (ar rfl (fun q10 => ?_) (fun q10 => ?_)))))
         · skip
           rw [st_10 q10] at hb ⊢
           simp only [raw,List.length_cons,List.length_nil] at hb
           exact tri_slo [(2,_)] rfl (aa (ak ck N1 rfl rfl rfl (bF Tryz.underlying23 zs9 rfl rfl rfl rfl rfl (by decide) (by decide) (fun b48 => aK (pb := pb) [_,_,_] rfl rfl rfl rfl Tryz.call20 (fun w1 h1 h2 h3 => cV [[99,111,109,109,105,116]] _ _ pb _ _ _ _ _ w1 h2 (RdS.row .z w1 h1) (fun a ha => by cases ha; exact bv h1 (fun x hx => (List.mem_cons_of_mem _ (List.mem_cons_of_mem _ hx))) rfl) (by (try simp only [List.length_append,List.length_cons,List.length_nil,List.flatten_cons,List.flatten_nil] at hb ⊢); omega) (by simp)) (fun A49 c49 => ae (ao (cv rfl (bG (J := Option Addr × Nat) (A49,c49) rfl trivial (fun w2 hw2 => cj (by simp [raw]) rfl (by simp only [raw]; omega) (hw2.sel [3,4] (by decide)))))))))))
         · skip
           refine ab (tri_slo [(5,_),(2,_)] rfl (aa (ax rfl rfl rfl (o_assignN rfl rfl (ar rfl (fun q11 => ?_) (fun q11 => ?_))))))
           · skip
             rw [st_11 q11] at hb ⊢
             simp only [raw,List.length_cons,List.length_nil] at hb
             exact aa (ak ck N1 rfl rfl rfl (bF Tryz.underlying23 zs9 rfl rfl rfl rfl rfl (by decide) (by decide) (fun b53 => aK (pb := pb) [_,_,_] rfl rfl rfl rfl Tryz.call20 (fun w1 h1 h2 h3 => cV [[114,111,108,108,98,97,99,107]] _ _ pb _ _ _ _ _ w1 h2 (RdS.row .z w1 h1) (fun a ha => by cases ha; exact bv h1 (fun x hx => (List.mem_cons_of_mem _ (List.mem_cons_of_mem _ hx))) rfl) (by (try simp only [List.length_append,List.length_cons,List.length_nil,List.flatten_cons,List.flatten_nil] at hb ⊢); omega) (by simp)) (fun A54 c54 => ae (ao (cv rfl (bG (J := Option Addr × Nat) (A54,c54) rfl trivial (fun w2 hw2 => cj (by simp [raw]) rfl (by simp only [raw]; omega) (hw2.sel [3,4] (by decide))))))))))
           · skip
             exfalso
             rw [mK (by omega)] at hmy
             have := of_decide_eq_true hmy
             omega
end Go.Proofs.YtjbpkcbefmpfgaaGreatDoor
namespace Go.Proofs.YtjbpkcbefmpfgaaGreatDoor
open Go.WK Go.RowKit 
set_option maxHeartbeats 1000000 in
theorem mayQK (q : QryX) (y : QLay) (bl : List Nat) (w : World) (hA : QAt bl w q y) (hbl : ∀ k ∈ bl,k < w.heap.size) (hok : QOk q) (hbd : QBd q) : Calls Tryz.prog 34 #[.agg (cI q y).toArray] w (bX w (.bool (fL q))) := by
 refine ay (args := [.agg (cI q y).toArray]) (lent := []) (H := []) Tryz.func34 rfl Tryz.ntmps34 rfl (Sat.start _ _ _ _) ((show Tri _ [(0,_)] _ _ _ from ?_))
 obtain ⟨xI,xF,xO,hI,hF,hW,hO⟩ := id hA
 have n1 : q.items.length ≤ 70368744177664 := hbd.ni
 have n2 : q.from_.length ≤ 70368744177664 := hbd.nf
 have n3 : q.ord.length ≤ 70368744177664 := hbd.no
 refine ab (aa (bY _ rfl rfl rfl (fun b1 => o_assignN rfl rfl (ab (aa (aj fZ rfl rfl (aC aW aV .z rfl rfl (vs := bA q.wh y.V) rfl rfl (av (first := []) (cap := []) rfl rfl rfl Tryz.call33 (fun w1 h1 => rr q.wh y.V bl w1 (hW.stab (fun k hk => h1.chg.block k (hbl k hk) (by simp))) hok.wh hbd.wh (fun k hk => Nat.lt_of_lt_of_le (hbl k hk) h1.chg.size)) (ah rfl rfl ?_)))))))))
 refine' aA [_,_,_,_] [(1,_)] (dj := 13) (dr := 17) rfl rfl (fun g1 => ?_) ⟨_,rfl,rfl,rfl,(.cons rfl (.nil _))⟩ rfl ?_
 rotate_left
 · skip
   exact aj cp rfl rfl (ak cP N0 rfl rfl rfl (aN Tryz.underlying32 rfl rfl (gc rfl rfl rfl (ae (Piece.mk rfl rfl (.cons rfl (.nil _)) (fun _ h => h))))))
 refine ah rfl rfl ?_
 refine' aA [_,_,_,_] [(1,_)] (dj := 19) (dr := 23) rfl rfl (fun g2 => ?_) ⟨_,rfl,rfl,rfl,(.cons rfl (.nil _))⟩ rfl ?_
 rotate_left
 · skip
   exact aj dl rfl rfl (ak eP N0 rfl rfl rfl (aN Tryz.underlying33 rfl rfl (gc rfl rfl rfl (ae (Piece.mk rfl rfl (.cons rfl (.nil _)) (fun _ h => h))))))
 refine ah rfl rfl ?_
 refine' aA [_,_,_] [(1,_)] (dj := 25) (dr := 28) rfl rfl (fun g3 => ?_) ⟨_,rfl,rfl,rfl,(.cons rfl (.nil _))⟩ rfl ?_
 rotate_left
 · skip
   exact aj gM rfl rfl (ak bz N0 rfl rfl rfl (gd rfl rfl rfl (ae (Piece.mk rfl rfl (.cons rfl (.nil _)) (fun _ h => h)))))
 refine ah rfl rfl ?_
 refine' aA [_,_,_,_,_,_,_] [(1,_)] (dj := 30) (dr := 37) rfl rfl (fun g4 => ?_) ⟨_,rfl,rfl,rfl,(.cons rfl (.nil _))⟩ rfl ?_
 rotate_left
 · skip
   refine aj iV rfl rfl (ak eb N0 rfl rfl rfl (ah rfl rfl ?_))
   refine' aQ [_,_,_] [(30,_),(1,_)] (dj := 33) (dr := 36) rfl rfl (fun g5 => ?_) ⟨_,rfl,rfl,rfl,(.cons rfl (.cons rfl (.nil _)))⟩ rfl ?_
   rotate_left
   · skip
     exact aj gM rfl rfl (ak bz N0 rfl rfl rfl (ax rfl rfl rfl (ae (Piece.mk rfl rfl (.cons rfl (.cons rfl (.nil _))) (fun _ h => h)))))
   exact ae (Piece.mk rfl rfl (.cons rfl (.nil _)) (fun _ h => h))
 refine o_assignN rfl rfl (br (ι := Nat) (fun i => [(1,.pointer (some ⟨b1,0,none⟩)),(3,.bool (mqA q && mqB q))]) (fun i => [box b1 35 (cI q y)]) (fun i => True) ?_ (fun i hj => ?_))
 · skip
   refine ab (aa (aj iT rfl rfl (ak eb N0 rfl rfl rfl (triL_nilN (aE rfl (fun q0 => ?_) (fun q0 => ?_))))))
   · skip
     refine aa (ah rfl rfl (ah rfl rfl ?_))
     refine' aA [_,_,_,_] [(3,_),(1,_)] (dj := 42) (dr := 46) rfl rfl (fun g6 => ?_) ⟨_,rfl,rfl,rfl,(.cons rfl (.cons rfl (.nil _)))⟩ rfl ?_
     rotate_left
     · skip
       exact aj cA rfl rfl (ak dn N0 rfl rfl rfl (aN Tryz.underlying31 rfl rfl (ax rfl rfl rfl (ae (Piece.mk rfl rfl (.cons rfl (.cons rfl (.nil _))) (fun _ h => h))))))
     exact o_assignN rfl rfl (⟨0,(.cons rfl (.cons (congrArg (fun b => some (Value.bool b)) (by unfold mqA mqB; rw [if_pos q0])) (.nil _))),fun _ h => h,trivial⟩)
   · skip
     refine aa (ah rfl rfl (ah rfl rfl ?_))
     refine' aA [_,_,_,_] [(3,_),(1,_)] (dj := 49) (dr := 53) rfl rfl (fun g7 => ?_) ⟨_,rfl,rfl,rfl,(.cons rfl (.cons rfl (.nil _)))⟩ rfl ?_
     rotate_left
     · skip
       exact aj cA rfl rfl (ak dn N0 rfl rfl rfl (aN Tryz.underlying31 rfl rfl (av (first := []) (cap := []) rfl rfl rfl Tryz.call31 (fun w1 h1 => pS q.items.length 16 w1) (ae (Piece.mk rfl rfl (.cons rfl (.cons rfl (.nil _))) (fun _ h => h))))))
     exact o_assignN rfl rfl (⟨0,(.cons rfl (.cons (congrArg (fun b => some (Value.bool b)) (by unfold mqA mqB; rw [if_neg (dP q0)])) (.nil _))),fun _ h => h,trivial⟩)
 refine ab (ab (aa (aj cA rfl rfl (ak dn N0 rfl rfl rfl (aN Tryz.underlying31 rfl rfl (ah rfl rfl (triL_nilN (aw (bf (ι := Nat) (F := fun i => [(1,.pointer (some ⟨b1,0,none⟩)),(3,.bool ((mqA q && mqB q) && bO (fun i => ij (q.items.getD i ItemX.zero)) i)),(56,.slice y.I.A q.items.length y.I.k),(57,.int .i64 (q.items.length : Int)),(58,.int .i64 (i : Int))]) (HH := fun i => [box b1 35 (cI q y)]) (Pu := fun i => i ≤ q.items.length) (μ := fun i => q.items.length - i) (0) (.cons rfl (.cons (congrArg (fun b => some (Value.bool b)) (by simp [bO])) (.cons rfl (.cons rfl (.cons rfl (.nil _)))))) (fun _ h => h) (Nat.zero_le _) (fun i hi => ab (aa (bK rfl rfl rfl (triL_nilN (ab (ar rfl (fun q1 => ?_) (fun q1 => ?_))))))))))))))))
 · skip
   have hil : i < q.items.length := by omega
   refine am (ag (ab (aw (ab ?_))))
   obtain ⟨ye,hci,hye⟩ := jy hI i hil
   refine aa (aL Tryz.underlying31 iS rfl rfl rfl (hI.rd0 _ _ rfl rfl) (by omega) (by omega) hI.len (by decide) (bo agg53 iS rfl rfl (hI.rd0 _ _ rfl rfl) (vs := bA (q.items.getD i ItemX.zero).e ye ++ [Value.string (B (q.items.getD i ItemX.zero).s)]) hci rfl (by decide) (aP _ rfl zero53 rfl (fun b5 => aO iS N0 rfl rfl rfl rfl rfl (Nat.le_of_ble_eq_true rfl) rfl (triL_nilN (aa (ah rfl rfl (ah rfl rfl ?_))))))))
   refine' aA [_,_,_] [(5,_),(1,_),(3,_),(56,_),(57,_),(58,_)] (dj := 63) (dr := 66) rfl rfl (fun g8 => ?_) ⟨_,rfl,rfl,rfl,(.cons rfl (.cons rfl (.cons rfl (.cons rfl (.cons rfl (.cons rfl (.nil _)))))))⟩ rfl ?_
   rotate_left
   · skip
     exact aj ln rfl rfl (aC aW aV .z rfl rfl (vs := bA (q.items.getD i ItemX.zero).e ye) rfl rfl (av (first := []) (cap := []) rfl rfl rfl Tryz.call32 (fun w1 h1 => nS (q.items.getD i ItemX.zero).e bl ye w1 (hye.stab (fun k hk => h1.chg.block k (hbl k hk) (by simp))) (hok.items i hil) (hbd.items i hil).1) (ae (Piece.mk rfl rfl (.cons rfl (.cons rfl (.cons rfl (.cons rfl (.cons rfl (.cons rfl (.nil _))))))) (fun _ h => h)))))
   refine ah rfl rfl ?_
   refine' aA [_,_,_,_,_,_,_,_] [(1,_),(3,_),(56,_),(57,_),(58,_)] (dj := 68) (dr := 76) rfl rfl (fun g9 => ?_) ⟨_,rfl,rfl,rfl,(.cons rfl (.cons rfl (.cons rfl (.cons rfl (.cons rfl (.nil _))))))⟩ rfl ?_
   rotate_left
   · skip
     refine aj gL rfl rfl (ak bd N0 rfl rfl rfl (bE rfl rfl rfl (ah rfl rfl ?_)))
     refine' aQ [_,_,_] [(68,_),(1,_),(3,_),(56,_),(57,_),(58,_)] (dj := 72) (dr := 75) rfl rfl (fun g10 => ?_) ⟨_,rfl,rfl,rfl,(.cons rfl (.cons rfl (.cons rfl (.cons rfl (.cons rfl (.cons rfl (.nil _)))))))⟩ rfl ?_
     rotate_left
     · skip
       exact aj gL rfl rfl (ak bd N0 rfl rfl rfl (av (first := []) (cap := []) rfl rfl rfl Tryz.call30 (fun w1 h1 => dZ (q.items.getD i ItemX.zero).s w1 (hbd.items i hil).2) (ae (Piece.mk rfl rfl (.cons rfl (.cons rfl (.cons rfl (.cons rfl (.cons rfl (.cons rfl (.nil _))))))) (fun _ h => h)))))
     exact ae (Piece.mk rfl rfl (.cons rfl (.cons rfl (.cons rfl (.cons rfl (.cons rfl (.nil _)))))) (fun _ h => h))
   exact aB rfl rfl (ae (ao (ag (aa (bn rfl rfl rfl (by omega) (ah rfl rfl (triL_nilN (⟨i + 1,(.cons rfl (.cons (congrArg (fun b => some (Value.bool b)) (by exact tw (mqA q && mqB q) (fun i => q.items.getD i ItemX.zero) i)) (.cons rfl (.cons rfl (.cons rfl (.nil _)))))),(fun w2 hw2 => hw2.tail),by omega,by omega⟩))))))))
 · skip
   have hie : i = q.items.length := by omega
   rw [hie]
   refine aS (au (au (aG (ag (ab (ab (tri_slo [(1,_),(3,_)] rfl (aa (aj cp rfl rfl (ak cP N0 rfl rfl rfl (aN Tryz.underlying32 rfl rfl (ah rfl rfl (triL_nilN (aw (bf (ι := Nat) (F := fun i => [(1,.pointer (some ⟨b1,0,none⟩)),(3,.bool (((mqA q && mqB q) && bO (fun i => ij (q.items.getD i ItemX.zero)) q.items.length) && bO (fun i => iY i (q.from_.getD i SrcX.zero)) i)),(80,.slice y.F.A q.from_.length y.F.k),(81,.int .i64 (q.from_.length : Int)),(82,.int .i64 (i : Int))]) (HH := fun i => [box b1 35 (cI q y)]) (Pu := fun i => i ≤ q.from_.length) (μ := fun i => q.from_.length - i) (0) (.cons rfl (.cons (congrArg (fun b => some (Value.bool b)) (by simp [bO])) (.cons rfl (.cons rfl (.cons rfl (.nil _)))))) (fun _ h => h) (Nat.zero_le _) (fun i hi => ab (aa (bK rfl rfl rfl (triL_nilN (ab (ar rfl (fun q2 => ?_) (fun q2 => ?_))))))))))))))))))))))
   · skip
     have hil : i < q.from_.length := by omega
     refine am (ag (ab (aw (ab ?_))))
     obtain ⟨ye,hci,hye⟩ := kc hF i hil
     refine aa (ah rfl rfl (aL Tryz.underlying32 dY rfl rfl rfl (hF.rd0 _ _ rfl rfl) (by omega) (by omega) hF.len (by decide) (bo lG dY rfl rfl (hF.rd0 _ _ rfl rfl) (vs := Value.string (B (q.from_.getD i SrcX.zero).t) :: Value.string (B (q.from_.getD i SrcX.zero).s) :: bA (q.from_.getD i SrcX.zero).e ye) hci rfl (by decide) (aP _ rfl ll rfl (fun b7 => aB rfl rfl (aO dY N0 rfl rfl rfl rfl rfl (Nat.le_of_ble_eq_true rfl) rfl (triL_nilN (tri_slo [(6,_),(7,_),(1,_),(3,_),(80,_),(81,_),(82,_)] rfl (aa (ah rfl rfl (ah rfl rfl ?_)))))))))))
     refine' aA [_,_,_] [(6,_),(7,_),(1,_),(3,_),(80,_),(81,_),(82,_)] (dj := 88) (dr := 91) rfl rfl (fun g11 => ?_) ⟨_,rfl,rfl,rfl,(.cons rfl (.cons rfl (.cons rfl (.cons rfl (.cons rfl (.cons rfl (.cons rfl (.nil _))))))))⟩ rfl ?_
     rotate_left
     · skip
       exact aj gO rfl rfl (ak bd N0 rfl rfl rfl (av (first := []) (cap := []) rfl rfl rfl Tryz.call30 (fun w1 h1 => dZ (q.from_.getD i SrcX.zero).t w1 (hbd.from_ i hil).2.1) (ae (Piece.mk rfl rfl (.cons rfl (.cons rfl (.cons rfl (.cons rfl (.cons rfl (.cons rfl (.cons rfl (.nil _)))))))) (fun _ h => h)))))
     refine ah rfl rfl ?_
     refine' aA [_,_,_,_,_,_,_,_] [(6,_),(7,_),(1,_),(3,_),(80,_),(81,_),(82,_)] (dj := 93) (dr := 101) rfl rfl (fun g12 => ?_) ⟨_,rfl,rfl,rfl,(.cons rfl (.cons rfl (.cons rfl (.cons rfl (.cons rfl (.cons rfl (.cons rfl (.nil _))))))))⟩ rfl ?_
     rotate_left
     · skip
       refine aj fY rfl rfl (ak bd N0 rfl rfl rfl (bE rfl rfl rfl (ah rfl rfl ?_)))
       refine' aQ [_,_,_] [(93,_),(6,_),(7,_),(1,_),(3,_),(80,_),(81,_),(82,_)] (dj := 97) (dr := 100) rfl rfl (fun g13 => ?_) ⟨_,rfl,rfl,rfl,(.cons rfl (.cons rfl (.cons rfl (.cons rfl (.cons rfl (.cons rfl (.cons rfl (.cons rfl (.nil _)))))))))⟩ rfl ?_
       rotate_left
       · skip
         exact aj fY rfl rfl (ak bd N0 rfl rfl rfl (av (first := []) (cap := []) rfl rfl rfl Tryz.call30 (fun w1 h1 => dZ (q.from_.getD i SrcX.zero).s w1 (hbd.from_ i hil).2.2) (ae (Piece.mk rfl rfl (.cons rfl (.cons rfl (.cons rfl (.cons rfl (.cons rfl (.cons rfl (.cons rfl (.cons rfl (.nil _))))))))) (fun _ h => h)))))
       exact ae (Piece.mk rfl rfl (.cons rfl (.cons rfl (.cons rfl (.cons rfl (.cons rfl (.cons rfl (.cons rfl (.nil _)))))))) (fun _ h => h))
     refine ah rfl rfl ?_
     refine' aA [_,_,_,_,_,_,_,_,_,_,_,_,_,_,_,_] [(1,_),(3,_),(80,_),(81,_),(82,_)] (dj := 103) (dr := 119) rfl rfl (fun g14 => ?_) ⟨_,rfl,rfl,rfl,(.cons rfl (.cons rfl (.cons rfl (.cons rfl (.cons rfl (.nil _))))))⟩ rfl ?_
     rotate_left
     · skip
       refine ah rfl rfl (ax rfl rfl rfl (ah rfl rfl ?_))
       refine' aA [_,_,_] [(103,_),(6,_),(7,_),(1,_),(3,_),(80,_),(81,_),(82,_)] (dj := 106) (dr := 109) rfl rfl (fun g15 => ?_) ⟨_,rfl,rfl,rfl,(.cons rfl (.cons rfl (.cons rfl (.cons rfl (.cons rfl (.cons rfl (.cons rfl (.cons rfl (.nil _)))))))))⟩ rfl ?_
       rotate_left
       · skip
         exact aj iU rfl rfl (aC aW aV .z rfl rfl (vs := bA (q.from_.getD i SrcX.zero).e ye) rfl rfl (av (first := []) (cap := []) rfl rfl rfl Tryz.call72 (fun w1 h1 => oL (q.from_.getD i SrcX.zero).e ye w1) (ae (Piece.mk rfl rfl (.cons rfl (.cons rfl (.cons rfl (.cons rfl (.cons rfl (.cons rfl (.cons rfl (.cons rfl (.nil _))))))))) (fun _ h => h)))))
       refine ah rfl rfl ?_
       refine' aQ [_,_,_,_,_,_,_] [(103,_),(1,_),(3,_),(80,_),(81,_),(82,_)] (dj := 111) (dr := 118) rfl rfl (fun g16 => ?_) ⟨_,rfl,rfl,rfl,(.cons rfl (.cons rfl (.cons rfl (.cons rfl (.cons rfl (.cons rfl (.nil _)))))))⟩ rfl ?_
       rotate_left
       · skip
         refine ah rfl rfl (cR rfl rfl rfl (ah rfl rfl ?_))
         refine' aA [_,_,_] [(111,_),(103,_),(1,_),(3,_),(80,_),(81,_),(82,_)] (dj := 114) (dr := 117) rfl rfl (fun g17 => ?_) ⟨_,rfl,rfl,rfl,(.cons rfl (.cons rfl (.cons rfl (.cons rfl (.cons rfl (.cons rfl (.cons rfl (.nil _))))))))⟩ rfl ?_
         rotate_left
         · skip
           exact aj iU rfl rfl (aC aW aV .z rfl rfl (vs := bA (q.from_.getD i SrcX.zero).e ye) rfl rfl (av (first := []) (cap := []) rfl rfl rfl Tryz.call32 (fun w1 h1 => nS (q.from_.getD i SrcX.zero).e bl ye w1 (hye.stab (fun k hk => h1.chg.block k (hbl k hk) (by simp))) (hok.from_ i hil) (hbd.from_ i hil).1) (ae (Piece.mk rfl rfl (.cons rfl (.cons rfl (.cons rfl (.cons rfl (.cons rfl (.cons rfl (.cons rfl (.nil _)))))))) (fun _ h => h)))))
         exact ae (Piece.mk rfl rfl (.cons rfl (.cons rfl (.cons rfl (.cons rfl (.cons rfl (.cons rfl (.nil _))))))) (fun _ h => h))
       exact ae (Piece.mk rfl rfl (.cons rfl (.cons rfl (.cons rfl (.cons rfl (.cons rfl (.nil _)))))) (fun _ h => h))
     exact aB rfl rfl (ae (ao (ag (aa (bn rfl rfl rfl (by omega) (ah rfl rfl (triL_nilN (⟨i + 1,(.cons rfl (.cons (congrArg (fun b => some (Value.bool b)) (by exact tz ((mqA q && mqB q) && bO (fun i => ij (q.items.getD i ItemX.zero)) q.items.length) (fun i => q.from_.getD i SrcX.zero) i)) (.cons rfl (.cons rfl (.cons rfl (.nil _)))))),(fun w2 hw2 => hw2.tail),by omega,by omega⟩))))))))
   · skip
     have hie : i = q.from_.length := by omega
     rw [hie]
     refine aS (au (au (aG (ag (ab (ab (tri_slo [(1,_),(3,_)] rfl (aa (aj dl rfl rfl (ak eP N0 rfl rfl rfl (aN Tryz.underlying33 rfl rfl (ah rfl rfl (triL_nilN (aw (bf (ι := Nat) (F := fun i => [(3,.bool ((((mqA q && mqB q) && bO (fun i => ij (q.items.getD i ItemX.zero)) q.items.length) && bO (fun i => iY i (q.from_.getD i SrcX.zero)) q.from_.length) && bO (fun i => nameOk (q.ord.getD i OrdX.zero).n) i)),(123,.slice y.O.A q.ord.length y.O.k),(124,.int .i64 (q.ord.length : Int)),(125,.int .i64 (i : Int))]) (HH := fun i => [box b1 35 (cI q y)]) (Pu := fun i => i ≤ q.ord.length) (μ := fun i => q.ord.length - i) (0) (.cons (congrArg (fun b => some (Value.bool b)) (by simp [bO])) (.cons rfl (.cons rfl (.cons rfl (.nil _))))) (fun _ h => h) (Nat.zero_le _) (fun i hi => ab (aa (bK rfl rfl rfl (triL_nilN (ab (ar rfl (fun q3 => ?_) (fun q3 => ?_))))))))))))))))))))))
     · skip
       have hil : i < q.ord.length := by omega
       refine am (ag (ab (aw (ab ?_))))
       have hci := ld hO i hil
       refine aa (aL Tryz.underlying33 hZ rfl rfl rfl (hO.rd0 _ _ rfl rfl) (by omega) (by omega) hO.len (by decide) (bo oH hZ rfl rfl (hO.rd0 _ _ rfl rfl) (vs := [Value.string (B (q.ord.getD i OrdX.zero).n),Value.bool (q.ord.getD i OrdX.zero).b]) hci rfl (by decide) (aP _ rfl sD rfl (fun b9 => aO hZ N0 rfl rfl rfl rfl rfl (Nat.le_of_ble_eq_true rfl) rfl (triL_nilN (aa (ah rfl rfl (ah rfl rfl ?_))))))))
       refine' aA [_,_,_] [(3,_),(123,_),(124,_),(125,_)] (dj := 130) (dr := 133) rfl rfl (fun g18 => ?_) ⟨_,rfl,rfl,rfl,(.cons rfl (.cons rfl (.cons rfl (.cons rfl (.nil _)))))⟩ rfl ?_
       rotate_left
       · skip
         exact aj lP rfl rfl (ak bd N0 rfl rfl rfl (av (first := []) (cap := []) rfl rfl rfl Tryz.call30 (fun w1 h1 => dZ (q.ord.getD i OrdX.zero).n w1 (hbd.ord i hil)) (ae (Piece.mk rfl rfl (.cons rfl (.cons rfl (.cons rfl (.cons rfl (.nil _))))) (fun _ h => h)))))
       exact aB rfl rfl (ae (ao (ag (aa (bn rfl rfl rfl (by omega) (ah rfl rfl (triL_nilN (⟨i + 1,(.cons (congrArg (fun b => some (Value.bool b)) (by exact le (((mqA q && mqB q) && bO (fun i => ij (q.items.getD i ItemX.zero)) q.items.length) && bO (fun i => iY i (q.from_.getD i SrcX.zero)) q.from_.length) (fun i => (q.ord.getD i OrdX.zero).n) i)) (.cons rfl (.cons rfl (.cons rfl (.nil _))))),(fun w2 hw2 => hw2.tail),by omega,by omega⟩))))))))
     · skip
       have hie : i = q.ord.length := by omega
       rw [hie]
       refine aS (au (au (aG (ag (ab (tri_slo [(3,_)] rfl (aa (ah rfl rfl (o_assignN rfl rfl (ap (aT rfl rfl ?_))))))))))); exact fun w1 hw1 => ⟨congrArg (fun b => Ending.returned (.bool b)) (by exact jA q),hw1.chg⟩
end Go.Proofs.YtjbpkcbefmpfgaaGreatDoor
namespace Go.Proofs.YtjbpkcbefmpfgaaGreatDoor
open Go.WK Go.RowKit 
theorem oO : (Tryz.prog.info? 35).map (·.zero) = some (some (.agg #[.bool false,.bool false,.slice none 0 0,.slice none 0 0,.int .i64 0,.int .i64 0,.int .i64 0,.string .empty,.string .empty,.string .empty,.int .i64 0,.slice none 0 0,.slice none 0 0,.bool false,.int .i64 0])) := by kernel_rfl
theorem dL : bH Tryz.prog 37 2 = some 2 := by kernel_rfl
theorem il : bH Tryz.prog 37 5 = some 5 := by kernel_rfl
theorem sz22 : szB Tryz.prog 22 = some 1 := by kernel_rfl
theorem sz23 : szB Tryz.prog 23 = some 1 := by kernel_rfl
theorem sz24 : szB Tryz.prog 24 = some 1 := by kernel_rfl
theorem sz25 : szB Tryz.prog 25 = some 1 := by kernel_rfl
theorem agg82 : cG Tryz.prog 82 = some true := by kernel_rfl
theorem nV (x0 : Int) : Tryz.prog.built 37 [(0,.int .i64 x0)] = some ([.int .i64 x0,.string .empty,.string .empty,.slice none 0 0,.slice none 0 0,.bool false,.slice none 0 0,.slice none 0 0,.int .i64 0,.int .i64 0,.int .i64 0,.string .empty,.string .empty,.string .empty,.int .i64 0,.slice none 0 0,.bool false,.bool false,.slice none 0 0,.slice none 0 0,.int .i64 0,.int .i64 0,.int .i64 0,.string .empty,.string .empty,.string .empty,.int .i64 0,.slice none 0 0,.slice none 0 0,.bool false,.int .i64 0] : List Value).toArray := by kernel_rfl
theorem zero82 : (Tryz.prog.info? 82).map (·.zero) = some (some (.agg #[.string .empty,.int .i64 0,.int .i64 0,.int .i64 0,.string .empty,.string .empty,.string .empty,.int .i64 0,.slice none 0 0])) := by kernel_rfl
set_option maxRecDepth 100000 in
set_option maxHeartbeats 1000000 in
theorem restK (s t : StmtX) (y z : Lay) (w : World)  : Calls Tryz.prog 35 #[.agg (bk s y).toArray,.agg (bk t z).toArray] w (bX w (.bool (restB s t))) := by
 refine ay (args := [.agg (bk s y).toArray,.agg (bk t z).toArray]) (lent := []) (H := []) Tryz.func35 rfl Tryz.ntmps35 rfl (Sat.start _ _ _ _) ((show Tri _ [(0,_),(1,_)] _ _ _ from ab (aa (bY _ rfl rfl rfl (fun b2 => bY _ rfl rfl rfl (fun b3 => o_assignN rfl rfl (ab (Tri.mono (Q := fun e fs' H' => e = .normal ∧ ∃ b5 b6 : Nat,Sub fs' [(2,.pointer (some ⟨b2,0,none⟩)),(3,.pointer (some ⟨b3,0,none⟩)),(5,.pointer (some ⟨b5,0,none⟩)),(6,.pointer (some ⟨b6,0,none⟩))] ∧ ∀ w2,Sat ⟨Tryz.prog,161,[],w,[]⟩ H' w2 → Sat ⟨Tryz.prog,161,[],w,[]⟩ [box b5 35 (cI s.q y.q),box b6 35 (cI t.q z.q),box b3 37 (bk t z),box b2 37 (bk s y)] w2) ?_ (fun e fs1 H1 hq => ?_)))))))))
 · skip
   refine tri_mixT [box b3 37 (bk t z),box b2 37 (bk s y)] (.fix 0 (.fix 1 (.fix 2 (.fix 3 (.two 4 5 (.op 5 (.op 6 (.op 7 .nil))) (.op 4 (.op 6 (.op 7 .nil)))))))) (by kernel_rfl) (by kernel_rfl) (fun _ h => h) (kG rfl (aj fv rfl rfl (ae ⟨rfl,(kG rfl (aC jS jL (.s .z) rfl rfl (vs := cI s.q y.q) rfl rfl (ae ⟨rfl,(kG rfl (aj fv rfl rfl (ae ⟨rfl,(kG rfl (aC jS jL .z rfl rfl (vs := cI t.q z.q) rfl rfl (ae ⟨rfl,(mixT_two rfl rfl ?_ ?_)⟩)))⟩)))⟩)))⟩)))
   · skip
     exact aP _ rfl oO rfl (fun b5 => ae ⟨rfl,fun _ h => Sat.dropS 1 h,(jB rfl (aP _ rfl oO rfl (fun b6 => ae ⟨rfl,fun _ h => Sat.dropS 2 h,(jB rfl (aO jL (.s .z) rfl rfl rfl rfl rfl (Nat.le_of_ble_eq_true rfl) rfl (ae ⟨rfl,fun _ h => Sat.dropS 2 h,(jB rfl (aO jL .z rfl rfl rfl rfl rfl (Nat.le_of_ble_eq_true rfl) rfl (ae ⟨rfl,fun _ h => Sat.dropS 2 h,(pB ⟨rfl,b5,b6,(.cons rfl (.cons rfl (.cons rfl (.cons rfl (.nil _))))),fun w2 hw2 => hw2.sel [1,0,2,3] (by decide)⟩)⟩)))⟩)))⟩)))⟩)
   · skip
     exact aP _ rfl oO rfl (fun b6 => ae ⟨rfl,fun _ h => Sat.dropS 1 h,(jB rfl (aP _ rfl oO rfl (fun b5 => ae ⟨rfl,fun _ h => Sat.dropS 2 h,(jB rfl (aO jL .z rfl rfl rfl rfl rfl (Nat.le_of_ble_eq_true rfl) rfl (ae ⟨rfl,fun _ h => Sat.dropS 2 h,(jB rfl (aO jL (.s .z) rfl rfl rfl rfl rfl (Nat.le_of_ble_eq_true rfl) rfl (ae ⟨rfl,fun _ h => Sat.dropS 2 h,(pB ⟨rfl,b5,b6,(.cons rfl (.cons rfl (.cons rfl (.cons rfl (.nil _))))),fun w2 hw2 => hw2.sel [0,1,2,3] (by decide)⟩)⟩)))⟩)))⟩)))⟩)
 obtain ⟨rfl,b5,b6,hsub,hheap⟩ := hq
 refine ag (ab (Tri.sub hsub (Tri.heap hheap (aa (aj cl rfl rfl (ak bd N3 rfl rfl rfl (aj cl rfl rfl (ak bd N2 rfl rfl rfl (bE rfl rfl rfl (ah rfl rfl ?_))))))))))
 refine' aA [_,_,_,_,_] [(2,_),(3,_),(5,_),(6,_)] (dj := 16) (dr := 21) rfl rfl (fun g1 => ?_) ⟨_,rfl,rfl,rfl,(.cons rfl (.cons rfl (.cons rfl (.cons rfl (.nil _)))))⟩ rfl ?_
 rotate_left
 · skip
   exact aj dL rfl rfl (ak bd N3 rfl rfl rfl (aj dL rfl rfl (ak bd N2 rfl rfl rfl (bE rfl rfl rfl (ae (Piece.mk rfl rfl (.cons rfl (.cons rfl (.cons rfl (.cons rfl (.nil _))))) (fun _ h => h)))))))
 refine ah rfl rfl ?_
 refine' aA [_,_,_,_,_,_,_] [(2,_),(3,_),(5,_),(6,_)] (dj := 23) (dr := 30) rfl rfl (fun g2 => ?_) ⟨_,rfl,rfl,rfl,(.cons rfl (.cons rfl (.cons rfl (.cons rfl (.nil _)))))⟩ rfl ?_
 rotate_left
 · skip
   exact aj db rfl rfl (ak eQ N3 rfl rfl rfl (aN Tryz.underlying22 rfl rfl (aj db rfl rfl (ak eQ N2 rfl rfl rfl (aN Tryz.underlying22 rfl rfl (ax rfl rfl rfl (ae (Piece.mk rfl rfl (.cons rfl (.cons rfl (.cons rfl (.cons rfl (.nil _))))) (fun _ h => h)))))))))
 refine ah rfl rfl ?_
 refine' aA [_,_,_,_,_,_,_] [(2,_),(3,_),(5,_),(6,_)] (dj := 32) (dr := 39) rfl rfl (fun g3 => ?_) ⟨_,rfl,rfl,rfl,(.cons rfl (.cons rfl (.cons rfl (.cons rfl (.nil _)))))⟩ rfl ?_
 rotate_left
 · skip
   exact aj dF rfl rfl (ak fP N3 rfl rfl rfl (aN Tryz.underlying23 rfl rfl (aj dF rfl rfl (ak fP N2 rfl rfl rfl (aN Tryz.underlying23 rfl rfl (ax rfl rfl rfl (ae (Piece.mk rfl rfl (.cons rfl (.cons rfl (.cons rfl (.cons rfl (.nil _))))) (fun _ h => h)))))))))
 refine ah rfl rfl ?_
 refine' aA [_,_,_,_,_] [(2,_),(3,_),(5,_),(6,_)] (dj := 41) (dr := 46) rfl rfl (fun g4 => ?_) ⟨_,rfl,rfl,rfl,(.cons rfl (.cons rfl (.cons rfl (.cons rfl (.nil _)))))⟩ rfl ?_
 rotate_left
 · skip
   exact aj il rfl rfl (ak eb N3 rfl rfl rfl (aj il rfl rfl (ak eb N2 rfl rfl rfl (lR rfl Tryz.underlying4 rfl rfl (ae (Piece.mk rfl rfl (.cons rfl (.cons rfl (.cons rfl (.cons rfl (.nil _))))) (fun _ h => h)))))))
 refine ah rfl rfl ?_
 refine' aA [_,_,_,_,_,_,_] [(2,_),(3,_),(5,_),(6,_)] (dj := 48) (dr := 55) rfl rfl (fun g5 => ?_) ⟨_,rfl,rfl,rfl,(.cons rfl (.cons rfl (.cons rfl (.cons rfl (.nil _)))))⟩ rfl ?_
 rotate_left
 · skip
   exact aj dc rfl rfl (ak eR N3 rfl rfl rfl (aN Tryz.underlying24 rfl rfl (aj dc rfl rfl (ak eR N2 rfl rfl rfl (aN Tryz.underlying24 rfl rfl (ax rfl rfl rfl (ae (Piece.mk rfl rfl (.cons rfl (.cons rfl (.cons rfl (.cons rfl (.nil _))))) (fun _ h => h)))))))))
 refine ah rfl rfl ?_
 refine' aA [_,_,_,_,_,_,_] [(2,_),(3,_),(5,_),(6,_)] (dj := 57) (dr := 64) rfl rfl (fun g6 => ?_) ⟨_,rfl,rfl,rfl,(.cons rfl (.cons rfl (.cons rfl (.cons rfl (.nil _)))))⟩ rfl ?_
 rotate_left
 · skip
   exact aj cC rfl rfl (ak dz N3 rfl rfl rfl (aN Tryz.underlying25 rfl rfl (aj cC rfl rfl (ak dz N2 rfl rfl rfl (aN Tryz.underlying25 rfl rfl (ax rfl rfl rfl (ae (Piece.mk rfl rfl (.cons rfl (.cons rfl (.cons rfl (.cons rfl (.nil _))))) (fun _ h => h)))))))))
 refine ah rfl rfl ?_
 refine' aA [_,_,_,_,_,_,_,_,_,_,_,_,_,_,_,_,_,_] [(5,_),(6,_)] (dj := 66) (dr := 84) rfl rfl (fun g7 => ?_) ⟨_,rfl,rfl,rfl,(.cons rfl (.cons rfl (.nil _)))⟩ rfl ?_
 rotate_left
 · skip
   refine aj dx rfl rfl (aj bT rfl rfl (ak bz N3 rfl rfl rfl (aj dx rfl rfl (aj bT rfl rfl (ak bz N2 rfl rfl rfl (ax rfl rfl rfl (ah rfl rfl ?_)))))))
   refine' aA [_,_,_,_,_,_,_,_,_] [(66,_),(5,_),(6,_)] (dj := 74) (dr := 83) rfl rfl (fun g8 => ?_) ⟨_,rfl,rfl,rfl,(.cons rfl (.cons rfl (.cons rfl (.nil _))))⟩ rfl ?_
   rotate_left
   · skip
     refine aj dx rfl rfl (aj bT rfl rfl (ak bz N2 rfl rfl rfl (cB rfl rfl rfl (ah rfl rfl ?_))))
     refine' aQ [_,_,_] [(74,_),(66,_),(5,_),(6,_)] (dj := 79) (dr := 82) rfl rfl (fun g9 => ?_) ⟨_,rfl,rfl,rfl,(.cons rfl (.cons rfl (.cons rfl (.cons rfl (.nil _)))))⟩ rfl ?_
     rotate_left
     · skip
       exact aj dx rfl rfl (aC aW aV (.s (.s (.s .z))) rfl rfl (vs := bA s.wh y.W) rfl rfl (av (first := []) (cap := []) rfl rfl rfl Tryz.call72 (fun w1 h1 => oL s.wh y.W w1) (ae (Piece.mk rfl rfl (.cons rfl (.cons rfl (.cons rfl (.cons rfl (.nil _))))) (fun _ h => h)))))
     exact ae (Piece.mk rfl rfl (.cons rfl (.cons rfl (.cons rfl (.nil _)))) (fun _ h => h))
   exact ae (Piece.mk rfl rfl (.cons rfl (.cons rfl (.nil _))) (fun _ h => h))
 refine ah rfl rfl ?_
 refine' aA [_,_,_,_,_] [(5,_),(6,_)] (dj := 86) (dr := 91) rfl rfl (fun g10 => ?_) ⟨_,rfl,rfl,rfl,(.cons rfl (.cons rfl (.nil _)))⟩ rfl ?_
 rotate_left
 · skip
   exact aj kh rfl rfl (ak eb N0 rfl rfl rfl (aj kh rfl rfl (ak eb N1 rfl rfl rfl (lR rfl Tryz.underlying4 rfl rfl (ae (Piece.mk rfl rfl (.cons rfl (.cons rfl (.nil _))) (fun _ h => h)))))))
 refine ah rfl rfl ?_
 refine' aA [_,_,_,_,_] [(5,_),(6,_)] (dj := 93) (dr := 98) rfl rfl (fun g11 => ?_) ⟨_,rfl,rfl,rfl,(.cons rfl (.cons rfl (.nil _)))⟩ rfl ?_
 rotate_left
 · skip
   exact aj iT rfl rfl (ak eb N0 rfl rfl rfl (aj iT rfl rfl (ak eb N1 rfl rfl rfl (lR rfl Tryz.underlying4 rfl rfl (ae (Piece.mk rfl rfl (.cons rfl (.cons rfl (.nil _))) (fun _ h => h)))))))
 refine ah rfl rfl ?_
 refine' aA [_,_,_,_,_,_,_] [(5,_),(6,_)] (dj := 100) (dr := 107) rfl rfl (fun g12 => ?_) ⟨_,rfl,rfl,rfl,(.cons rfl (.cons rfl (.nil _)))⟩ rfl ?_
 rotate_left
 · skip
   exact aj cA rfl rfl (ak dn N0 rfl rfl rfl (aN Tryz.underlying31 rfl rfl (aj cA rfl rfl (ak dn N1 rfl rfl rfl (aN Tryz.underlying31 rfl rfl (ax rfl rfl rfl (ae (Piece.mk rfl rfl (.cons rfl (.cons rfl (.nil _))) (fun _ h => h)))))))))
 refine ah rfl rfl ?_
 refine' aA [_,_,_,_,_,_,_] [(5,_),(6,_)] (dj := 109) (dr := 116) rfl rfl (fun g13 => ?_) ⟨_,rfl,rfl,rfl,(.cons rfl (.cons rfl (.nil _)))⟩ rfl ?_
 rotate_left
 · skip
   exact aj cp rfl rfl (ak cP N0 rfl rfl rfl (aN Tryz.underlying32 rfl rfl (aj cp rfl rfl (ak cP N1 rfl rfl rfl (aN Tryz.underlying32 rfl rfl (ax rfl rfl rfl (ae (Piece.mk rfl rfl (.cons rfl (.cons rfl (.nil _))) (fun _ h => h)))))))))
 refine ah rfl rfl ?_
 refine' aA [_,_,_,_,_,_,_,_,_,_,_,_,_,_,_,_,_,_] [(5,_),(6,_)] (dj := 118) (dr := 136) rfl rfl (fun g14 => ?_) ⟨_,rfl,rfl,rfl,(.cons rfl (.cons rfl (.nil _)))⟩ rfl ?_
 rotate_left
 · skip
   refine aj fZ rfl rfl (aj bT rfl rfl (ak bz N0 rfl rfl rfl (aj fZ rfl rfl (aj bT rfl rfl (ak bz N1 rfl rfl rfl (ax rfl rfl rfl (ah rfl rfl ?_)))))))
   refine' aA [_,_,_,_,_,_,_,_,_] [(118,_),(5,_),(6,_)] (dj := 126) (dr := 135) rfl rfl (fun g15 => ?_) ⟨_,rfl,rfl,rfl,(.cons rfl (.cons rfl (.cons rfl (.nil _))))⟩ rfl ?_
   rotate_left
   · skip
     refine aj fZ rfl rfl (aj bT rfl rfl (ak bz N1 rfl rfl rfl (cB rfl rfl rfl (ah rfl rfl ?_))))
     refine' aQ [_,_,_] [(126,_),(118,_),(5,_),(6,_)] (dj := 131) (dr := 134) rfl rfl (fun g16 => ?_) ⟨_,rfl,rfl,rfl,(.cons rfl (.cons rfl (.cons rfl (.cons rfl (.nil _)))))⟩ rfl ?_
     rotate_left
     · skip
       exact aj fZ rfl rfl (aC aW aV .z rfl rfl (vs := bA s.q.wh y.q.V) rfl rfl (av (first := []) (cap := []) rfl rfl rfl Tryz.call72 (fun w1 h1 => oL s.q.wh y.q.V w1) (ae (Piece.mk rfl rfl (.cons rfl (.cons rfl (.cons rfl (.cons rfl (.nil _))))) (fun _ h => h)))))
     exact ae (Piece.mk rfl rfl (.cons rfl (.cons rfl (.cons rfl (.nil _)))) (fun _ h => h))
   exact ae (Piece.mk rfl rfl (.cons rfl (.cons rfl (.nil _))) (fun _ h => h))
 refine ah rfl rfl ?_
 refine' aA [_,_,_,_,_,_,_] [(5,_),(6,_)] (dj := 138) (dr := 145) rfl rfl (fun g17 => ?_) ⟨_,rfl,rfl,rfl,(.cons rfl (.cons rfl (.nil _)))⟩ rfl ?_
 rotate_left
 · skip
   exact aj dl rfl rfl (ak eP N0 rfl rfl rfl (aN Tryz.underlying33 rfl rfl (aj dl rfl rfl (ak eP N1 rfl rfl rfl (aN Tryz.underlying33 rfl rfl (ax rfl rfl rfl (ae (Piece.mk rfl rfl (.cons rfl (.cons rfl (.nil _))) (fun _ h => h)))))))))
 refine ah rfl rfl ?_
 refine' aA [_,_,_,_,_] [(5,_),(6,_)] (dj := 147) (dr := 152) rfl rfl (fun g18 => ?_) ⟨_,rfl,rfl,rfl,(.cons rfl (.cons rfl (.nil _)))⟩ rfl ?_
 rotate_left
 · skip
   exact aj iV rfl rfl (ak eb N0 rfl rfl rfl (aj iV rfl rfl (ak eb N1 rfl rfl rfl (lR rfl Tryz.underlying4 rfl rfl (ae (Piece.mk rfl rfl (.cons rfl (.cons rfl (.nil _))) (fun _ h => h)))))))
 refine ah rfl rfl ?_
 refine' aA [_,_,_,_,_] [] (dj := 154) (dr := 159) rfl rfl (fun g19 => ?_) ⟨_,rfl,rfl,rfl,(.nil _)⟩ rfl ?_
 rotate_left
 · skip
   exact aj gM rfl rfl (ak bz N0 rfl rfl rfl (aj gM rfl rfl (ak bz N1 rfl rfl rfl (ax rfl rfl rfl (ae (Piece.mk rfl rfl (.nil _) (fun _ h => h)))))))
 refine o_assignN rfl rfl (ap (aT rfl rfl ?_)); exact fun w1 hw1 => ⟨congrArg (fun b => Ending.returned (.bool b)) (by rfl),hw1.chg⟩
set_option maxHeartbeats 2000000 in
theorem ru (s : StmtX) (y : Lay) (bl : List Nat) (w : World) (hA : SAt bl w s y) (hbl : ∀ k ∈ bl,k < w.heap.size) (hok : SOk s) (hbd : SBd s) : Calls Tryz.prog 10 #[.agg (bk s y).toArray] w (bX w (.bool (eh s))) := by
 refine ay (args := [.agg (bk s y).toArray]) (lent := []) (H := []) Tryz.func10 rfl Tryz.ntmps10 rfl (Sat.start _ _ _ _) ((show Tri _ [(0,_)] _ _ _ from ?_))
 obtain ⟨xC,xN,xR,xS,xI,xF,xO,hC,hN,hR_,hS,hW,hQ⟩ := id hA
 have n1 : s.cols.length ≤ 70368744177664 := hbd.nc
 have n2 : s.on.length ≤ 70368744177664 := hbd.nn
 have n3 : s.rows.length ≤ 70368744177664 := hbd.nr
 have n4 : s.sets.length ≤ 70368744177664 := hbd.ns
 refine ab (aa (bY _ rfl rfl rfl (fun b1 => o_assignN rfl rfl (ab (aa (aj dK rfl rfl (ak bz N0 rfl rfl rfl (aU (nV _) rfl rfl (aP _ rfl jn rfl (fun b3 => bg (us := [.int .i64 0,.string .empty,.string .empty,.slice none 0 0,.slice none 0 0,.bool false,.slice none 0 0,.slice none 0 0,.int .i64 0,.int .i64 0,.int .i64 0,.string .empty,.string .empty,.string .empty,.int .i64 0,.slice none 0 0,.bool false,.bool false,.slice none 0 0,.slice none 0 0,.int .i64 0,.int .i64 0,.int .i64 0,.string .empty,.string .empty,.string .empty,.int .i64 0,.slice none 0 0,.slice none 0 0,.bool false,.int .i64 0]) (cs := bk { StmtX.zero with k := s.k } Lay.nil) rfl rfl rfl eH .z rfl rfl rfl (triL_nilN (ab (tri_slo [(3,_),(1,_)] rfl (aa (o_assignN rfl rfl (br (ι := StmtX × Lay) (fun j => [(1,.pointer (some ⟨b1,0,none⟩)),(3,.pointer (some ⟨b3,0,none⟩)),(4,.bool (cL s))]) (fun j => [box b3 37 (bk j.1 j.2),box b1 37 (bk s y)]) (fun j => j.1 = eg s) ?_ (fun j hj => ?_)))))))))))))))))
 · skip
   refine ab (aa (aj dK rfl rfl (ak bz N1 rfl rfl rfl (triL_nilN (aw (ab (aa (ax rfl rfl rfl (o_assignN rfl rfl (ar rfl (fun q1 => ?_) (fun q1 => ?_)))))))))))
   · skip
     refine ab (tri_slo [(3,_),(1,_)] rfl (bj ([box b1 37 (bk s y)]) [(0,true),(1,true),(2,true),(3,true),(4,true),(5,false),(6,false),(7,false)] [6,7] (by kernel_rfl) (by kernel_rfl) (fun _ h => Sat.dropS 1 h) (ai rfl (aj cl rfl rfl (ae ⟨rfl,ai rfl (ak bd N0 rfl rfl rfl (ae ⟨rfl,ai rfl (aj db rfl rfl (ae ⟨rfl,ai rfl (ak eQ N0 rfl rfl rfl (ae ⟨rfl,ai rfl (aj cl rfl rfl (ae ⟨rfl,(aZ rfl (cf (bk { StmtX.zero with k := s.k,t := s.t } Lay.nil) sz9 .z rfl rfl rfl rfl rfl (Nat.le_of_ble_eq_true rfl) rfl rfl (ae ⟨rfl,fun _ _ h => Sat.dropS 1 h,(bu [6,7] [_,_] rfl rfl (aj db rfl rfl (cf (bk { StmtX.zero with k := s.k,t := s.t,cols := s.cols } { Lay.nil with C := y.C }) sz22 .z rfl rfl rfl rfl rfl (Nat.le_of_ble_eq_true rfl) rfl rfl (ae ⟨rfl,(ag (ab (tri_slo [(3,_),(1,_)] rfl (aa (aj cl rfl rfl (ak bd N1 rfl rfl rfl (av (first := []) (cap := []) rfl rfl rfl Tryz.call30 (fun w1 h1 => dZ s.t w1 hbd.t) (ah rfl rfl ?_))))))))⟩))))⟩)))⟩))⟩))⟩))⟩))⟩)))))
     refine' aA [_,_,_,_] [(3,_),(1,_)] (dj := 31) (dr := 35) rfl rfl (fun g1 => ?_) ⟨_,rfl,rfl,rfl,(.cons rfl (.cons rfl (.nil _)))⟩ rfl ?_
     rotate_left
     · skip
       exact aj db rfl rfl (ak eQ N1 rfl rfl rfl (aN Tryz.underlying22 rfl rfl (av (first := []) (cap := []) rfl rfl rfl Tryz.call31 (fun w1 h1 => pS s.cols.length 16 w1) (ae (Piece.mk rfl rfl (.cons rfl (.cons rfl (.nil _))) (fun _ h => h))))))
     refine o_assignN rfl rfl (ab (aa (aj db rfl rfl (ak eQ N1 rfl rfl rfl (aN Tryz.underlying22 rfl rfl (ah rfl rfl (triL_nilN (aw (bf (ι := Nat) (F := fun i => [(1,.pointer (some ⟨b1,0,none⟩)),(3,.pointer (some ⟨b3,0,none⟩)),(4,.bool ((nameOk s.t && ft s.cols.length 16) && bO (fun i => ew (s.cols.getD i ColX.zero)) i)),(38,.slice y.C.A s.cols.length y.C.k),(39,.int .i64 (s.cols.length : Int)),(40,.int .i64 (i : Int))]) (HH := fun i => [box b3 37 (bk { StmtX.zero with k := s.k,t := s.t,cols := s.cols } { Lay.nil with C := y.C }),box b1 37 (bk s y)]) (Pu := fun i => i ≤ s.cols.length) (μ := fun i => s.cols.length - i) (0) (.cons rfl (.cons rfl (.cons (congrArg (fun b => some (Value.bool b)) (by simp [bO])) (.cons rfl (.cons rfl (.cons rfl (.nil _))))))) (fun _ h => h) (Nat.zero_le _) (fun i hi => ab (aa (bK rfl rfl rfl (triL_nilN (ab (ar rfl (fun qa => ?_) (fun qa => ?_))))))))))))))))
     · skip
       have hil : i < s.cols.length := by omega
       refine am (ag (ab (aw (ab ?_))))
       have hci := lc hC i hil
       refine aa (aL Tryz.underlying22 jK rfl rfl rfl (hC.rd0 _ _ rfl rfl) (by omega) (by omega) hC.len (by decide) (bo agg71 jK rfl rfl (hC.rd0 _ _ rfl rfl) (vs := [Value.string (B (s.cols.getD i ColX.zero).n),Value.int .i64 (s.cols.getD i ColX.zero).k,Value.bool (s.cols.getD i ColX.zero).b]) hci rfl (by decide) (aP _ rfl zero71 rfl (fun b6 => aO jK N0 rfl rfl rfl rfl rfl (Nat.le_of_ble_eq_true rfl) rfl (triL_nilN (aa (ah rfl rfl (ah rfl rfl ?_))))))))
       refine' aA [_,_,_] [(6,_),(1,_),(3,_),(4,_),(38,_),(39,_),(40,_)] (dj := 45) (dr := 48) rfl rfl (fun g2 => ?_) ⟨_,rfl,rfl,rfl,(.cons rfl (.cons rfl (.cons rfl (.cons rfl (.cons rfl (.cons rfl (.cons rfl (.nil _))))))))⟩ rfl ?_
       rotate_left
       · skip
         exact aj oN rfl rfl (ak bd N0 rfl rfl rfl (av (first := []) (cap := []) rfl rfl rfl Tryz.call30 (fun w1 h1 => dZ (s.cols.getD i ColX.zero).n w1 (hbd.cols i hil)) (ae (Piece.mk rfl rfl (.cons rfl (.cons rfl (.cons rfl (.cons rfl (.cons rfl (.cons rfl (.cons rfl (.nil _)))))))) (fun _ h => h)))))
       refine ah rfl rfl ?_
       refine' aA [_,_,_] [(6,_),(1,_),(3,_),(4,_),(38,_),(39,_),(40,_)] (dj := 50) (dr := 53) rfl rfl (fun g3 => ?_) ⟨_,rfl,rfl,rfl,(.cons rfl (.cons rfl (.cons rfl (.cons rfl (.cons rfl (.cons rfl (.cons rfl (.nil _))))))))⟩ rfl ?_
       rotate_left
       · skip
         exact aj lq rfl rfl (ak bz N0 rfl rfl rfl (gd rfl rfl rfl (ae (Piece.mk rfl rfl (.cons rfl (.cons rfl (.cons rfl (.cons rfl (.cons rfl (.cons rfl (.cons rfl (.nil _)))))))) (fun _ h => h)))))
       refine ah rfl rfl ?_
       refine' aA [_,_,_] [(1,_),(3,_),(4,_),(38,_),(39,_),(40,_)] (dj := 55) (dr := 58) rfl rfl (fun g4 => ?_) ⟨_,rfl,rfl,rfl,(.cons rfl (.cons rfl (.cons rfl (.cons rfl (.cons rfl (.cons rfl (.nil _)))))))⟩ rfl ?_
       rotate_left
       · skip
         exact aj lq rfl rfl (ak bz N0 rfl rfl rfl (gc rfl rfl rfl (ae (Piece.mk rfl rfl (.cons rfl (.cons rfl (.cons rfl (.cons rfl (.cons rfl (.cons rfl (.nil _))))))) (fun _ h => h)))))
       exact aB rfl rfl (ae (ao (ag (aa (bn rfl rfl rfl (by omega) (ah rfl rfl (triL_nilN (⟨i + 1,(.cons rfl (.cons rfl (.cons (congrArg (fun b => some (Value.bool b)) (by exact col_step (nameOk s.t && ft s.cols.length 16) (fun i => s.cols.getD i ColX.zero) i)) (.cons rfl (.cons rfl (.cons rfl (.nil _))))))),(fun w2 hw2 => hw2.tail),by omega,by omega⟩))))))))
     · skip
       have hie : i = s.cols.length := by omega
       rw [hie]
       exact aS (au (au (aG (ao (ag (⟨({ StmtX.zero with k := s.k,t := s.t,cols := s.cols }, { Lay.nil with C := y.C }),(.cons rfl (.cons rfl (.cons (congrArg (fun b => some (Value.bool b)) (by rw [qT q1,Bool.and_assoc])) (.nil _)))),fun _ h => h,by rw [keep_1 q1]; simp only [q1]⟩))))))
   · skip
     refine ab (aa (ax rfl rfl rfl (o_assignN rfl rfl (ar rfl (fun q2 => ?_) (fun q2 => ?_)))))
     · skip
       exact ab (tri_slo [(3,_),(1,_)] rfl (aa (aj cl rfl rfl (ak bd N1 rfl rfl rfl (aj cl rfl rfl (cf (bk { StmtX.zero with k := s.k,t := s.t } Lay.nil) sz9 .z rfl rfl rfl rfl rfl (Nat.le_of_ble_eq_true rfl) rfl rfl (triL_nilN (aa (aj cl rfl rfl (ak bd N1 rfl rfl rfl (av (first := []) (cap := []) rfl rfl rfl Tryz.call30 (fun w1 h1 => dZ s.t w1 hbd.t) (aB rfl rfl (ae (ao (ag (⟨({ StmtX.zero with k := s.k,t := s.t },Lay.nil),(.cons rfl (.cons rfl (.cons (congrArg (fun b => some (Value.bool b)) (by exact (part_2 q2).symm)) (.nil _)))),fun _ h => h,by rw [keep_2 q2]; simp only [q2]⟩))))))))))))))))
     · skip
       refine ab (tri_slo [(19,_),(4,_),(3,_),(1,_)] rfl (aa (ax rfl rfl rfl (o_assignN rfl rfl (ar rfl (fun q3 => ?_) (fun q3 => ?_))))))
       · skip
         refine ab (tri_slo [(3,_),(1,_)] rfl (bj ([box b1 37 (bk s y)]) [(0,true),(1,true),(2,true),(3,true),(4,true),(5,true),(6,true),(7,true),(8,true),(9,false),(10,true),(11,false),(12,true),(13,false),(14,false),(15,false)] [14,15] (by kernel_rfl) (by kernel_rfl) (fun _ h => Sat.dropS 1 h) (ai rfl (aj cl rfl rfl (ae ⟨rfl,ai rfl (ak bd N0 rfl rfl rfl (ae ⟨rfl,ai rfl (aj dL rfl rfl (ae ⟨rfl,ai rfl (ak bd N0 rfl rfl rfl (ae ⟨rfl,ai rfl (aj dF rfl rfl (ae ⟨rfl,ai rfl (ak fP N0 rfl rfl rfl (ae ⟨rfl,ai rfl (aj il rfl rfl (ae ⟨rfl,ai rfl (ak eb N0 rfl rfl rfl (ae ⟨rfl,ai rfl (aj cl rfl rfl (ae ⟨rfl,(aZ rfl (cf (bk { StmtX.zero with k := s.k,t := s.t } Lay.nil) sz9 .z rfl rfl rfl rfl rfl (Nat.le_of_ble_eq_true rfl) rfl rfl (ae ⟨rfl,fun _ _ h => Sat.dropS 1 h,(ai rfl (aj dL rfl rfl (ae ⟨rfl,(aZ rfl (cf (bk { StmtX.zero with k := s.k,t := s.t,n := s.n } Lay.nil) sz9 .z rfl rfl rfl rfl rfl (Nat.le_of_ble_eq_true rfl) rfl rfl (ae ⟨rfl,fun _ _ h => Sat.dropS 1 h,(ai rfl (aj dF rfl rfl (ae ⟨rfl,(aZ rfl (cf (bk { StmtX.zero with k := s.k,t := s.t,n := s.n,on := s.on } { Lay.nil with N := y.N }) sz23 .z rfl rfl rfl rfl rfl (Nat.le_of_ble_eq_true rfl) rfl rfl (ae ⟨rfl,fun _ _ h => Sat.dropS 1 h,(bu [14,15] [_,_] rfl rfl (aj il rfl rfl (cf (bk { StmtX.zero with k := s.k,t := s.t,n := s.n,on := s.on,un := s.un } { Lay.nil with N := y.N }) sz4 .z rfl rfl rfl rfl rfl (Nat.le_of_ble_eq_true rfl) rfl rfl ?_)))⟩)))⟩)))⟩)))⟩)))⟩)))⟩))⟩))⟩))⟩))⟩))⟩))⟩))⟩))⟩))))); refine ae ⟨rfl,(ag (ab (tri_slo [(3,_),(1,_)] rfl (aa (aj cl rfl rfl (ak bd N1 rfl rfl rfl (av (first := []) (cap := []) rfl rfl rfl Tryz.call30 (fun w1 h1 => dZ s.t w1 hbd.t) (ah rfl rfl ?_))))))))⟩
         refine' aA [_,_,_] [(3,_),(1,_)] (dj := 86) (dr := 89) rfl rfl (fun g5 => ?_) ⟨_,rfl,rfl,rfl,(.cons rfl (.cons rfl (.nil _)))⟩ rfl ?_
         rotate_left
         · skip
           exact aj dL rfl rfl (ak bd N1 rfl rfl rfl (av (first := []) (cap := []) rfl rfl rfl Tryz.call30 (fun w1 h1 => dZ s.n w1 hbd.n) (ae (Piece.mk rfl rfl (.cons rfl (.cons rfl (.nil _))) (fun _ h => h)))))
         refine ah rfl rfl ?_
         refine' aA [_,_,_,_] [(3,_),(1,_)] (dj := 91) (dr := 95) rfl rfl (fun g6 => ?_) ⟨_,rfl,rfl,rfl,(.cons rfl (.cons rfl (.nil _)))⟩ rfl ?_
         rotate_left
         · skip
           exact aj dF rfl rfl (ak fP N1 rfl rfl rfl (aN Tryz.underlying23 rfl rfl (av (first := []) (cap := []) rfl rfl rfl Tryz.call31 (fun w1 h1 => pS s.on.length 16 w1) (ae (Piece.mk rfl rfl (.cons rfl (.cons rfl (.nil _))) (fun _ h => h))))))
         refine o_assignN rfl rfl (ab (aa (aj dF rfl rfl (ak fP N1 rfl rfl rfl (aN Tryz.underlying23 rfl rfl (ah rfl rfl (triL_nilN (aw (bf (ι := Nat) (F := fun i => [(1,.pointer (some ⟨b1,0,none⟩)),(3,.pointer (some ⟨b3,0,none⟩)),(4,.bool (((nameOk s.t && nameOk s.n) && ft s.on.length 16) && bO (fun i => nameOk (s.on.getD i [])) i)),(98,.slice y.N.A s.on.length y.N.k),(99,.int .i64 (s.on.length : Int)),(100,.int .i64 (i : Int))]) (HH := fun i => [box b3 37 (bk { StmtX.zero with k := s.k,t := s.t,n := s.n,on := s.on,un := s.un } { Lay.nil with N := y.N }),box b1 37 (bk s y)]) (Pu := fun i => i ≤ s.on.length) (μ := fun i => s.on.length - i) (0) (.cons rfl (.cons rfl (.cons (congrArg (fun b => some (Value.bool b)) (by simp [bO])) (.cons rfl (.cons rfl (.cons rfl (.nil _))))))) (fun _ h => h) (Nat.zero_le _) (fun i hi => ab (aa (bK rfl rfl rfl (triL_nilN (ab (ar rfl (fun qb => ?_) (fun qb => ?_))))))))))))))))
         · skip
           have hil : i < s.on.length := by omega
           refine am (ag (ab (aw (ab ?_))))
           have hci := jz hN i hil
           refine aa (aL Tryz.underlying23 sz9 rfl rfl rfl (hN.rd0 _ _ rfl rfl) (by omega) (by omega) hN.len (by decide) (aH bd rfl rfl (hN.rd0 _ _ rfl rfl) (aD hci (j := 0) rfl) (o_assignN rfl rfl (aa (ah rfl rfl (ah rfl rfl ?_))))))
           refine' aA [_,_] [(1,_),(3,_),(4,_),(98,_),(99,_),(100,_)] (dj := 105) (dr := 107) rfl rfl (fun g7 => ?_) ⟨_,rfl,rfl,rfl,(.cons rfl (.cons rfl (.cons rfl (.cons rfl (.cons rfl (.cons rfl (.nil _)))))))⟩ rfl ?_
           rotate_left
           · skip
             exact ah rfl rfl (av (first := []) (cap := []) rfl rfl rfl Tryz.call30 (fun w1 h1 => dZ (s.on.getD i []) w1 (hbd.on i hil)) (ae (Piece.mk rfl rfl (.cons rfl (.cons rfl (.cons rfl (.cons rfl (.cons rfl (.cons rfl (.nil _))))))) (fun _ h => h))))
           exact aB rfl rfl (ae (ao (ag (aa (bn rfl rfl rfl (by omega) (ah rfl rfl (triL_nilN (⟨i + 1,(.cons rfl (.cons rfl (.cons (congrArg (fun b => some (Value.bool b)) (by exact le ((nameOk s.t && nameOk s.n) && ft s.on.length 16) (fun i => s.on.getD i []) i)) (.cons rfl (.cons rfl (.cons rfl (.nil _))))))),(fun w2 hw2 => hw2),by omega,by omega⟩))))))))
         · skip
           have hie : i = s.on.length := by omega
           rw [hie]
           exact aS (au (au (aG (ao (ag (⟨({ StmtX.zero with k := s.k,t := s.t,n := s.n,on := s.on,un := s.un }, { Lay.nil with N := y.N }),(.cons rfl (.cons rfl (.cons (congrArg (fun b => some (Value.bool b)) (by rw [part_3 q3]; simp only [Bool.and_assoc])) (.nil _)))),fun _ h => h,by rw [keep_3 q3]; simp only [q3]⟩))))))
       · skip
         refine ab (aa (ax rfl rfl rfl (o_assignN rfl rfl (ar rfl (fun q4 => ?_) (fun q4 => ?_)))))
         · skip
           exact ab (tri_slo [(3,_),(1,_)] rfl (aa (aj dL rfl rfl (ak bd N1 rfl rfl rfl (aj dL rfl rfl (cf (bk { StmtX.zero with k := s.k,n := s.n } Lay.nil) sz9 .z rfl rfl rfl rfl rfl (Nat.le_of_ble_eq_true rfl) rfl rfl (triL_nilN (aa (aj dL rfl rfl (ak bd N1 rfl rfl rfl (av (first := []) (cap := []) rfl rfl rfl Tryz.call30 (fun w1 h1 => dZ s.n w1 hbd.n) (aB rfl rfl (ae (ao (ag (⟨({ StmtX.zero with k := s.k,n := s.n },Lay.nil),(.cons rfl (.cons rfl (.cons (congrArg (fun b => some (Value.bool b)) (by exact (part_4 q4).symm)) (.nil _)))),fun _ h => h,by rw [keep_4 q4]; simp only [q4]⟩))))))))))))))))
         · skip
           refine ab (tri_slo [(19,_),(4,_),(3,_),(1,_)] rfl (aa (ax rfl rfl rfl (o_assignN rfl rfl (ar rfl (fun q5 => ?_) (fun q5 => ?_))))))
           · skip
             refine ab (tri_slo [(3,_),(1,_)] rfl (bj ([box b1 37 (bk s y)]) [(0,true),(1,true),(2,true),(3,true),(4,true),(5,false),(6,false),(7,false)] [6,7] (by kernel_rfl) (by kernel_rfl) (fun _ h => Sat.dropS 1 h) (ai rfl (aj cl rfl rfl (ae ⟨rfl,ai rfl (ak bd N0 rfl rfl rfl (ae ⟨rfl,ai rfl (aj dc rfl rfl (ae ⟨rfl,ai rfl (ak eR N0 rfl rfl rfl (ae ⟨rfl,ai rfl (aj cl rfl rfl (ae ⟨rfl,(aZ rfl (cf (bk { StmtX.zero with k := s.k,t := s.t } Lay.nil) sz9 .z rfl rfl rfl rfl rfl (Nat.le_of_ble_eq_true rfl) rfl rfl (ae ⟨rfl,fun _ _ h => Sat.dropS 1 h,(bu [6,7] [_,_] rfl rfl (aj dc rfl rfl (cf (bk { StmtX.zero with k := s.k,t := s.t,rows := s.rows } { Lay.nil with R := y.R }) sz24 .z rfl rfl rfl rfl rfl (Nat.le_of_ble_eq_true rfl) rfl rfl (ae ⟨rfl,(ag (ab (tri_slo [(3,_),(1,_)] rfl (aa (aj cl rfl rfl (ak bd N1 rfl rfl rfl (av (first := []) (cap := []) rfl rfl rfl Tryz.call30 (fun w1 h1 => dZ s.t w1 hbd.t) (ah rfl rfl ?_))))))))⟩))))⟩)))⟩))⟩))⟩))⟩))⟩)))))
             refine' aA [_,_,_,_] [(3,_),(1,_)] (dj := 129) (dr := 133) rfl rfl (fun g8 => ?_) ⟨_,rfl,rfl,rfl,(.cons rfl (.cons rfl (.nil _)))⟩ rfl ?_
             rotate_left
             · skip
               exact aj dc rfl rfl (ak eR N1 rfl rfl rfl (aN Tryz.underlying24 rfl rfl (cR rfl rfl rfl (ae (Piece.mk rfl rfl (.cons rfl (.cons rfl (.nil _))) (fun _ h => h))))))
             refine o_assignN rfl rfl (ab (aa (aj dc rfl rfl (ak eR N1 rfl rfl rfl (aN Tryz.underlying24 rfl rfl (ah rfl rfl (triL_nilN (aw (bf (ι := Nat) (F := fun i => [(1,.pointer (some ⟨b1,0,none⟩)),(3,.pointer (some ⟨b3,0,none⟩)),(4,.bool ((nameOk s.t && decide (0 < (s.rows.length : Int))) && bO (fun i => cS (s.rows.getD i [])) i)),(136,.slice y.R.A s.rows.length y.R.k),(137,.int .i64 (s.rows.length : Int)),(138,.int .i64 (i : Int))]) (HH := fun i => [box b3 37 (bk { StmtX.zero with k := s.k,t := s.t,rows := s.rows } { Lay.nil with R := y.R }),box b1 37 (bk s y)]) (Pu := fun i => i ≤ s.rows.length) (μ := fun i => s.rows.length - i) (0) (.cons rfl (.cons rfl (.cons (congrArg (fun b => some (Value.bool b)) (by simp [bO])) (.cons rfl (.cons rfl (.cons rfl (.nil _))))))) (fun _ h => h) (Nat.zero_le _) (fun i hi => ab (aa (bK rfl rfl rfl (triL_nilN (ab (ar rfl (fun qc => ?_) (fun qc => ?_))))))))))))))))
             · skip
               have hil : i < s.rows.length := by omega
               have nr : (s.rows.getD i []).length ≤ 70368744177664 := (hbd.rows i hil).1
               refine am (ag (ab (aw (ab ?_))))
               obtain ⟨yr,xr,hcr,hRr⟩ := iO hR_ i hil
               refine aa (aL Tryz.underlying24 sz28 rfl rfl rfl (hR_.rd0 _ _ rfl rfl) (by omega) (by omega) hR_.len (by decide) (aH cM rfl rfl (hR_.rd0 _ _ rfl rfl) (aD hcr (j := 0) rfl) (o_assignN rfl rfl (ab (aa (ah rfl rfl (ah rfl rfl ?_)))))))
               refine' aA [_,_,_] [(10,_),(1,_),(3,_),(4,_),(136,_),(137,_),(138,_)] (dj := 143) (dr := 146) rfl rfl (fun g9 => ?_) ⟨_,rfl,rfl,rfl,(.cons rfl (.cons rfl (.cons rfl (.cons rfl (.cons rfl (.cons rfl (.cons rfl (.nil _))))))))⟩ rfl ?_
               rotate_left
               · skip
                 exact ah rfl rfl (aN Tryz.underlying28 rfl rfl (av (first := []) (cap := []) rfl rfl rfl Tryz.call31 (fun w1 h1 => pS (s.rows.getD i []).length 16 w1) (ae (Piece.mk rfl rfl (.cons rfl (.cons rfl (.cons rfl (.cons rfl (.cons rfl (.cons rfl (.cons rfl (.nil _)))))))) (fun _ h => h)))))
               refine o_assignN rfl rfl (ab (aa (ah rfl rfl (aN Tryz.underlying28 rfl rfl (ah rfl rfl (triL_nilN (aw (bf (ι := Nat) (F := fun k => [(1,.pointer (some ⟨b1,0,none⟩)),(3,.pointer (some ⟨b3,0,none⟩)),(4,.bool ((((nameOk s.t && decide (0 < (s.rows.length : Int))) && bO (fun i => cS (s.rows.getD i [])) i) && ft (s.rows.getD i []).length 16) && bO (fun k => ((s.rows.getD i []).getD k Ex.zero).may) k)),(136,.slice y.R.A s.rows.length y.R.k),(137,.int .i64 (s.rows.length : Int)),(138,.int .i64 (i : Int)),(148,.slice yr.A (s.rows.getD i []).length yr.k),(149,.int .i64 ((s.rows.getD i []).length : Int)),(150,.int .i64 (k : Int))]) (HH := fun k => [box b3 37 (bk { StmtX.zero with k := s.k,t := s.t,rows := s.rows } { Lay.nil with R := y.R }),box b1 37 (bk s y)]) (Pu := fun k => k ≤ (s.rows.getD i []).length) (μ := fun k => (s.rows.getD i []).length - k) (0) (.cons rfl (.cons rfl (.cons (congrArg (fun b => some (Value.bool b)) (by simp [bO])) (.cons rfl (.cons rfl (.cons rfl (.cons rfl (.cons rfl (.cons rfl (.nil _)))))))))) (fun _ h => h) (Nat.zero_le _) (fun k hk => ab (aa (bK rfl rfl rfl (triL_nilN (ab (ar rfl (fun qd => ?_) (fun qd => ?_)))))))))))))))
               · skip
                 have hkl : k < (s.rows.getD i []).length := by omega
                 refine am (ag (ab (aw (ab ?_))))
                 obtain ⟨ye,hci,hye⟩ := nJ hRr k hkl
                 refine aa (aL Tryz.underlying28 aV rfl rfl rfl (hRr.rd0 _ _ rfl rfl) (by omega) (by omega) hRr.len (by decide) (bo aW aV rfl rfl (hRr.rd0 _ _ rfl rfl) (vs := bA ((s.rows.getD i []).getD k Ex.zero) ye) hci rfl (by decide) (aP _ rfl c7 rfl (fun b12 => aO aV N0 rfl rfl rfl rfl rfl (Nat.le_of_ble_eq_true rfl) rfl (triL_nilN (aa (ah rfl rfl (ah rfl rfl ?_))))))))
                 refine' aA [_,_] [(1,_),(3,_),(4,_),(136,_),(137,_),(138,_),(148,_),(149,_),(150,_)] (dj := 155) (dr := 157) rfl rfl (fun g10 => ?_) ⟨_,rfl,rfl,rfl,(.cons rfl (.cons rfl (.cons rfl (.cons rfl (.cons rfl (.cons rfl (.cons rfl (.cons rfl (.cons rfl (.nil _))))))))))⟩ rfl ?_
                 rotate_left
                 · skip
                   exact aC aW aV .z rfl rfl (vs := bA ((s.rows.getD i []).getD k Ex.zero) ye) rfl rfl (av (first := []) (cap := []) rfl rfl rfl Tryz.call32 (fun w1 h1 => nS ((s.rows.getD i []).getD k Ex.zero) bl ye w1 (hye.stab (fun k hk => h1.chg.block k (hbl k hk) (by simp))) (hok.rows i hil k hkl) ((hbd.rows i hil).2 k hkl)) (ae (Piece.mk rfl rfl (.cons rfl (.cons rfl (.cons rfl (.cons rfl (.cons rfl (.cons rfl (.cons rfl (.cons rfl (.cons rfl (.nil _)))))))))) (fun _ h => h))))
                 exact aB rfl rfl (ae (ao (ag (aa (bn rfl rfl rfl (by omega) (ah rfl rfl (triL_nilN (⟨k + 1,(.cons rfl (.cons rfl (.cons (congrArg (fun b => some (Value.bool b)) (by exact ex_step (((nameOk s.t && decide (0 < (s.rows.length : Int))) && bO (fun i => cS (s.rows.getD i [])) i) && ft (s.rows.getD i []).length 16) (fun k => (s.rows.getD i []).getD k Ex.zero) k)) (.cons rfl (.cons rfl (.cons rfl (.cons rfl (.cons rfl (.cons rfl (.nil _)))))))))),(fun w2 hw2 => hw2.tail),by omega,by omega⟩))))))))
               · skip
                 have hke : k = (s.rows.getD i []).length := by omega
                 rw [hke]
                 exact aS (au (au (aG (ao (ag (tri_slo [(1,_),(3,_),(4,_),(136,_),(137,_),(138,_)] rfl (aa (bn rfl rfl rfl (by omega) (ah rfl rfl (triL_nilN (⟨i + 1,(.cons rfl (.cons rfl (.cons (congrArg (fun b => some (Value.bool b)) (by exact row_step (nameOk s.t && decide (0 < (s.rows.length : Int))) (fun i => s.rows.getD i []) i)) (.cons rfl (.cons rfl (.cons rfl (.nil _))))))),(fun w2 hw2 => hw2),by omega,by omega⟩)))))))))))
             · skip
               have hie : i = s.rows.length := by omega
               rw [hie]
               exact aS (au (au (aG (ao (ag (⟨({ StmtX.zero with k := s.k,t := s.t,rows := s.rows }, { Lay.nil with R := y.R }),(.cons rfl (.cons rfl (.cons (congrArg (fun b => some (Value.bool b)) (by rw [qU q5,Bool.and_assoc]; congr 2; exact decide_eq_decide.2 (by omega))) (.nil _)))),fun _ h => h,by rw [keep_5 q5]; simp only [q5]⟩))))))
           · skip
             refine ab (aa (ax rfl rfl rfl (o_assignN rfl rfl (ar rfl (fun q6 => ?_) (fun q6 => ?_)))))
             · skip
               refine ab (tri_slo [(3,_),(1,_)] rfl (bj ([box b1 37 (bk s y)]) [(0,true),(1,true),(2,true),(3,true),(4,true),(5,false),(6,false),(7,false)] [6,7] (by kernel_rfl) (by kernel_rfl) (fun _ h => Sat.dropS 1 h) (ai rfl (aj cl rfl rfl (ae ⟨rfl,ai rfl (ak bd N0 rfl rfl rfl (ae ⟨rfl,ai rfl (aj dx rfl rfl (ae ⟨rfl,ai rfl (aC aW aV .z rfl rfl (vs := bA s.wh y.W) rfl rfl (ae ⟨rfl,ai rfl (aj cl rfl rfl (ae ⟨rfl,(aZ rfl (cf (bk { StmtX.zero with k := s.k,t := s.t } Lay.nil) sz9 .z rfl rfl rfl rfl rfl (Nat.le_of_ble_eq_true rfl) rfl rfl (ae ⟨rfl,fun _ _ h => Sat.dropS 1 h,(bu [6,7] [_,_] rfl rfl (aj dx rfl rfl (cf (bk { StmtX.zero with k := s.k,t := s.t,wh := s.wh } { Lay.nil with W := y.W }) aV .z rfl rfl rfl rfl rfl (Nat.le_of_ble_eq_true rfl) rfl rfl (ae ⟨rfl,(ag (tri_slo [(3,_),(1,_)] rfl (aa (aj cl rfl rfl (ak bd N1 rfl rfl rfl (av (first := []) (cap := []) rfl rfl rfl Tryz.call30 (fun w1 h1 => dZ s.t w1 hbd.t) (ah rfl rfl ?_)))))))⟩))))⟩)))⟩))⟩))⟩))⟩))⟩)))))
               refine' aA [_,_,_] [(3,_),(1,_)] (dj := 172) (dr := 175) rfl rfl (fun g11 => ?_) ⟨_,rfl,rfl,rfl,(.cons rfl (.cons rfl (.nil _)))⟩ rfl ?_
               rotate_left
               · skip
                 exact aj dx rfl rfl (aC aW aV (.s .z) rfl rfl (vs := bA s.wh y.W) rfl rfl (av (first := []) (cap := []) rfl rfl rfl Tryz.call33 (fun w1 h1 => rr s.wh y.W bl w1 (hW.stab (fun k hk => h1.chg.block k (hbl k hk) (by simp))) hok.wh hbd.wh (fun k hk => Nat.lt_of_lt_of_le (hbl k hk) h1.chg.size)) (ae (Piece.mk rfl rfl (.cons rfl (.cons rfl (.nil _))) (fun _ h => h)))))
               exact aB rfl rfl (ae (ao (ag (⟨({ StmtX.zero with k := s.k,t := s.t,wh := s.wh }, { Lay.nil with W := y.W }),(.cons rfl (.cons rfl (.cons (congrArg (fun b => some (Value.bool b)) (by exact (oo q6).symm)) (.nil _)))),fun _ h => h,by rw [keep_6 q6]; simp only [q6]⟩))))
             · skip
               refine ab (tri_slo [(19,_),(4,_),(3,_),(1,_)] rfl (aa (ax rfl rfl rfl (o_assignN rfl rfl (ar rfl (fun q7 => ?_) (fun q7 => ?_))))))
               · skip
                 refine ab (tri_slo [(3,_),(1,_)] rfl (bj ([box b1 37 (bk s y)]) [(0,true),(1,true),(2,true),(3,true),(4,true),(5,true),(6,true),(7,false),(8,true),(9,false),(10,false),(11,false)] [10,11] (by kernel_rfl) (by kernel_rfl) (fun _ h => Sat.dropS 1 h) (ai rfl (aj cl rfl rfl (ae ⟨rfl,ai rfl (ak bd N0 rfl rfl rfl (ae ⟨rfl,ai rfl (aj cC rfl rfl (ae ⟨rfl,ai rfl (ak dz N0 rfl rfl rfl (ae ⟨rfl,ai rfl (aj dx rfl rfl (ae ⟨rfl,ai rfl (aC aW aV .z rfl rfl (vs := bA s.wh y.W) rfl rfl (ae ⟨rfl,ai rfl (aj cl rfl rfl (ae ⟨rfl,(aZ rfl (cf (bk { StmtX.zero with k := s.k,t := s.t } Lay.nil) sz9 .z rfl rfl rfl rfl rfl (Nat.le_of_ble_eq_true rfl) rfl rfl (ae ⟨rfl,fun _ _ h => Sat.dropS 1 h,(ai rfl (aj cC rfl rfl (ae ⟨rfl,(aZ rfl (cf (bk { StmtX.zero with k := s.k,t := s.t,sets := s.sets } { Lay.nil with S := y.S }) sz25 .z rfl rfl rfl rfl rfl (Nat.le_of_ble_eq_true rfl) rfl rfl (ae ⟨rfl,fun _ _ h => Sat.dropS 1 h,(bu [10,11] [_,_] rfl rfl (aj dx rfl rfl (cf (bk { StmtX.zero with k := s.k,t := s.t,sets := s.sets,wh := s.wh } { Lay.nil with S := y.S,W := y.W }) aV .z rfl rfl rfl rfl rfl (Nat.le_of_ble_eq_true rfl) rfl rfl (ae ⟨rfl,(ag (ab (tri_slo [(3,_),(1,_)] rfl (aa (aj cl rfl rfl (ak bd N1 rfl rfl rfl (av (first := []) (cap := []) rfl rfl rfl Tryz.call30 (fun w1 h1 => dZ s.t w1 hbd.t) (ah rfl rfl ?_))))))))⟩))))⟩)))⟩)))⟩)))⟩))⟩))⟩))⟩))⟩))⟩))⟩)))))
                 refine' aA [_,_,_,_] [(3,_),(1,_)] (dj := 191) (dr := 195) rfl rfl (fun g12 => ?_) ⟨_,rfl,rfl,rfl,(.cons rfl (.cons rfl (.nil _)))⟩ rfl ?_
                 rotate_left
                 · skip
                   exact aj cC rfl rfl (ak dz N1 rfl rfl rfl (aN Tryz.underlying25 rfl rfl (av (first := []) (cap := []) rfl rfl rfl Tryz.call31 (fun w1 h1 => pS s.sets.length 16 w1) (ae (Piece.mk rfl rfl (.cons rfl (.cons rfl (.nil _))) (fun _ h => h))))))
                 refine ah rfl rfl ?_
                 refine' aA [_,_,_] [(3,_),(1,_)] (dj := 197) (dr := 200) rfl rfl (fun g13 => ?_) ⟨_,rfl,rfl,rfl,(.cons rfl (.cons rfl (.nil _)))⟩ rfl ?_
                 rotate_left
                 · skip
                   exact aj dx rfl rfl (aC aW aV (.s .z) rfl rfl (vs := bA s.wh y.W) rfl rfl (av (first := []) (cap := []) rfl rfl rfl Tryz.call33 (fun w1 h1 => rr s.wh y.W bl w1 (hW.stab (fun k hk => h1.chg.block k (hbl k hk) (by simp))) hok.wh hbd.wh (fun k hk => Nat.lt_of_lt_of_le (hbl k hk) h1.chg.size)) (ae (Piece.mk rfl rfl (.cons rfl (.cons rfl (.nil _))) (fun _ h => h)))))
                 refine o_assignN rfl rfl (ab (aa (aj cC rfl rfl (ak dz N1 rfl rfl rfl (aN Tryz.underlying25 rfl rfl (ah rfl rfl (triL_nilN (aw (bf (ι := Nat) (F := fun i => [(1,.pointer (some ⟨b1,0,none⟩)),(3,.pointer (some ⟨b3,0,none⟩)),(4,.bool (((nameOk s.t && ft s.sets.length 16) && gR s.wh) && bO (fun i => fu (s.sets.getD i SetX.zero)) i)),(203,.slice y.S.A s.sets.length y.S.k),(204,.int .i64 (s.sets.length : Int)),(205,.int .i64 (i : Int))]) (HH := fun i => [box b3 37 (bk { StmtX.zero with k := s.k,t := s.t,sets := s.sets,wh := s.wh } { Lay.nil with S := y.S,W := y.W }),box b1 37 (bk s y)]) (Pu := fun i => i ≤ s.sets.length) (μ := fun i => s.sets.length - i) (0) (.cons rfl (.cons rfl (.cons (congrArg (fun b => some (Value.bool b)) (by simp [bO])) (.cons rfl (.cons rfl (.cons rfl (.nil _))))))) (fun _ h => h) (Nat.zero_le _) (fun i hi => ab (aa (bK rfl rfl rfl (triL_nilN (ab (ar rfl (fun qe => ?_) (fun qe => ?_))))))))))))))))
                 · skip
                   have hil : i < s.sets.length := by omega
                   refine am (ag (ab (aw (ab ?_))))
                   obtain ⟨ye,hci,hye⟩ := lb hS i hil
                   refine aa (aL Tryz.underlying25 kl rfl rfl rfl (hS.rd0 _ _ rfl rfl) (by omega) (by omega) hS.len (by decide) (bo agg82 kl rfl rfl (hS.rd0 _ _ rfl rfl) (vs := Value.string (B (s.sets.getD i SetX.zero).n) :: bA (s.sets.getD i SetX.zero).e ye) hci rfl (by decide) (aP _ rfl zero82 rfl (fun b14 => aO kl N0 rfl rfl rfl rfl rfl (Nat.le_of_ble_eq_true rfl) rfl (triL_nilN (aa (ah rfl rfl (ah rfl rfl ?_))))))))
                   refine' aA [_,_,_] [(14,_),(1,_),(3,_),(4,_),(203,_),(204,_),(205,_)] (dj := 210) (dr := 213) rfl rfl (fun g14 => ?_) ⟨_,rfl,rfl,rfl,(.cons rfl (.cons rfl (.cons rfl (.cons rfl (.cons rfl (.cons rfl (.cons rfl (.nil _))))))))⟩ rfl ?_
                   rotate_left
                   · skip
                     exact aj jo rfl rfl (ak bd N0 rfl rfl rfl (av (first := []) (cap := []) rfl rfl rfl Tryz.call30 (fun w1 h1 => dZ (s.sets.getD i SetX.zero).n w1 (hbd.sets i hil).2) (ae (Piece.mk rfl rfl (.cons rfl (.cons rfl (.cons rfl (.cons rfl (.cons rfl (.cons rfl (.cons rfl (.nil _)))))))) (fun _ h => h)))))
                   refine ah rfl rfl ?_
                   refine' aA [_,_,_] [(1,_),(3,_),(4,_),(203,_),(204,_),(205,_)] (dj := 215) (dr := 218) rfl rfl (fun g15 => ?_) ⟨_,rfl,rfl,rfl,(.cons rfl (.cons rfl (.cons rfl (.cons rfl (.cons rfl (.cons rfl (.nil _)))))))⟩ rfl ?_
                   rotate_left
                   · skip
                     exact aj lr rfl rfl (aC aW aV .z rfl rfl (vs := bA (s.sets.getD i SetX.zero).e ye) rfl rfl (av (first := []) (cap := []) rfl rfl rfl Tryz.call32 (fun w1 h1 => nS (s.sets.getD i SetX.zero).e bl ye w1 (hye.stab (fun k hk => h1.chg.block k (hbl k hk) (by simp))) (hok.sets i hil) (hbd.sets i hil).1) (ae (Piece.mk rfl rfl (.cons rfl (.cons rfl (.cons rfl (.cons rfl (.cons rfl (.cons rfl (.nil _))))))) (fun _ h => h)))))
                   exact aB rfl rfl (ae (ao (ag (aa (bn rfl rfl rfl (by omega) (ah rfl rfl (triL_nilN (⟨i + 1,(.cons rfl (.cons rfl (.cons (congrArg (fun b => some (Value.bool b)) (by exact pA ((nameOk s.t && ft s.sets.length 16) && gR s.wh) (fun i => s.sets.getD i SetX.zero) i)) (.cons rfl (.cons rfl (.cons rfl (.nil _))))))),(fun w2 hw2 => hw2.tail),by omega,by omega⟩))))))))
                 · skip
                   have hie : i = s.sets.length := by omega
                   rw [hie]
                   exact aS (au (au (aG (ao (ag (⟨({ StmtX.zero with k := s.k,t := s.t,sets := s.sets,wh := s.wh }, { Lay.nil with S := y.S,W := y.W }),(.cons rfl (.cons rfl (.cons (congrArg (fun b => some (Value.bool b)) (by rw [mJ q7]; simp only [Bool.and_assoc])) (.nil _)))),fun _ h => h,by rw [keep_7 q7]; simp only [q7]⟩))))))
               · skip
                 refine ab (aa (ax rfl rfl rfl (o_assignN rfl rfl (ar rfl (fun q8 => ?_) (fun q8 => ?_)))))
                 · skip
                   exact ab (tri_slo [(3,_),(1,_)] rfl (aa (aj fv rfl rfl (aC jS jL (.s .z) rfl rfl (vs := cI s.q y.q) rfl rfl (aj fv rfl rfl (cf (bk { StmtX.zero with k := s.k,q := s.q } { Lay.nil with q := y.q }) jL .z rfl rfl rfl rfl rfl (Nat.le_of_ble_eq_true rfl) rfl rfl (triL_nilN (aa (aj fv rfl rfl (aC jS jL (.s .z) rfl rfl (vs := cI s.q y.q) rfl rfl (av (first := []) (cap := []) rfl rfl rfl Tryz.call34 (fun w1 h1 => mayQK s.q y.q bl w1 (hA.q.stab (fun k hk => h1.chg.block k (hbl k hk) (by simp))) (fun k hk => Nat.lt_of_lt_of_le (hbl k hk) h1.chg.size) hok.q hbd.q) (aB rfl rfl (ae (ao (ag (⟨({ StmtX.zero with k := s.k,q := s.q }, { Lay.nil with q := y.q }),(.cons rfl (.cons rfl (.cons (congrArg (fun b => some (Value.bool b)) (by exact (oq q8).symm)) (.nil _)))),fun _ h => h,by rw [keep_8 q8]; simp only [q8]⟩))))))))))))))))
                 · skip
                   refine br (ι := Nat) (fun i => [(1,.pointer (some ⟨b1,0,none⟩)),(3,.pointer (some ⟨b3,0,none⟩)),(4,.bool false),(229,.bool (decide (9 ≤ s.k ∧ s.k ≤ 11)))]) (fun i => [box b3 37 (bk { StmtX.zero with k := s.k } Lay.nil),box b1 37 (bk s y)]) (fun i => True) ?_ (fun i hj => ?_)
                   · skip
                     refine ab (tri_slo [(19,_),(4,_),(3,_),(1,_)] rfl (aa (ax rfl rfl rfl (o_assignN rfl rfl (ar rfl (fun q9 => ?_) (fun q9 => ?_))))))
                     · skip
                       exact am (ag (⟨0,(.cons rfl (.cons rfl (.cons rfl (.cons (congrArg (fun b => some (Value.bool b)) (by rw [decide_eq_true q9,decide_eq_true (by omega)])) (.nil _))))),fun _ h => h,trivial⟩))
                     · skip
                       refine ab (aa (ax rfl rfl rfl (o_assignN rfl rfl (ar rfl (fun q10 => ?_) (fun q10 => ?_)))))
                       · skip
                         exact am (ag (⟨0,(.cons rfl (.cons rfl (.cons rfl (.cons (congrArg (fun b => some (Value.bool b)) (by rw [decide_eq_true q10,decide_eq_true (by omega)])) (.nil _))))),fun _ h => h,trivial⟩))
                       · skip
                         exact aa (ax rfl rfl rfl (o_assignN rfl rfl (⟨0,(.cons rfl (.cons rfl (.cons rfl (.cons (congrArg (fun b => some (Value.bool b)) (by exact decide_eq_decide.2 (by omega))) (.nil _))))),fun _ h => h,trivial⟩)))
                   refine aE rfl (fun qz => ?_) (fun qz => ?_)
                   · skip
                     exact aa (aB rfl rfl (ae (ao (ag (⟨({ StmtX.zero with k := s.k },Lay.nil),(.cons rfl (.cons rfl (.cons (congrArg (fun b => some (Value.bool b)) (by rw [mK (by omega)]; exact qz.symm)) (.nil _)))),fun _ h => h,by rw [qV (by omega)]⟩)))))
                   · skip
                     exact am (ao (ag (⟨({ StmtX.zero with k := s.k },Lay.nil),(.cons rfl (.cons rfl (.cons (congrArg (fun b => some (Value.bool b)) (by rw [mK (by omega)]; exact qz.symm)) (.nil _)))),fun _ h => h,by rw [qV (by omega)]⟩)))
 refine ab (aa (ah rfl rfl (ah rfl rfl ?_)))
 refine' aA [_,_,_] [] (dj := 234) (dr := 237) rfl rfl (fun g16 => ?_) ⟨_,rfl,rfl,rfl,(.nil _)⟩ rfl ?_
 rotate_left
 · skip
   exact aC ej eH (.s .z) rfl rfl (vs := bk s y) rfl rfl (aC ej eH .z rfl rfl (vs := bk j.1 j.2) rfl rfl (av (first := []) (cap := []) rfl rfl rfl Tryz.call35 (fun w1 h1 => restK s j.1 y j.2 w1) (ae (Piece.mk rfl rfl (.nil _) (fun _ h => h)))))
 refine o_assignN rfl rfl (ap (aT rfl rfl ?_)); exact fun w1 hw1 => ⟨congrArg (fun b => Ending.returned (.bool b)) (by rw [hj]; exact rest_may s),hw1.chg⟩
end Go.Proofs.YtjbpkcbefmpfgaaGreatDoor
namespace Go.Proofs.YtjbpkcbefmpfgaaGreatDoor
open Go.WK Go.RowKit 
theorem zero64 : (Tryz.prog.info? 64).map (·.zero) = some (some (.pointer none)) := by kernel_rfl
theorem sz64 : szB Tryz.prog 64 = some 1 := by kernel_rfl
set_option maxHeartbeats 2000000 in
theorem pT (s : StmtX) (y : Lay) (bl : List Nat) (w : World) (hV : PV w [] bl) (hA : SAt bl w s y) (hok : SOk s) (hbd : SBd s) (hT : eh s = true → (dk s).1.length ≤ 70368744177664) : Calls Tryz.prog 8 #[.agg (bk s y).toArray] w (bX w (.tuple #[.string (B (prS s).1),.int .i64 (prS s).2])) := by
 refine ay (args := [.agg (bk s y).toArray]) (lent := []) (H := []) Tryz.func8 rfl Tryz.ntmps8 rfl (Sat.start _ _ _ _) ((show Tri _ [(0,_)] _ _ _ from ?_))
 have hbl : ∀ k ∈ bl,k < w.heap.size := fun k hk => (hV.pe.lt k hk).1
 obtain ⟨xC,xN,xR,xS,xI,xF,xO,hC,hN,hR_,hS,hW,hQ⟩ := id hA
 have n1 : s.cols.length ≤ 70368744177664 := hbd.nc
 have n2 : s.on.length ≤ 70368744177664 := hbd.nn
 have n3 : s.rows.length ≤ 70368744177664 := hbd.nr
 unfold prS
 refine ab (aa (bY _ rfl rfl rfl (fun b1 => aB rfl rfl (o_assignN rfl rfl (ab (ab (aa (aC ej eH .z rfl rfl (vs := bk s y) rfl rfl (av (first := []) (cap := []) rfl rfl rfl Tryz.call10 (fun w1 h1 => ru s y bl w1 (hA.stab (fun k hk => h1.chg.block k (hbl k hk) (by simp))) (fun k hk => Nat.lt_of_lt_of_le (hbl k hk) h1.chg.size) hok hbd) (cu rfl rfl (triL_nilN (aE rfl (fun q0 => ?_) (fun q0 => ?_)))))))))))))
 · skip
   have q0 := ci q0
   refine ab (az [] (.nil _) (aa (aB rfl rfl (o_assignN rfl rfl (ap (an (dA rfl rfl rfl ?_))))))); exact fun w1 hw1 => ⟨by rw [if_neg (dP q0)],hw1.chg⟩
 · skip
   have q0 := bU q0
   refine am (ag (ab (tri_slo [(1,_)] rfl (aa (aU sH rfl rfl (bY _ rfl rfl rfl (fun b9 => aP _ rfl zero64 rfl (fun b4 => aO sz64 N0 rfl rfl rfl rfl rfl (Nat.le_of_ble_eq_true rfl) rfl ?_))))))))
   skip
   refine triL_nilN (br (ι := Option Addr × Nat) (fun j => [(4,.pointer (some ⟨b4,0,none⟩))]) (fun j => [box b4 64 [.pointer (some ⟨b9,0,none⟩)]] ++ prD b9 j.1 j.2 (dk s).1 0 (max 0 ((dk s).2 : Int))) (fun j => True) ?_ (fun j hj => ?_))
   · skip
     refine ab ?_
     have hb := hT q0
     have hmy : cL s = true := by unfold eh at q0; simp only [Bool.and_eq_true] at q0; exact q0.1
     refine Tri.heap (H' := [box b4 64 [.pointer (some ⟨b9,0,none⟩)],box b1 37 (bk s y)] ++ prD b9 none 0 [] 0 0) (fun w hw => (Sat.nilRow hw 5).sel [1,3,2,0] (by decide)) (aa (aj dK rfl rfl (ak bz N1 rfl rfl rfl (triL_nilN (aw (ab (aa (ax rfl rfl rfl (o_assignN rfl rfl (ar rfl (fun q1 => ?_) (fun q1 => ?_)))))))))))
     · skip
       rw [st_1 q1] at hb
       simp only [cat,raw,List.length_append,List.length_cons,List.length_nil] at hb
       rw [qT q1] at hmy
       simp only [Bool.and_eq_true] at hmy
       have hmc : ∀ i,i < s.cols.length → ew (s.cols.getD i ColX.zero) = true := fun i hi => dO hmy.2.2 hi
       exact ab (tri_slo [(4,_),(1,_)] rfl (aa (ak ck N0 rfl rfl rfl (aj cl rfl rfl (ak bd N1 rfl rfl rfl (ee (parts := [_,_,_]) (dm [[99,114,101,97,116,101,32,116,97,98,108,101,32],s.t,[32,40]]) Tryz.underlying23 zs9 rfl rfl rfl rfl (by decide) (by decide) (fun b20 => aK (pb := b9) [_,_,_] rfl rfl rfl rfl Tryz.call20 (fun w1 h1 h2 h3 => cV [[99,114,101,97,116,101,32,116,97,98,108,101,32],s.t,[32,40]] _ _ b9 _ _ _ _ _ w1 h2 (RdS.row .z w1 h1) (fun a ha => by cases ha; exact bv h1 (fun x hx => (List.mem_cons_of_mem _ (List.mem_cons_of_mem _ hx))) rfl) (by (try simp only [List.length_append,List.length_cons,List.length_nil,List.flatten_cons,List.flatten_nil] at hb ⊢); omega) (by simp)) (fun A21 c21 => triL_nilN (ab (tri_slo [(4,_),(1,_)] rfl (aa (ak ck N1 rfl rfl rfl (aj db rfl rfl (ak eQ N2 rfl rfl rfl (aN Tryz.underlying22 rfl rfl (co rfl rfl rfl (aK (pb := b9) [_,_,_] rfl rfl rfl rfl Tryz.call21 (fun w1 h1 h2 h3 => ia (fun i => ik (s.cols.getD i ColX.zero)) s.cols.length 22 [] [.pointer (some ⟨b1,0,none⟩),.pointer (some ⟨b4,0,none⟩)] b9 _ _ _ _ w1 h2 (by omega) (by omega) (by (try simp only [List.nil_append,List.length_append,List.length_cons,List.length_nil,List.flatten_cons,List.flatten_nil] at hb ⊢); omega) Tryz.call22 (fun i A1 c1 l1 m1 w2 hi hs hP1 hm1 hb1 => by have hce := cenv (F := [_,_,_]) hV.pe h1 (.s .z) (.s (.s .z)); have hPV : PV w1 _ _ := ⟨hce.1,(hV.lv.chgL h1.chg (fun k hk => (hV.pe.g k hk).2))⟩; have hA2 := (hA.stab (hV.pe.st (PSub.of h1 h3))).mono (bl' := b4 :: b1 :: bl) (fun k hk => List.mem_cons_of_mem _ (List.mem_cons_of_mem _ hk)); exact print1K s y (b4 :: b1 :: bl) b4 b1 i b9 A1 c1 l1 m1 w2 hP1 hm1 (hPV.sub hs) (hce.2.stab (hce.1.st hs)) (hA2.stab (hce.1.st hs)) hi (hmc i hi) hb1)) (fun A27 c27 => triL_nilN (tri_slo [(4,_)] rfl (aa (ak ck N1 rfl rfl rfl (bF Tryz.underlying23 zs9 rfl rfl rfl rfl rfl (by decide) (by decide) (fun b29 => aK (pb := b9) [_,_,_,_] rfl rfl rfl rfl Tryz.call20 (fun w1 h1 h2 h3 => cV [[41]] _ _ b9 _ _ _ _ _ w1 h2 (RdS.row .z w1 h1) (fun a ha => by cases ha; exact bv h1 (fun x hx => (List.mem_cons_of_mem _ (List.mem_cons_of_mem _ (List.mem_cons_of_mem _ hx)))) rfl) (by (try simp only [List.nil_append,List.length_append,List.length_cons,List.length_nil,List.flatten_cons,List.flatten_nil] at hb ⊢); omega) (by simp)) (fun A30 c30 => ae (ao (ag (⟨(A30,c30),(.cons rfl (.nil _)),(fun w2 hw2 => ez (by rw [st_1 q1]; simp [cat,raw]) rfl (by rw [st_1 q1]; simp only [cat,raw]; omega) (hw2.sel [2,4,5] (by decide))),trivial⟩)))))))))))))))))))))))))))
     · skip
       refine ab (tri_slo [(11,_),(4,_),(1,_)] rfl (aa (ax rfl rfl rfl (o_assignN rfl rfl (ar rfl (fun q2 => ?_) (fun q2 => ?_))))))
       · skip
         rw [st_2 q2] at hb
         simp only [raw,List.length_append,List.length_cons,List.length_nil] at hb
         exact aa (ak ck N0 rfl rfl rfl (aj cl rfl rfl (ak bd N1 rfl rfl rfl (ee (parts := [_,_]) (dm [[100,114,111,112,32,116,97,98,108,101,32],s.t]) Tryz.underlying23 zs9 rfl rfl rfl rfl (by decide) (by decide) (fun b36 => aK (pb := b9) [_,_,_] rfl rfl rfl rfl Tryz.call20 (fun w1 h1 h2 h3 => cV [[100,114,111,112,32,116,97,98,108,101,32],s.t] _ _ b9 _ _ _ _ _ w1 h2 (RdS.row .z w1 h1) (fun a ha => by cases ha; exact bv h1 (fun x hx => (List.mem_cons_of_mem _ (List.mem_cons_of_mem _ hx))) rfl) (by (try simp only [List.length_append,List.length_cons,List.length_nil,List.flatten_cons,List.flatten_nil] at hb ⊢); omega) (by simp)) (fun A37 c37 => ae (ao (ag (⟨(A37,c37),(.cons rfl (.nil _)),(fun w2 hw2 => ez (by rw [st_2 q2]; simp [raw]) rfl (by rw [st_2 q2]; simp only [raw]; omega) (hw2.sel [1,3,4] (by decide))),trivial⟩)))))))))
       · skip
         refine ab (aa (ax rfl rfl rfl (o_assignN rfl rfl (ar rfl (fun q3 => ?_) (fun q3 => ?_)))))
         · skip
           rw [st_3 q3] at hb
           simp only [cat,raw,List.length_append,List.length_cons,List.length_nil] at hb
           refine ab (tri_slo [(4,_),(1,_)] rfl (aa (ak ck N0 rfl rfl rfl (bF Tryz.underlying23 zs9 rfl rfl rfl rfl rfl (by decide) (by decide) (fun b41 => aK (pb := b9) [_,_,_] rfl rfl rfl rfl Tryz.call20 (fun w1 h1 h2 h3 => cV [[99,114,101,97,116,101,32]] _ _ b9 _ _ _ _ _ w1 h2 (RdS.row .z w1 h1) (fun a ha => by cases ha; exact bv h1 (fun x hx => (List.mem_cons_of_mem _ (List.mem_cons_of_mem _ hx))) rfl) (by (try simp only [List.length_append,List.length_cons,List.length_nil,List.flatten_cons,List.flatten_nil] at hb ⊢); omega) (by simp)) (fun A42 c42 => triL_nilN (ab (ab (aa (aj il rfl rfl (ak eb N2 rfl rfl rfl (triL_nilN (aE rfl (fun q4 => ?_) (fun q4 => ?_))))))))))))))
           · skip
             rw [q4] at hb
             simp only [if_true,List.length_cons,List.length_nil] at hb
             exact tri_slo [(4,_),(1,_)] rfl (aa (ak ck N1 rfl rfl rfl (bF Tryz.underlying23 zs9 rfl rfl rfl rfl rfl (by decide) (by decide) (fun b46 => aK (pb := b9) [_,_,_,_] rfl rfl rfl rfl Tryz.call20 (fun w1 h1 h2 h3 => cV [[117,110,105,113,117,101,32]] _ _ b9 _ _ _ _ _ w1 h2 (RdS.row .z w1 h1) (fun a ha => by cases ha; exact bv h1 (fun x hx => (List.mem_cons_of_mem _ (List.mem_cons_of_mem _ (List.mem_cons_of_mem _ hx)))) rfl) (by (try simp only [List.nil_append,List.length_append,List.length_cons,List.length_nil,List.flatten_cons,List.flatten_nil] at hb ⊢); omega) (by simp)) (fun A47 c47 => triL_nilN (ab (aa (ak ck N2 rfl rfl rfl (aj dL rfl rfl (ak bd N3 rfl rfl rfl (aj cl rfl rfl (ak bd N3 rfl rfl rfl (ee (parts := [_,_,_,_,_]) (dm [[105,110,100,101,120,32],s.n,[32,111,110,32],s.t,[32,40]]) Tryz.underlying23 zs9 rfl rfl rfl rfl (by decide) (by decide) (fun b53 => aK (pb := b9) [_,_,_,_,_] rfl rfl rfl rfl Tryz.call20 (fun w1 h1 h2 h3 => cV [[105,110,100,101,120,32],s.n,[32,111,110,32],s.t,[32,40]] _ _ b9 _ _ _ _ _ w1 h2 (RdS.row .z w1 h1) (fun a ha => by cases ha; exact bv h1 (fun x hx => (List.mem_cons_of_mem _ (List.mem_cons_of_mem _ (List.mem_cons_of_mem _ (List.mem_cons_of_mem _ hx))))) rfl) (by (try simp only [List.nil_append,List.length_append,List.length_cons,List.length_nil,List.flatten_cons,List.flatten_nil] at hb ⊢); omega) (by simp)) (fun A54 c54 => triL_nilN (ab (tri_slo [(4,_),(1,_)] rfl (aa (ak ck N3 rfl rfl rfl (aj dF rfl rfl (ak fP N4 rfl rfl rfl (aN Tryz.underlying23 rfl rfl (co rfl rfl rfl (aK (pb := b9) [_,_,_,_,_] rfl rfl rfl rfl Tryz.call21 (fun w1 h1 h2 h3 => ia (fun i => raw (s.on.getD i [])) s.on.length 23 [] [.pointer (some ⟨b4,0,none⟩),.pointer (some ⟨b1,0,none⟩)] b9 _ _ _ _ w1 h2 (by omega) (by omega) (by (try simp only [List.nil_append,raw,List.length_append,List.length_cons,List.length_nil,List.flatten_cons,List.flatten_nil] at hb ⊢); omega) Tryz.call23 (fun i A1 c1 l1 m1 w2 hi hs hP1 hm1 hb1 => by have hce := cenv (F := [_,_,_,_,_]) hV.pe h1 (.s (.s (.s .z))) (.s (.s (.s (.s .z)))); have hPV : PV w1 _ _ := ⟨hce.1,(hV.lv.chgL h1.chg (fun k hk => (hV.pe.g k hk).2))⟩; have hA2 := (hA.stab (hV.pe.st (PSub.of h1 h3))).mono (bl' := b4 :: b1 :: bl) (fun k hk => List.mem_cons_of_mem _ (List.mem_cons_of_mem _ hk)); exact sJ s y (b4 :: b1 :: bl) b4 b1 i b9 A1 c1 l1 m1 w2 hP1 hm1 (hPV.sub hs) (hce.2.stab (hce.1.st hs)) (hA2.stab (hce.1.st hs)) hi hb1)) (fun A60 c60 => triL_nilN (tri_slo [(4,_)] rfl (aa (ak ck N3 rfl rfl rfl (bF Tryz.underlying23 zs9 rfl rfl rfl rfl rfl (by decide) (by decide) (fun b62 => aK (pb := b9) [_,_,_,_,_,_] rfl rfl rfl rfl Tryz.call20 (fun w1 h1 h2 h3 => cV [[41]] _ _ b9 _ _ _ _ _ w1 h2 (RdS.row .z w1 h1) (fun a ha => by cases ha; exact bv h1 (fun x hx => (List.mem_cons_of_mem _ (List.mem_cons_of_mem _ (List.mem_cons_of_mem _ (List.mem_cons_of_mem _ (List.mem_cons_of_mem _ hx)))))) rfl) (by (try simp only [List.nil_append,raw,List.length_append,List.length_cons,List.length_nil,List.flatten_cons,List.flatten_nil] at hb ⊢); omega) (by simp)) (fun A63 c63 => ae (ao (ag (⟨(A63,c63),(.cons rfl (.nil _)),(fun w2 hw2 => ez (by rw [st_3 q3,q4]; simp [cat,raw]) rfl (by rw [st_3 q3]; simp only [cat,raw]; omega) (hw2.sel [4,6,7] (by decide))),trivial⟩))))))))))))))))))))))))))))))))))
           · skip
             rw [q4] at hb
             simp only [Bool.false_eq_true,if_false,List.length_nil] at hb
             exact am (ag (ab (tri_slo [(4,_),(1,_)] rfl (aa (ak ck N1 rfl rfl rfl (aj dL rfl rfl (ak bd N2 rfl rfl rfl (aj cl rfl rfl (ak bd N2 rfl rfl rfl (ee (parts := [_,_,_,_,_]) (dm [[105,110,100,101,120,32],s.n,[32,111,110,32],s.t,[32,40]]) Tryz.underlying23 zs9 rfl rfl rfl rfl (by decide) (by decide) (fun b53 => aK (pb := b9) [_,_,_,_] rfl rfl rfl rfl Tryz.call20 (fun w1 h1 h2 h3 => cV [[105,110,100,101,120,32],s.n,[32,111,110,32],s.t,[32,40]] _ _ b9 _ _ _ _ _ w1 h2 (RdS.row .z w1 h1) (fun a ha => by cases ha; exact bv h1 (fun x hx => (List.mem_cons_of_mem _ (List.mem_cons_of_mem _ (List.mem_cons_of_mem _ hx)))) rfl) (by (try simp only [List.nil_append,List.length_append,List.length_cons,List.length_nil,List.flatten_cons,List.flatten_nil] at hb ⊢); omega) (by simp)) (fun A54 c54 => triL_nilN (ab (tri_slo [(4,_),(1,_)] rfl (aa (ak ck N2 rfl rfl rfl (aj dF rfl rfl (ak fP N3 rfl rfl rfl (aN Tryz.underlying23 rfl rfl (co rfl rfl rfl (aK (pb := b9) [_,_,_,_] rfl rfl rfl rfl Tryz.call21 (fun w1 h1 h2 h3 => ia (fun i => raw (s.on.getD i [])) s.on.length 23 [] [.pointer (some ⟨b4,0,none⟩),.pointer (some ⟨b1,0,none⟩)] b9 _ _ _ _ w1 h2 (by omega) (by omega) (by (try simp only [List.nil_append,raw,List.length_append,List.length_cons,List.length_nil,List.flatten_cons,List.flatten_nil] at hb ⊢); omega) Tryz.call23 (fun i A1 c1 l1 m1 w2 hi hs hP1 hm1 hb1 => by have hce := cenv (F := [_,_,_,_]) hV.pe h1 (.s (.s .z)) (.s (.s (.s .z))); have hPV : PV w1 _ _ := ⟨hce.1,(hV.lv.chgL h1.chg (fun k hk => (hV.pe.g k hk).2))⟩; have hA2 := (hA.stab (hV.pe.st (PSub.of h1 h3))).mono (bl' := b4 :: b1 :: bl) (fun k hk => List.mem_cons_of_mem _ (List.mem_cons_of_mem _ hk)); exact sJ s y (b4 :: b1 :: bl) b4 b1 i b9 A1 c1 l1 m1 w2 hP1 hm1 (hPV.sub hs) (hce.2.stab (hce.1.st hs)) (hA2.stab (hce.1.st hs)) hi hb1)) (fun A60 c60 => triL_nilN (tri_slo [(4,_)] rfl (aa (ak ck N2 rfl rfl rfl (bF Tryz.underlying23 zs9 rfl rfl rfl rfl rfl (by decide) (by decide) (fun b62 => aK (pb := b9) [_,_,_,_,_] rfl rfl rfl rfl Tryz.call20 (fun w1 h1 h2 h3 => cV [[41]] _ _ b9 _ _ _ _ _ w1 h2 (RdS.row .z w1 h1) (fun a ha => by cases ha; exact bv h1 (fun x hx => (List.mem_cons_of_mem _ (List.mem_cons_of_mem _ (List.mem_cons_of_mem _ (List.mem_cons_of_mem _ hx))))) rfl) (by (try simp only [List.nil_append,raw,List.length_append,List.length_cons,List.length_nil,List.flatten_cons,List.flatten_nil] at hb ⊢); omega) (by simp)) (fun A63 c63 => ae (ao (ag (⟨(A63,c63),(.cons rfl (.nil _)),(fun w2 hw2 => ez (by rw [st_3 q3,q4]; simp [cat,raw]) rfl (by rw [st_3 q3]; simp only [cat,raw]; omega) (hw2.sel [3,5,6] (by decide))),trivial⟩)))))))))))))))))))))))))))))))
         · skip
           refine ab (tri_slo [(11,_),(4,_),(1,_)] rfl (aa (ax rfl rfl rfl (o_assignN rfl rfl (ar rfl (fun q5 => ?_) (fun q5 => ?_))))))
           · skip
             rw [st_4 q5] at hb
             simp only [raw,List.length_append,List.length_cons,List.length_nil] at hb
             exact aa (ak ck N0 rfl rfl rfl (aj dL rfl rfl (ak bd N1 rfl rfl rfl (ee (parts := [_,_]) (dm [[100,114,111,112,32,105,110,100,101,120,32],s.n]) Tryz.underlying23 zs9 rfl rfl rfl rfl (by decide) (by decide) (fun b69 => aK (pb := b9) [_,_,_] rfl rfl rfl rfl Tryz.call20 (fun w1 h1 h2 h3 => cV [[100,114,111,112,32,105,110,100,101,120,32],s.n] _ _ b9 _ _ _ _ _ w1 h2 (RdS.row .z w1 h1) (fun a ha => by cases ha; exact bv h1 (fun x hx => (List.mem_cons_of_mem _ (List.mem_cons_of_mem _ hx))) rfl) (by (try simp only [List.length_append,List.length_cons,List.length_nil,List.flatten_cons,List.flatten_nil] at hb ⊢); omega) (by simp)) (fun A70 c70 => ae (ao (ag (⟨(A70,c70),(.cons rfl (.nil _)),(fun w2 hw2 => ez (by rw [st_4 q5]; simp [raw]) rfl (by rw [st_4 q5]; simp only [raw]; omega) (hw2.sel [1,3,4] (by decide))),trivial⟩)))))))))
           · skip
             refine ab (aa (ax rfl rfl rfl (o_assignN rfl rfl (ar rfl (fun q6 => ?_) (fun q6 => ?_)))))
             · skip
               rw [st_5 q6] at hb
               simp only [cat,raw,List.length_append,List.length_cons,List.length_nil] at hb
               rw [qU q6] at hmy
               simp only [Bool.and_eq_true] at hmy
               have hmr : ∀ i,i < s.rows.length → cS (s.rows.getD i []) = true := fun i hi => dO hmy.2.2 hi
               exact ab (tri_slo [(4,_),(1,_)] rfl (aa (ak ck N0 rfl rfl rfl (aj cl rfl rfl (ak bd N1 rfl rfl rfl (ee (parts := [_,_,_]) (dm [[105,110,115,101,114,116,32,105,110,116,111,32],s.t,[32,118,97,108,117,101,115,32]]) Tryz.underlying23 zs9 rfl rfl rfl rfl (by decide) (by decide) (fun b76 => aK (pb := b9) [_,_,_] rfl rfl rfl rfl Tryz.call20 (fun w1 h1 h2 h3 => cV [[105,110,115,101,114,116,32,105,110,116,111,32],s.t,[32,118,97,108,117,101,115,32]] _ _ b9 _ _ _ _ _ w1 h2 (RdS.row .z w1 h1) (fun a ha => by cases ha; exact bv h1 (fun x hx => (List.mem_cons_of_mem _ (List.mem_cons_of_mem _ hx))) rfl) (by (try simp only [List.length_append,List.length_cons,List.length_nil,List.flatten_cons,List.flatten_nil] at hb ⊢); omega) (by simp)) (fun A77 c77 => triL_nilN (tri_slo [(4,_),(1,_)] rfl (aa (ak ck N1 rfl rfl rfl (aj dc rfl rfl (ak eR N2 rfl rfl rfl (aN Tryz.underlying24 rfl rfl (co rfl rfl rfl (aK (pb := b9) [_,_,_] rfl rfl rfl rfl Tryz.call21 (fun w1 h1 h2 h3 => ia (fun i => i6 (s.rows.getD i [])) s.rows.length 24 [] [.pointer (some ⟨b4,0,none⟩),.pointer (some ⟨b1,0,none⟩)] b9 _ _ _ _ w1 h2 (by omega) (by omega) (by (try simp only [List.nil_append,List.length_append,List.length_cons,List.length_nil,List.flatten_cons,List.flatten_nil] at hb ⊢); omega) Tryz.call24 (fun i A1 c1 l1 m1 w2 hi hs hP1 hm1 hb1 => by have hce := cenv (F := [_,_,_]) hV.pe h1 (.s .z) (.s (.s .z)); have hPV : PV w1 _ _ := ⟨hce.1,(hV.lv.chgL h1.chg (fun k hk => (hV.pe.g k hk).2))⟩; have hA2 := (hA.stab (hV.pe.st (PSub.of h1 h3))).mono (bl' := b4 :: b1 :: bl) (fun k hk => List.mem_cons_of_mem _ (List.mem_cons_of_mem _ hk)); exact print3K s y (b4 :: b1 :: bl) b4 b1 i b9 A1 c1 l1 m1 w2 hP1 hm1 (hPV.sub hs) (hce.2.stab (hce.1.st hs)) (hA2.stab (hce.1.st hs)) hi (hmr i hi) (hok.rows i hi) hb1)) (fun A83 c83 => ae (ao (ag (⟨(A83,c83),(.cons rfl (.nil _)),(fun w2 hw2 => ez (by rw [st_5 q6]; simp [cat,raw]) rfl (by rw [st_5 q6]; simp only [cat,raw]; omega) (hw2.sel [1,3,4] (by decide))),trivial⟩))))))))))))))))))))
             · skip
               have hk6 : 6 ≤ s.k := by
                rcases Int.lt_or_le s.k 6 with h | h
                · exfalso
                  rw [mK (by omega)] at hmy
                  have := of_decide_eq_true hmy
                  omega
                · exact h
               exact tri_slo [(4,_),(1,_)] rfl (aa (ak ck N0 rfl rfl rfl (aC ej eH (.s .z) rfl rfl (vs := bk s y) rfl rfl (aK (pb := b9) [_,_] rfl rfl rfl rfl Tryz.call27 (fun w1 h1 h2 h3 => othersK s y bl b9 _ _ _ _ w1 h2 (by omega) (hV.sub (PSub.of h1 h3)) (hA.stab (hV.pe.st (PSub.of h1 h3))) (by omega) hmy hok (by (try simp only [List.length_nil]); omega)) (fun A14 c14 => ae (ao (ag (⟨(A14,c14),(.cons rfl (.nil _)),(fun w2 hw2 => ez (by simp) rfl (by rfl) (hw2.sel [0,2,3] (by decide))),trivial⟩))))))))
   refine ab ?_
   have hb := hT q0
   refine aa (ak ck N0 rfl rfl rfl (jt (J := Unit) (val := fun _ => .tuple #[.string (B (gH _ _).1),.int .i64 (gH _ _).2]) (D' := fun _ => prD b9 _ _ _ _ _) (Pu := fun _ => True) [_] (prD b9 _ _ _ _ _) [] (prL b9 _) rfl rfl rfl rfl Tryz.call28 (prD1 _ _ _ _ _ _) (prD2 _ _ _ _ _ _) (fun w1 h1 h2 => toldK b9 _ _ _ _ _ w1 h2 (by (try simp only [List.nil_append]); omega)) (fun _ _ => aX rfl rfl rfl (aX rfl rfl rfl (aB rfl rfl (o_assignN rfl rfl (ap (dA rfl rfl rfl ?_)))))))); exact fun w1 hw1 => ⟨by rw [show max (0 : Int) ((dk s).2 : Int) = ((dk s).2 : Int) by omega,if_pos q0],hw1.chg⟩
end Go.Proofs.YtjbpkcbefmpfgaaGreatDoor
