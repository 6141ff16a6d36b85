/- Parts of the proof, joined and made shorter by a program: Rk7, Rk8, Rk9, Rk10, Rk11, Dk1, Dk2, Dk3, Dk4, Dk5, Lw1, Lw4, PSent, POpn. -/
import Derived.Test.YtjbpkcbefmpfgaaGreatDoorY5
import Derived.Test.YtjbpkcbefmpfgaaGreatDoorRows
import Derived.Stop.LaidErr
import Derived.HandedShaped
import Derived.KernelRfl
namespace Go.Proofs.YtjbpkcbefmpfgaaGreatDoor
open Go.WK Go.RowKit 
theorem built160:∀ (a b:ByteArray),Tryz.prog.built 160 [(0,.string a),(1,.string b)]=some ([.string a,.string b]:List Value).toArray:=by intros; kernel_rfl
theorem lg:bo Tryz.prog 87 0=some 0:=by kernel_rfl
theorem fa {F:List Chunk} {pb:Nat} {A:Option Addr} {c:Nat} {l l':List UInt8} {d d' m m':Int} {cx:Cx} {w:World} (h1:l=l') (h2:d=d') (h3:m=m') (h:Sat cx (F++prD pb A c l d m) w):Sat cx (F++prD pb A c l' d' m') w:=by subst h1 h2 h3; exact h
theorem vx {q:QryX} (h:jI q=true):mayb q.wh=true∧(q.from_.length≤4∧q.ord.length≤16∧q.items.length≤16)∧(∀ i,i < q.items.length→mayI (q.items.getD i ItemX.zero)=true)∧(∀ i,i < q.from_.length→mayF i (q.from_.getD i SrcX.zero)=true):=by
 unfold jI at h
 simp only [Bool.and_eq_true,decide_eq_true_eq] at h
 obtain ⟨⟨h1,h2,h3,_⟩,h4,h5,h6,_⟩:=h
 refine ⟨h1,⟨h2,h3, ?_⟩,fun i hi=>fu h5 hi,fun i hi=>fu h6 hi⟩
 split at h4
 · have:=of_decide_eq_true h4; omega
 · unfold gh at h4; simp only [Bool.and_eq_true,decide_eq_true_eq] at h4; exact h4.2
theorem srcT_len (i:Nat) (a:SrcX):(dL i a).1.length=6+(a.t.length+(asT a.s).length)+(if i=0 then 0 else 4+(a.e.txt 1).1.length):=by
 unfold dL
 by_cases h:i=0
 · rw [if_pos h,if_pos h,if_pos h]; simp only [cat,raw,List.length_append,List.length_cons,List.length_nil]; try omega
 · rw [if_neg h,if_neg h,if_neg h]; simp only [cat,raw,List.length_append,List.length_cons,List.length_nil]; try omega
theorem fj_get (i:Nat):([.string (B [32,102,114,111,109,32]),.string (B [32,106,111,105,110,32])]:List Value)[(min (i:Int) 1).toNat]? = some (.string (B (if i=0 then [32,102,114,111,109,32] else [32,106,111,105,110,32]))):=by
 by_cases h:i=0
 · subst h; rfl
 · rw [if_neg h,show (min (i:Int) 1).toNat=1 by omega]; rfl
theorem mayF_2 {i:Nat} {a:SrcX} (h:mayF i a=true) (hi:0 < i):a.e.may=true:=by
 unfold mayF at h
 rw [if_neg (by omega)] at h
 simp only [Bool.and_eq_true] at h
 exact h.2.2
set_option maxHeartbeats 1000000 in
theorem cP (q:QryX) (y:QLay) (bl:List Nat) (pb:Nat) (A:Option Addr) (c:Nat) (l:List UInt8) (m:Int) (w:World) (hP:iy w pb A c l 0 m) (hm0:0≤m) (hV:PV w (prL pb A) bl) (hA:QAt bl w q y) (hmy:jI q=true) (hok:QOk q) (hb:l.length+(jK q).1.length≤70368744177664):Calls Tryz.prog 62 #[.pointer (some ⟨pb,0,none⟩),.agg (eQ q y).toArray] w (PrT w pb A (l++(jK q).1) 0 (max m ((jK q).2:Int))):=by
 refine az (args:=[.pointer (some ⟨pb,0,none⟩),.agg (eQ q y).toArray]) (lent:=prL pb A) (H:=prD pb A c l 0 m) Tryz.func62 rfl Tryz.ntmps62 rfl (Sat.cx hP) ((show Tri _ [(0,_),(1,_)] _ _ _ from ?_))
 obtain ⟨my1,⟨my2,my3,my4⟩,my5,my6⟩:=vx hmy
 obtain ⟨xI,xF,xO,hI,hF,hW,hO⟩:=id hA
 simp only [jK,cat,raw,List.length_append] at hb
 refine ae (aa (cD _ rfl rfl rfl (fun b2=>cD _ rfl rfl rfl (fun b3=>triL_nilN (ae (aa (ak cd N1 rfl rfl rfl (bk Tryz.underlying23 zs9 rfl rfl rfl rfl rfl (by decide) (by decide) (fun b7=>aI (pb:=pb) [_,_,_] rfl rfl rfl rfl Tryz.call20 (fun w1 h1 h2 h3=>dA [[115,101,108,101,99,116,32]] _ _ pb _ _ _ _ _ w1 h2 (RdS.row .z w1 h1) (fun a ha=>by cases ha; exact bf h1 (fun x hx=>(List.mem_cons_of_mem _ (List.mem_cons_of_mem _ hx))) rfl) (by (try simp only [List.length_append,List.length_cons,List.length_nil,List.flatten_cons,List.flatten_nil,iZ] at hb ⊢); omega) (by simp)) (fun A8 c8=>triL_nilN (cz (ι:=Option Addr × Nat) (fun j=>[(2,.pointer (some ⟨b2,0,none⟩)),(3,.pointer (some ⟨b3,0,none⟩))]) (fun j=>[box b3 35 (eQ q y),box b2 64 [.pointer (some ⟨pb,0,none⟩)]]++prD pb j.1 j.2 (l++([115,101,108,101,99,116,32]++(if q.di=true then [100,105,115,116,105,110,99,116,32] else []))) 0 (m)) (fun j=>True) ?_ (fun j hj=>?_))))))))))))
 · skip
   refine ae (tri_slo [(3,_),(2,_)] rfl (aa (aj nj rfl rfl (ak ij N1 rfl rfl rfl (triL_nilN (aG rfl (fun q0=>?_) (fun q0=>?_)))))))
   · skip
     exact aa (ak cd N2 rfl rfl rfl (bk Tryz.underlying23 zs9 rfl rfl rfl rfl rfl (by decide) (by decide) (fun b12=>aI (pb:=pb) [_,_,_,_] rfl rfl rfl rfl Tryz.call20 (fun w1 h1 h2 h3=>dA [[100,105,115,116,105,110,99,116,32]] _ _ pb _ _ _ _ _ w1 h2 (RdS.row .z w1 h1) (fun a ha=>by cases ha; exact bf h1 (fun x hx=>(List.mem_cons_of_mem _ (List.mem_cons_of_mem _ (List.mem_cons_of_mem _ hx)))) rfl) (by rw [iZ,q0] at hb; (try simp only [List.length_append,List.length_cons,List.length_nil,List.flatten_cons,List.flatten_nil,if_true] at hb ⊢); omega) (by simp)) (fun A13 c13=>triL_nilN (⟨(A13,c13),(.cons rfl (.cons rfl (.nil _))),(fun w2 hw2=>fa (by rw [q0]; simp) rfl (by rfl) (hw2.sel [2,3,4,5] (by decide))),trivial⟩)))))
   · skip
     exact ao (ag (⟨(A8,c8),(.cons rfl (.cons rfl (.nil _))),(fun w2 hw2=>fa (by rw [q0]; simp) rfl (by rfl) (hw2.sel [1,2,3,4] (by decide))),trivial⟩))
 refine cz (ι:=Option Addr × Nat) (fun j=>[(2,.pointer (some ⟨b2,0,none⟩)),(3,.pointer (some ⟨b3,0,none⟩))]) (fun j=>[box b3 35 (eQ q y),box b2 64 [.pointer (some ⟨pb,0,none⟩)]]++prD pb j.1 j.2 (l++iZ q) 0 (m)) (fun j=>True) ?_ (fun j hj=>?_)
 · skip
   refine ae (aa (aj mc rfl rfl (ak ij N0 rfl rfl rfl (triL_nilN (aG rfl (fun q1=>?_) (fun q1=>?_))))))
   · skip
     exact aa (ak cd N1 rfl rfl rfl (bk Tryz.underlying23 zs9 rfl rfl rfl rfl rfl (by decide) (by decide) (fun b17=>aI (pb:=pb) [_,_,_] rfl rfl rfl rfl Tryz.call20 (fun w1 h1 h2 h3=>dA [[42]] _ _ pb _ _ _ _ _ w1 h2 (RdS.row .z w1 h1) (fun a ha=>by cases ha; exact bf h1 (fun x hx=>(List.mem_cons_of_mem _ (List.mem_cons_of_mem _ hx))) rfl) (by rw [iZ,q1] at hb; (try simp only [List.length_append,List.length_cons,List.length_nil,List.flatten_cons,List.flatten_nil,if_true] at hb ⊢); omega) (by simp)) (fun A18 c18=>triL_nilN (⟨(A18,c18),(.cons rfl (.cons rfl (.nil _))),(fun w2 hw2=>fa (by rw [iZ,q1]; simp) rfl (by rfl) (hw2.sel [1,2,3,4] (by decide))),trivial⟩)))))
   · skip
     exact ao (ag (⟨j,(.cons rfl (.cons rfl (.nil _))),(fun w2 hw2=>fa (by rw [iZ,q1]; simp) rfl (by rfl) (hw2.sel [0,1,2,3] (by decide))),trivial⟩))
 refine ae (aa (ak cd N1 rfl rfl rfl (aj dO rfl rfl (ak gu N0 rfl rfl rfl (aX Tryz.underlying31 rfl rfl (bD rfl rfl rfl (aI (pb:=pb) [_,_] rfl rfl rfl rfl Tryz.call21 (fun w1 h1 h2 h3=>jj (fun i=>eD (q.items.getD i ItemX.zero)) q.items.length 118 [] [.pointer (some ⟨b2,0,none⟩),.pointer (some ⟨b3,0,none⟩)] pb _ _ _ _ w1 h2 (by omega) (by omega) (by (try simp only [List.length_append] at hb ⊢); omega) Tryz.call118 (fun i A1 c1 l1 m1 w2 hi hs hP1 hm1 hb1=>by have hce:=cenv (F:=[_,_]) hV.pe h1 (.s .z) .z; have hPV:PV w1 _ _:=⟨hce.1,(hV.lv.chgL h1.chg (fun k hk=>(hV.pe.g k hk).2))⟩; have hA2:=(hA.stab (hV.pe.st (PSub.of h1 h3))).mono (bl':=b2::b3::bl) (fun k hk=>List.mem_cons_of_mem _ (List.mem_cons_of_mem _ hk)); exact query1K q y (b2::b3::bl) b2 b3 i pb A1 c1 l1 m1 w2 hP1 hm1 (hPV.sub hs) (hce.2.stab (hce.1.st hs)) (hA2.stab (hce.1.st hs)) hi (my5 i hi) (hok.items i hi) hb1)) (fun A24 c24=>triL_nilN (ae (ae (tri_slo [(2,_),(3,_)] rfl (aa (aj cZ rfl rfl (ak eI N0 rfl rfl rfl (aX Tryz.underlying32 rfl rfl (ai rfl rfl (triL_nilN (ay (bI (ι:=Nat × Option Addr × Nat) (F:=fun i=>[(2,.pointer (some ⟨b2,0,none⟩)),(3,.pointer (some ⟨b3,0,none⟩)),(26,.slice y.F.A q.from_.length y.F.k),(27,.int .i64 (q.from_.length:Int)),(28,.int .i64 (i.1:Int))]) (HH:=fun i=>[box b3 35 (eQ q y),box b2 64 [.pointer (some ⟨pb,0,none⟩)]]++prD pb i.2.1 i.2.2 (l++(iZ q++((eX (fun i=>eD (q.items.getD i ItemX.zero)) q.items.length).1++(upT (fun i=>dL i (q.from_.getD i SrcX.zero)) i.1).1))) 0 (max (max m ((eX (fun i=>eD (q.items.getD i ItemX.zero)) q.items.length).2:Int)) ((upT (fun i=>dL i (q.from_.getD i SrcX.zero)) i.1).2:Int))) (Pu:=fun i=>i.1≤q.from_.length) (μ:=fun i=>q.from_.length - i.1) ((0,A24,c24)) (.cons rfl (.cons rfl (.cons rfl (.cons rfl (.cons rfl (.nil _)))))) ((fun w2 hw2=>fa (by simp [upT]) rfl (by simp only [upT]; omega) (hw2.sel [0,1,2,3] (by decide)))) (Nat.zero_le _) (fun i hi=>ae (aa (cR rfl rfl rfl (triL_nilN (ae (av rfl (fun q2=>?_) (fun q2=>?_))))))))))))))))))))))))))
 · skip
   have hil:i.1 < q.from_.length:=by omega
   have hbF:=upT_at (fun i=>dL i (q.from_.getD i SrcX.zero)) hil
   simp only [srcT_len] at hbF
   have h6:(if i.1=0 then [32,102,114,111,109,32] else [32,106,111,105,110,32]:List UInt8).length=6:=by split<;>rfl
   refine ao (ag (ae (ay (ae ?_))))
   obtain ⟨ye,hci,hye⟩:=rs hF i.1 hil
   refine aa (ai rfl rfl (aU Tryz.underlying32 gH rfl rfl rfl (hF.rd hV.pe _ _ rfl rfl) (by omega) (by omega) hF.len (by decide) (bF pB gH rfl rfl (hF.rd hV.pe _ _ rfl rfl) (vs:=Value.string (B (q.from_.getD i.1 SrcX.zero).t)::Value.string (B (q.from_.getD i.1 SrcX.zero).s)::bU (q.from_.getD i.1 SrcX.zero).e ye) hci rfl (by decide) (aQ _ rfl pA rfl (fun b5=>aO rfl rfl (aC gH N0 rfl rfl rfl rfl rfl (Nat.le_of_ble_eq_true rfl) rfl (triL_nilN (ae (tri_slo [(4,_),(5,_),(2,_),(3,_),(26,_),(27,_),(28,_)] rfl (bj (_) [(0,true),(1,true),(2,true),(3,true),(4,true),(5,true),(6,true),(7,false),(8,false)] [8] (by kernel_rfl) (by kernel_rfl) (fun _ h=>h) (ah rfl (ak cd N2 rfl rfl rfl (ab ⟨rfl,ah rfl (aT (built160 _ _) rfl rfl (ab ⟨rfl,ah rfl (ai rfl rfl (ab ⟨rfl,ah rfl (o_min rfl rfl rfl (ab ⟨rfl,ah rfl (qw Tryz.underlying160 bB sz9 rfl rfl rfl (by omega) (by omega) rfl (fj_get i.1) (ab ⟨rfl,ah rfl (aj lg rfl rfl (ab ⟨rfl,ah rfl (ak bB N0 rfl rfl rfl (ab ⟨rfl,(aN rfl (gA (parts:=[_,_]) (fe [if i.1=0 then [32,102,114,111,109,32] else [32,106,111,105,110,32],(q.from_.getD i.1 SrcX.zero).t]) Tryz.underlying23 zs9 rfl rfl rfl rfl (by decide) (by decide) (fun b40=>ab ⟨rfl,fun _ _ h=>Sat.dropS 1 h,(bM [8] [_] rfl rfl (aI (pb:=pb) [_,_,_,_] rfl rfl rfl rfl Tryz.call20 (fun w1 h1 h2 h3=>dA [if i.1=0 then [32,102,114,111,109,32] else [32,106,111,105,110,32],(q.from_.getD i.1 SrcX.zero).t] _ _ pb _ _ _ _ _ w1 h2 (RdS.row .z w1 h1) (fun a ha=>by cases ha; exact bf h1 (fun x hx=>(List.mem_cons_of_mem _ (List.mem_cons_of_mem _ (List.mem_cons_of_mem _ hx)))) rfl) (by (try simp only [List.length_append,List.length_cons,List.length_nil,List.flatten_cons,List.flatten_nil,iZ] at hb ⊢); omega) (by simp)) (fun A41 c41=>ab ⟨rfl,(ag (ae (tri_slo [(4,_),(5,_),(2,_),(3,_),(26,_),(27,_),(28,_)] rfl (aa (ak cd N3 rfl rfl rfl (aj la rfl rfl (ak bB N1 rfl rfl rfl (aI (pb:=pb) [_,_,_,_] rfl rfl rfl rfl Tryz.call119 (fun w1 h1 h2 h3=>asR_ (q.from_.getD i.1 SrcX.zero).s pb _ _ _ _ w1 h2 (by omega) (by (try simp only [List.length_append,List.length_cons,List.length_nil,List.flatten_cons,List.flatten_nil,iZ] at hb ⊢); omega)) (fun A45 c45=>?_)))))))))⟩)))⟩)))⟩))⟩))⟩))⟩))⟩))⟩))⟩))))))))))))); refine triL_nilN (ae (tri_slo [(4,_),(5,_),(2,_),(3,_),(26,_),(27,_),(28,_)] rfl (aa (ai rfl rfl (i8 rfl rfl rfl (triL_nilN (av rfl (fun q3=>?_) (fun q3=>?_))))))))
   · skip
     exact ae (aa (ak cd N3 rfl rfl rfl (bk Tryz.underlying23 zs9 rfl rfl rfl rfl rfl (by decide) (by decide) (fun b49=>aI (pb:=pb) [_,_,_,_,_] rfl rfl rfl rfl Tryz.call20 (fun w1 h1 h2 h3=>dA [[32,111,110,32]] _ _ pb _ _ _ _ _ w1 h2 (RdS.row .z w1 h1) (fun a ha=>by cases ha; exact bf h1 (fun x hx=>(List.mem_cons_of_mem _ (List.mem_cons_of_mem _ (List.mem_cons_of_mem _ (List.mem_cons_of_mem _ hx))))) rfl) (by rw [if_neg (by omega)] at hbF; (try simp only [List.length_append,List.length_cons,List.length_nil,List.flatten_cons,List.flatten_nil,iZ] at hb ⊢); omega) (by simp)) (fun A50 c50=>triL_nilN (tri_slo [(5,_),(2,_),(3,_),(26,_),(27,_),(28,_)] rfl (aa (ak cd N4 rfl rfl rfl (aj nk rfl rfl (aS bh aY (.s (.s .z)) rfl rfl (vs:=bU (q.from_.getD i.1 SrcX.zero).e ye) rfl rfl (aI (pb:=pb) [_,_,_,_,_] rfl rfl rfl rfl Tryz.call26 (fun w1 h1 h2 h3=>qX (q.from_.getD i.1 SrcX.zero).e (mayF_2 (my6 i.1 hil) (by omega)) (hok.from_ i.1 hil) 1 bl ye pb _ _ _ _ _ w1 h2 (hV.sub (PSub.of h1 h3)) (hye.stab (hV.pe.st (PSub.of h1 h3))) (by omega) (by rw [if_neg (by omega)] at hbF; (try simp only [List.length_append,List.length_cons,List.length_nil,iZ] at hb ⊢); omega) (by rw [if_neg (by omega)] at hbF; (try simp only [List.length_append,List.length_cons,List.length_nil,List.flatten_cons,List.flatten_nil,iZ] at hb ⊢); omega)) (fun A54 c54=>ab (am (ag (tri_slo [(2,_),(3,_),(26,_),(27,_),(28,_)] rfl (aa (bJ rfl rfl rfl (by omega) (ai rfl rfl (triL_nilN (⟨(i.1+1,A54,c54),(.cons rfl (.cons rfl (.cons rfl (.cons rfl (.cons rfl (.nil _)))))),(fun w2 hw2=>fa (by simp only [upT,cat,raw,dL]; rw [if_neg (by omega),if_neg (by omega)]; simp) rfl (by simp only [upT,cat,raw,dL]; rw [if_neg (by omega)]; simp only; omega) (hw2.sel [3,4,5,6] (by decide))),by simp only; omega,(by simp only; omega)⟩))))))))))))))))))))
   · skip
     exact ao (am (ag (tri_slo [(2,_),(3,_),(26,_),(27,_),(28,_)] rfl (aa (bJ rfl rfl rfl (by omega) (ai rfl rfl (triL_nilN (⟨(i.1+1,A45,c45),(.cons rfl (.cons rfl (.cons rfl (.cons rfl (.cons rfl (.nil _)))))),(fun w2 hw2=>fa (by simp only [upT,cat,raw,dL]; rw [if_pos (by omega),if_pos (by omega)]; simp) rfl (by simp only [upT,cat,raw,dL]; rw [if_pos (by omega)]; simp only; omega) (hw2.sel [2,3,4,5] (by decide))),by simp only; omega,(by simp only; omega)⟩))))))))
 · skip
   have hie:i.1=q.from_.length:=by omega
   rw [hie]
   refine bu (ax (ax (aP (ag (ae (tri_slo [(2,_),(3,_)] rfl (aa (ak cd N1 rfl rfl rfl (aj km rfl rfl (aS bh aY .z rfl rfl (vs:=bU q.wh y.V) rfl rfl (aI (pb:=pb) [_,_] rfl rfl rfl rfl Tryz.call60 (fun w1 h1 h2 h3=>sg q.wh y.V bl pb _ _ _ _ w1 h2 (by omega) (hV.sub (PSub.of h1 h3)) (hW.stab (hV.pe.st (PSub.of h1 h3))) hok.wh my1 (by (try simp only [List.length_append,List.length_cons,List.length_nil,iZ] at hb ⊢); omega)) (fun A59 c59=>triL_nilN (cz (ι:=Option Addr × Nat) (fun j=>[(2,.pointer (some ⟨b2,0,none⟩)),(3,.pointer (some ⟨b3,0,none⟩))]) (fun j=>[box b3 35 (eQ q y),box b2 64 [.pointer (some ⟨pb,0,none⟩)]]++prD pb j.1 j.2 (l++(iZ q++((eX (fun i=>eD (q.items.getD i ItemX.zero)) q.items.length).1++((upT (fun i=>dL i (q.from_.getD i SrcX.zero)) q.from_.length).1++((cT q.wh).1++lK q.ord.length))))) 0 (max (max (max m ((eX (fun i=>eD (q.items.getD i ItemX.zero)) q.items.length).2:Int)) ((upT (fun i=>dL i (q.from_.getD i SrcX.zero)) q.from_.length).2:Int)) ((cT q.wh).2:Int))) (fun j=>True) ?_ (fun j hj=>?_))))))))))))))
   · skip
     refine ae (tri_slo [(2,_),(3,_)] rfl (aa (aj fB rfl rfl (ak ji N0 rfl rfl rfl (aX Tryz.underlying33 rfl rfl (i8 rfl rfl rfl (triL_nilN (av rfl (fun q4=>?_) (fun q4=>?_)))))))))
     · skip
       exact tri_slo [(2,_),(3,_)] rfl (aa (ak cd N1 rfl rfl rfl (bk Tryz.underlying23 zs9 rfl rfl rfl rfl rfl (by decide) (by decide) (fun b65=>aI (pb:=pb) [_,_,_] rfl rfl rfl rfl Tryz.call20 (fun w1 h1 h2 h3=>dA [[32,111,114,100,101,114,32,98,121,32]] _ _ pb _ _ _ _ _ w1 h2 (RdS.row .z w1 h1) (fun a ha=>by cases ha; exact bf h1 (fun x hx=>(List.mem_cons_of_mem _ (List.mem_cons_of_mem _ hx))) rfl) (by rw [lK,if_pos (by omega)] at hb; (try simp only [List.length_append,List.length_cons,List.length_nil,List.flatten_cons,List.flatten_nil,iZ] at hb ⊢); omega) (by simp)) (fun A66 c66=>triL_nilN (⟨(A66,c66),(.cons rfl (.cons rfl (.nil _))),(fun w2 hw2=>fa (by rw [lK,if_pos (by omega)]; simp) rfl (by rfl) (hw2.sel [1,2,3,4] (by decide))),trivial⟩))))))
     · skip
       exact ao (ag (⟨(A59,c59),(.cons rfl (.cons rfl (.nil _))),(fun w2 hw2=>fa (by rw [lK,if_neg (by omega)]; simp) rfl (by rfl) (hw2.sel [0,1,2,3] (by decide))),trivial⟩))
   refine ae (aa (ak cd N1 rfl rfl rfl (aj fB rfl rfl (ak ji N0 rfl rfl rfl (aX Tryz.underlying33 rfl rfl (bD rfl rfl rfl (aI (pb:=pb) [_,_] rfl rfl rfl rfl Tryz.call21 (fun w1 h1 h2 h3=>jj (fun i=>jJ (q.ord.getD i OrdX.zero)) q.ord.length 120 [] [.pointer (some ⟨b2,0,none⟩),.pointer (some ⟨b3,0,none⟩)] pb _ _ _ _ w1 h2 (by omega) (by omega) (by (try simp only [List.length_append] at hb ⊢); omega) Tryz.call120 (fun i A1 c1 l1 m1 w2 hi hs hP1 hm1 hb1=>by have hce:=cenv (F:=[_,_]) hV.pe h1 (.s .z) .z; have hPV:PV w1 _ _:=⟨hce.1,(hV.lv.chgL h1.chg (fun k hk=>(hV.pe.g k hk).2))⟩; have hA2:=(hA.stab (hV.pe.st (PSub.of h1 h3))).mono (bl':=b2::b3::bl) (fun k hk=>List.mem_cons_of_mem _ (List.mem_cons_of_mem _ hk)); exact query2K q y (b2::b3::bl) b2 b3 i pb A1 c1 l1 m1 w2 hP1 hm1 (hPV.sub hs) (hce.2.stab (hce.1.st hs)) (hA2.stab (hce.1.st hs)) hi hb1)) (fun A72 c72=>triL_nilN (ae (tri_slo [(2,_),(3,_)] rfl (aa (aj me rfl rfl (ak ij N0 rfl rfl rfl (triL_nilN (aG rfl (fun q5=>?_) (fun q5=>?_))))))))))))))))
   · skip
     exact bj (_) [(0,true),(1,true),(2,true),(3,false),(4,false),(5,false)] [5] (by kernel_rfl) (by kernel_rfl) (fun _ h=>h) (ah rfl (ak cd N1 rfl rfl rfl (ab ⟨rfl,ah rfl (aj le rfl rfl (ab ⟨rfl,ah rfl (ak bR N0 rfl rfl rfl (ab ⟨rfl,(aN rfl (aF (first:=[]) (cap:=[]) rfl rfl rfl Tryz.call121 (fun w1 h1=>lib_itoa q.lim w1 hok.lim (hV.lv.chgL h1.chg (fun k hk=>(hV.pe.g k hk).2))) (ab ⟨rfl,fun _ _ h=>Sat.dropS 0 h,(aN rfl (gA (parts:=[_,_]) (fe [[32,108,105,109,105,116,32],Lib.itoa q.lim]) Tryz.underlying23 zs9 rfl rfl rfl rfl (by decide) (by decide) (fun b79=>ab ⟨rfl,fun _ _ h=>Sat.dropS 1 h,(bM [5] [_] rfl rfl (aI (pb:=pb) [_,_,_] rfl rfl rfl rfl Tryz.call20 (fun w1 h1 h2 h3=>dA [[32,108,105,109,105,116,32],Lib.itoa q.lim] _ _ pb _ _ _ _ _ w1 h2 (RdS.row .z w1 h1) (fun a ha=>by cases ha; exact bf h1 (fun x hx=>(List.mem_cons_of_mem _ (List.mem_cons_of_mem _ hx))) rfl) (by rw [limT,if_pos q5] at hb; (try simp only [List.length_append,List.length_cons,List.length_nil,List.flatten_cons,List.flatten_nil,iZ] at hb ⊢); omega) (by simp)) (fun A80 c80=>ab ⟨rfl,(bS rfl (bz (J:=Option Addr × Nat) (A80,c80) rfl trivial (fun w2 hw2=>bZ (by rw [jK,limT,if_pos q5]; simp [cat,raw]) rfl (by simp only [jK,cat,raw]; omega) (hw2.sel [3,4] (by decide)))))⟩)))⟩)))⟩)))⟩))⟩))⟩)))
   · skip
     exact ao (bS rfl (bz (J:=Option Addr × Nat) (A72,c72) rfl trivial (fun w2 hw2=>bZ (by rw [jK,limT,if_neg (cB q5)]; simp [cat,raw]) rfl (by simp only [jK,cat,raw]; omega) (hw2.sel [2,3] (by decide)))))
end Go.Proofs.YtjbpkcbefmpfgaaGreatDoor
namespace Go.Proofs.YtjbpkcbefmpfgaaGreatDoor
open Go.WK Go.RowKit 
theorem built72:∀ (a b c d:ByteArray),Tryz.prog.built 72 [(0,.string a),(1,.string b),(2,.string c),(3,.string d)]=some ([.string a,.string b,.string c,.string d]:List Value).toArray:=by intros; kernel_rfl
theorem jv:bo Tryz.prog 37 3=some 3:=by kernel_rfl
theorem mI:cF Tryz.prog 22=some false:=by kernel_rfl
theorem agg71:cF Tryz.prog 71=some true:=by kernel_rfl
theorem sz71:szB Tryz.prog 71=some 3:=by kernel_rfl
theorem zero71:(Tryz.prog.info? 71).map (·.zero)=some (some (.agg #[.string .empty,.int .i64 0,.bool false])):=by kernel_rfl
theorem fo71_0:bo Tryz.prog 71 0=some 0:=by kernel_rfl
theorem vy:bo Tryz.prog 71 1=some 1:=by kernel_rfl
theorem fo71_2:bo Tryz.prog 71 2=some 2:=by kernel_rfl
theorem iW:bo Tryz.prog 37 4=some 4:=by kernel_rfl
theorem lP:cF Tryz.prog 23=some false:=by kernel_rfl
theorem gv:bo Tryz.prog 37 6=some 6:=by kernel_rfl
theorem jS:cF Tryz.prog 24=some false:=by kernel_rfl
theorem sz28:szB Tryz.prog 28=some 1:=by kernel_rfl
theorem ei:bo Tryz.prog 37 7=some 7:=by kernel_rfl
theorem hJ:cF Tryz.prog 25=some false:=by kernel_rfl
theorem pF:szB Tryz.prog 82=some 9:=by kernel_rfl
theorem nq:bo Tryz.prog 82 0=some 0:=by kernel_rfl
theorem si:bo Tryz.prog 82 1=some 1:=by kernel_rfl
theorem pG:cF Tryz.prog 35=some true:=by kernel_rfl
theorem nQ:szB Tryz.prog 35=some 15:=by kernel_rfl
theorem cL:bo Tryz.prog 37 1=some 1:=by kernel_rfl
theorem gw:bo Tryz.prog 37 8=some 8:=by kernel_rfl
theorem print1K (s:StmtX) (y:Lay) (bl:List Nat) (bp bx i:Nat) (pb:Nat) (A:Option Addr) (c:Nat) (l:List UInt8) (m:Int) (w:World) (hP:iy w pb A c l 0 m) (hm0:0≤m) (hV:PV w (prL pb A) bl) (hE:CEnv w bl bp pb bx (bL s y)) (hA:SAt bl w s y) (hi:i < s.cols.length) (hmy:mayCol (s.cols.getD i ColX.zero)=true) (hb:l.length+(kR (s.cols.getD i ColX.zero)).1.length≤70368744177664):Calls Tryz.prog 22 #[.int .i64 (i:Int),.pointer (some ⟨bx,0,none⟩),.pointer (some ⟨bp,0,none⟩)] w (PrT w pb A (l++(kR (s.cols.getD i ColX.zero)).1) 0 (max m ((kR (s.cols.getD i ColX.zero)).2:Int))):=by
 refine az (args:=[.int .i64 (i:Int),.pointer (some ⟨bx,0,none⟩),.pointer (some ⟨bp,0,none⟩)]) (lent:=prL pb A) (H:=prD pb A c l 0 m) Tryz.func22 rfl Tryz.ntmps22 rfl (Sat.cx hP) ((show Tri _ [(0,_),(1,_),(2,_)] _ _ _ from ?_))
 have hP_:=hE.rp hV.pe
 have hX_:=hE.rx hV.pe
 obtain ⟨xC,xN,xR,xS,xI,xF,xO,hC,hN,hR_,hS,hW,hQ⟩:=id hA
 have hci:=ru hC i hi
 have hk:=mayCol_k hmy
 simp only [kR,raw,List.length_append] at hb
 refine ae (aa (aV (A:=some ⟨bx,0,none⟩) (kk:=0) jv rfl rfl (hX_ _ _ rfl rfl) rfl (aL mI rfl rfl (hX_ _ _ rfl rfl) rfl (ai rfl rfl (aU Tryz.underlying22 sz71 rfl rfl rfl (hC.rd hV.pe _ _ rfl rfl) (by omega) (by omega) hC.len (by decide) (bF agg71 sz71 rfl rfl (hC.rd hV.pe _ _ rfl rfl) (vs:=[Value.string (B (s.cols.getD i ColX.zero).n),Value.int .i64 (s.cols.getD i ColX.zero).k,Value.bool (s.cols.getD i ColX.zero).b]) hci rfl (by decide) (aQ _ rfl zero71 rfl (fun b4=>aC sz71 N0 rfl rfl rfl rfl rfl (Nat.le_of_ble_eq_true rfl) rfl (triL_nilN (ae (tri_slo [(4,_),(2,_)] rfl (bj (_) [(0,true),(1,true),(2,true),(3,true),(4,true),(5,true),(6,true),(7,false),(8,false)] [8] (by kernel_rfl) (by kernel_rfl) (fun _ h=>h) (ah rfl (aL (A:=some ⟨bp,0,none⟩) (kk:=0) cd rfl rfl (hP_ _ _ rfl rfl) rfl (ab ⟨rfl,ah rfl (aj fo71_0 rfl rfl (ab ⟨rfl,ah rfl (ak bB N0 rfl rfl rfl (ab ⟨rfl,ah rfl (aT (built72 _ _ _ _) rfl rfl (ab ⟨rfl,ah rfl (aj vy rfl rfl (ab ⟨rfl,ah rfl (ak bR N0 rfl rfl rfl (ab ⟨rfl,ah rfl (qw Tryz.underlying72 bB sz9 rfl rfl rfl (by omega) (by omega) rfl (kd_get hk) (ab ⟨rfl,(aN rfl (gA (parts:=[_,_]) (fe [(s.cols.getD i ColX.zero).n,nA (s.cols.getD i ColX.zero).k]) Tryz.underlying23 zs9 rfl rfl rfl rfl (by decide) (by decide) (fun b17=>ab ⟨rfl,fun _ _ h=>Sat.dropS 1 h,(bM [8] [_] rfl rfl (aI (pb:=pb) [_,_] rfl rfl rfl rfl Tryz.call20 (fun w1 h1 h2 h3=>dA [(s.cols.getD i ColX.zero).n,nA (s.cols.getD i ColX.zero).k] _ _ pb _ _ _ _ _ w1 h2 (RdS.row .z w1 h1) (fun a ha=>by cases ha; exact bf h1 (fun x hx=>(List.mem_cons_of_mem _ hx)) rfl) (by (try simp only [List.length_append,List.length_nil,List.flatten_cons,List.flatten_nil] at hb ⊢); omega) (by simp)) (fun A18 c18=>ab ⟨rfl,(ag (ae (tri_slo [(4,_),(2,_)] rfl (aa (aj fo71_2 rfl rfl (ak ij N1 rfl rfl rfl (triL_nilN ?_)))))))⟩)))⟩)))⟩))⟩))⟩))⟩))⟩))⟩))⟩))))))))))))))); refine aG rfl (fun q0=>?_) (fun q0=>?_)
 · skip
   exact aa (aL (A:=some ⟨bp,0,none⟩) (kk:=0) cd rfl rfl (hP_ _ _ rfl rfl) rfl (bk Tryz.underlying23 zs9 rfl rfl rfl rfl rfl (by decide) (by decide) (fun b22=>aI (pb:=pb) [_,_,_] rfl rfl rfl rfl Tryz.call20 (fun w1 h1 h2 h3=>dA [[32,110,111,116,32,110,117,108,108]] _ _ pb _ _ _ _ _ w1 h2 (RdS.row .z w1 h1) (fun a ha=>by cases ha; exact bf h1 (fun x hx=>(List.mem_cons_of_mem _ (List.mem_cons_of_mem _ hx))) rfl) (by rw [q0] at hb; simp only [gi,if_true,List.length_append,List.length_cons,List.length_nil,List.flatten_cons,List.flatten_nil] at hb ⊢; omega) (by simp)) (fun A23 c23=>ab (bS rfl (bz (J:=Option Addr × Nat) (A23,c23) rfl trivial (fun w2 hw2=>bZ (by rw [kR,q0]; simp [raw,gi]) rfl (by simp only [kR,raw]; omega) (hw2.sel [3,4] (by decide)))))))))
 · skip
   exact ao (bS rfl (bz (J:=Option Addr × Nat) (A18,c18) rfl trivial (fun w2 hw2=>bZ (by rw [kR,q0]; simp [raw,gi]) rfl (by simp only [kR,raw]; omega) (hw2.sel [2,3] (by decide)))))
theorem w8 (s:StmtX) (y:Lay) (bl:List Nat) (bp bx i:Nat) (pb:Nat) (A:Option Addr) (c:Nat) (l:List UInt8) (m:Int) (w:World) (hP:iy w pb A c l 0 m) (hm0:0≤m) (hV:PV w (prL pb A) bl) (hE:CEnv w bl bp pb bx (bL s y)) (hA:SAt bl w s y) (hi:i < s.on.length) (hb:l.length+(raw (s.on.getD i [])).1.length≤70368744177664):Calls Tryz.prog 23 #[.int .i64 (i:Int),.pointer (some ⟨bp,0,none⟩),.pointer (some ⟨bx,0,none⟩)] w (PrT w pb A (l++(raw (s.on.getD i [])).1) 0 (max m ((raw (s.on.getD i [])).2:Int))):=by
 refine az (args:=[.int .i64 (i:Int),.pointer (some ⟨bp,0,none⟩),.pointer (some ⟨bx,0,none⟩)]) (lent:=prL pb A) (H:=prD pb A c l 0 m) Tryz.func23 rfl Tryz.ntmps23 rfl (Sat.cx hP) ((show Tri _ [(0,_),(1,_),(2,_)] _ _ _ from ?_))
 have hP_:=hE.rp hV.pe
 have hX_:=hE.rx hV.pe
 obtain ⟨xC,xN,xR,xS,xI,xF,xO,hC,hN,hR_,hS,hW,hQ⟩:=id hA
 have hci:=nZ hN i hi
 simp only [raw] at hb
 exact bj (_) [(0,true),(1,true),(2,true),(3,true),(4,true),(5,true),(6,false),(7,false)] [7] (by kernel_rfl) (by kernel_rfl) (fun _ h=>h) (ah rfl (aL (A:=some ⟨bp,0,none⟩) (kk:=0) cd rfl rfl (hP_ _ _ rfl rfl) rfl (ab ⟨rfl,ah rfl (aV (A:=some ⟨bx,0,none⟩) (kk:=0) iW rfl rfl (hX_ _ _ rfl rfl) rfl (ab ⟨rfl,ah rfl (aL lP rfl rfl (hX_ _ _ rfl rfl) rfl (ab ⟨rfl,ah rfl (ai rfl rfl (ab ⟨rfl,ah rfl (aU Tryz.underlying23 sz9 rfl rfl rfl (hN.rd hV.pe _ _ rfl rfl) (by omega) (by omega) hN.len (by decide) (ab ⟨rfl,ah rfl (aL bB rfl rfl (hN.rd hV.pe _ _ rfl rfl) (aR hci (j:=0) rfl) (ab ⟨rfl,(aN rfl (bk Tryz.underlying23 zs9 rfl rfl rfl rfl rfl (by decide) (by decide) (fun b10=>ab ⟨rfl,fun _ _ h=>Sat.dropS 1 h,(bM [7] [_] rfl rfl (aI (pb:=pb) [_] rfl rfl rfl rfl Tryz.call20 (fun w1 h1 h2 h3=>dA [(s.on.getD i [])] _ _ pb _ _ _ _ _ w1 h2 (RdS.row .z w1 h1) (fun a ha=>by cases ha; exact bf h1 (fun x hx=>hx) rfl) (by (try simp only [List.length_append,List.length_nil,List.flatten_cons,List.flatten_nil] at hb ⊢); omega) (by simp)) (fun A11 c11=>ab ⟨rfl,(bS rfl (bz (J:=Option Addr × Nat) (A11,c11) rfl trivial (fun w2 hw2=>bZ (by simp [raw]) rfl (by simp only [raw]; omega) (hw2.sel [1,2] (by decide)))))⟩)))⟩)))⟩))⟩))⟩))⟩))⟩))⟩)))
theorem print31K (s:StmtX) (y:Lay) (bl:List Nat) (bp bx bi i k:Nat) (pb:Nat) (A:Option Addr) (c:Nat) (l:List UInt8) (m:Int) (w:World) (hP:iy w pb A c l 0 m) (hm0:0≤m) (hV:PV w (prL pb A) bl) (hE:CEnv w bl bp pb bx (bL s y)) (hA:SAt bl w s y) (hBI:Rd w (some ⟨bi,0,none⟩) [.int .i64 (i:Int)]) (hbi:bi ∈ bl) (hi:i < s.rows.length) (hk:k < (s.rows.getD i []).length) (hmy:((s.rows.getD i []).getD k Ex.zero).may=true) (ho:((s.rows.getD i []).getD k Ex.zero).ok) (hb:l.length+(((s.rows.getD i []).getD k Ex.zero).txt 1).1.length≤70368744177664):Calls Tryz.prog 25 #[.int .i64 (k:Int),.pointer (some ⟨bp,0,none⟩),.pointer (some ⟨bx,0,none⟩),.pointer (some ⟨bi,0,none⟩)] w (PrT w pb A (l++(((s.rows.getD i []).getD k Ex.zero).txt 1).1) 0 (max m ((((s.rows.getD i []).getD k Ex.zero).txt 1).2:Int))):=by
 refine az (args:=[.int .i64 (k:Int),.pointer (some ⟨bp,0,none⟩),.pointer (some ⟨bx,0,none⟩),.pointer (some ⟨bi,0,none⟩)]) (lent:=prL pb A) (H:=prD pb A c l 0 m) Tryz.func25 rfl Tryz.ntmps25 rfl (Sat.cx hP) ((show Tri _ [(0,_),(1,_),(2,_),(3,_)] _ _ _ from ?_))
 have hP_:=hE.rp hV.pe
 have hX_:=hE.rx hV.pe
 obtain ⟨xC,xN,xR,xS,xI,xF,xO,hC,hN,hR_,hS,hW,hQ⟩:=id hA
 obtain ⟨yr,xr,hcr,hRr⟩:=mx hR_ i hi
 obtain ⟨ye,hci,hye⟩:=ex_at hRr k hk
 have hB_:=fun cx H e1 e2=>hV.pe.rd hBI (fun a ha _=>by cases ha; exact hbi) cx H e1 e2
 exact bj (_) [(0,true),(1,true),(2,true),(3,true),(4,true),(5,true),(6,true),(7,true),(8,true),(9,false)] [9] (by kernel_rfl) (by kernel_rfl) (fun _ h=>h) (ah rfl (aL (A:=some ⟨bp,0,none⟩) (kk:=0) cd rfl rfl (hP_ _ _ rfl rfl) rfl (ab ⟨rfl,ah rfl (aV (A:=some ⟨bx,0,none⟩) (kk:=0) gv rfl rfl (hX_ _ _ rfl rfl) rfl (ab ⟨rfl,ah rfl (aL jS rfl rfl (hX_ _ _ rfl rfl) rfl (ab ⟨rfl,ah rfl (aL (A:=some ⟨bi,0,none⟩) (kk:=0) bR rfl rfl (hB_ _ _ rfl rfl) rfl (ab ⟨rfl,ah rfl (aU Tryz.underlying24 sz28 rfl rfl rfl (hR_.rd hV.pe _ _ rfl rfl) (by omega) (by omega) hR_.len (by decide) (ab ⟨rfl,ah rfl (aL fm rfl rfl (hR_.rd hV.pe _ _ rfl rfl) (aR hcr (j:=0) rfl) (ab ⟨rfl,ah rfl (ai rfl rfl (ab ⟨rfl,ah rfl (aU Tryz.underlying28 aY rfl rfl rfl (hRr.rd hV.pe _ _ rfl rfl) (by omega) (by omega) hRr.len (by decide) (ab ⟨rfl,ah rfl (bF bh aY rfl rfl (hRr.rd hV.pe _ _ rfl rfl) (vs:=bU ((s.rows.getD i []).getD k Ex.zero) ye) hci rfl (by decide) (ab ⟨rfl,(bM [9] [_] rfl rfl (aI (pb:=pb) [] rfl rfl rfl rfl Tryz.call26 (fun w1 h1 h2 h3=>qX (((s.rows.getD i []).getD k Ex.zero)) (hmy) (ho) 1 bl ye pb _ _ _ _ _ w1 h2 (hV.sub (PSub.of h1 h3)) (hye.stab (hV.pe.st (PSub.of h1 h3))) (by omega) (by (try simp only [cat,raw,List.length_append,List.length_cons,List.length_nil,List.flatten_cons,List.flatten_nil] at hb ⊢); omega) (by (try simp only [cat,raw,List.length_append,List.length_cons,List.length_nil,List.flatten_cons,List.flatten_nil] at hb ⊢); omega)) (fun A14 c14=>ab ⟨rfl,(bS rfl (bz (J:=Option Addr × Nat) (A14,c14) rfl trivial (fun w2 hw2=>bZ (by rfl) rfl (by omega) (hw2.sel [0,1] (by decide)))))⟩)))⟩))⟩))⟩))⟩))⟩))⟩))⟩))⟩))⟩)))
theorem print3K (s:StmtX) (y:Lay) (bl:List Nat) (bp bx i:Nat) (pb:Nat) (A:Option Addr) (c:Nat) (l:List UInt8) (m:Int) (w:World) (hP:iy w pb A c l 0 m) (hm0:0≤m) (hV:PV w (prL pb A) bl) (hE:CEnv w bl bp pb bx (bL s y)) (hA:SAt bl w s y) (hi:i < s.rows.length) (hmy:mayRow (s.rows.getD i [])=true) (hoR:∀ j,j < (s.rows.getD i []).length→((s.rows.getD i []).getD j Ex.zero).ok) (hb:l.length+(iz (s.rows.getD i [])).1.length≤70368744177664):Calls Tryz.prog 24 #[.int .i64 (i:Int),.pointer (some ⟨bp,0,none⟩),.pointer (some ⟨bx,0,none⟩)] w (PrT w pb A (l++(iz (s.rows.getD i [])).1) 0 (max m ((iz (s.rows.getD i [])).2:Int))):=by
 refine az (args:=[.int .i64 (i:Int),.pointer (some ⟨bp,0,none⟩),.pointer (some ⟨bx,0,none⟩)]) (lent:=prL pb A) (H:=prD pb A c l 0 m) Tryz.func24 rfl Tryz.ntmps24 rfl (Sat.cx hP) ((show Tri _ [(0,_),(1,_),(2,_)] _ _ _ from ?_))
 have hP_:=hE.rp hV.pe
 have hX_:=hE.rx hV.pe
 obtain ⟨xC,xN,xR,xS,xI,xF,xO,hC,hN,hR_,hS,hW,hQ⟩:=id hA
 obtain ⟨yr,xr,hcr,hRr⟩:=mx hR_ i hi
 obtain ⟨mr1,mr2⟩:=mayRow_p hmy
 simp only [iz,cat,raw,List.length_append,List.length_cons,List.length_nil] at hb
 exact ae (aa (cD _ rfl rfl rfl (fun b3=>triL_nilN (ae (aa (aL (A:=some ⟨bp,0,none⟩) (kk:=0) cd rfl rfl (hP_ _ _ rfl rfl) rfl (bk Tryz.underlying23 zs9 rfl rfl rfl rfl rfl (by decide) (by decide) (fun b5=>aI (pb:=pb) [_,_] rfl rfl rfl rfl Tryz.call20 (fun w1 h1 h2 h3=>dA [[40]] _ _ pb _ _ _ _ _ w1 h2 (RdS.row .z w1 h1) (fun a ha=>by cases ha; exact bf h1 (fun x hx=>(List.mem_cons_of_mem _ hx)) rfl) (by (try simp only [List.length_append,List.length_cons,List.length_nil,List.flatten_cons,List.flatten_nil] at hb ⊢); omega) (by simp)) (fun A6 c6=>triL_nilN (ae (tri_slo [(3,_),(1,_),(2,_)] rfl (bj (_) [(0,true),(1,true),(2,true),(3,true),(4,true),(5,true),(6,true),(7,true),(8,false)] [8] (by kernel_rfl) (by kernel_rfl) (fun _ h=>h) (ah rfl (aL (A:=some ⟨bp,0,none⟩) (kk:=0) cd rfl rfl (hP_ _ _ rfl rfl) rfl (ab ⟨rfl,ah rfl (aV (A:=some ⟨bx,0,none⟩) (kk:=0) gv rfl rfl (hX_ _ _ rfl rfl) rfl (ab ⟨rfl,ah rfl (aL jS rfl rfl (hX_ _ _ rfl rfl) rfl (ab ⟨rfl,ah rfl (ak bR N1 rfl rfl rfl (ab ⟨rfl,ah rfl (aU Tryz.underlying24 sz28 rfl rfl rfl (hR_.rd hV.pe _ _ rfl rfl) (by omega) (by omega) hR_.len (by decide) (ab ⟨rfl,ah rfl (aL fm rfl rfl (hR_.rd hV.pe _ _ rfl rfl) (aR hcr (j:=0) rfl) (ab ⟨rfl,ah rfl (aX Tryz.underlying28 rfl rfl (ab ⟨rfl,ah rfl (bD rfl rfl rfl (ab ⟨rfl,(bM [8] [_] rfl rfl (aI (pb:=pb) [_,_] rfl rfl rfl rfl Tryz.call21 (fun w1 h1 h2 h3=>jj (fun k=>((s.rows.getD i []).getD k Ex.zero).txt 1) (s.rows.getD i []).length 25 [] [.pointer (some ⟨bp,0,none⟩),.pointer (some ⟨bx,0,none⟩),.pointer (some ⟨b3,0,none⟩)] pb _ _ _ _ w1 h2 (by omega) (by omega) (by (try simp only [List.length_append,List.length_cons,List.length_nil,List.flatten_cons,List.flatten_nil] at hb ⊢); omega) Tryz.call25 (fun k A1 c1 l1 m1 w2 hk hs hP1 hm1 hb1=>by have hbe:=benv (F:=[_,_]) h1 (.s .z); have hs1:=PSub.of h1 h3; have hPE:=(hV.pe.sub hs1).cons hbe.2.1 hbe.2.2; have hPV:PV w1 _ _:=⟨hPE,(hV.lv.chgL h1.chg (fun k hk=>(hV.pe.g k hk).2))⟩; have hup:∀ j ∈ bl,j ∈ b3::bl:=fun j hj=>List.mem_cons_of_mem _ hj; have hA2:=(hA.stab (hV.pe.st hs1)).mono hup; have hE2:=(hE.stab (hV.pe.st hs1)).mono hup; exact print31K s y (b3::bl) bp bx b3 i k pb A1 c1 l1 m1 w2 hP1 hm1 (hPV.sub hs) (hE2.stab (hPE.st hs)) (hA2.stab (hPE.st hs)) (hbe.1.same (fun a ha _=>by cases ha; exact hPE.st hs _ List.mem_cons_self)) List.mem_cons_self hi hk (mr2 k hk) (hoR k hk) hb1)) (fun A15 c15=>ab ⟨rfl,(ag (tri_slo [(1,_)] rfl (aa (aL (A:=some ⟨bp,0,none⟩) (kk:=0) cd rfl rfl (hP_ _ _ rfl rfl) rfl (bk Tryz.underlying23 zs9 rfl rfl rfl rfl rfl (by decide) (by decide) (fun b17=>aI (pb:=pb) [_,_,_] rfl rfl rfl rfl Tryz.call20 (fun w1 h1 h2 h3=>dA [[41]] _ _ pb _ _ _ _ _ w1 h2 (RdS.row .z w1 h1) (fun a ha=>by cases ha; exact bf h1 (fun x hx=>(List.mem_cons_of_mem _ (List.mem_cons_of_mem _ hx))) rfl) (by (try simp only [List.length_append,List.length_cons,List.length_nil,List.flatten_cons,List.flatten_nil] at hb ⊢); omega) (by simp)) (fun A18 c18=>ab (bS rfl (bz (J:=Option Addr × Nat) (A18,c18) rfl trivial (fun w2 hw2=>bZ (by simp [iz,cat,raw]) rfl (by simp only [iz,cat,raw]; omega) (hw2.sel [3,4] (by decide))))))))))))⟩)))⟩))⟩))⟩))⟩))⟩))⟩))⟩))⟩)))))))))))))))
theorem others1K (s:StmtX) (y:Lay) (bl:List Nat) (bp bx i:Nat) (pb:Nat) (A:Option Addr) (c:Nat) (l:List UInt8) (m:Int) (w:World) (hP:iy w pb A c l 0 m) (hm0:0≤m) (hV:PV w (prL pb A) bl) (hE:CEnv w bl bp pb bx (bL s y)) (hA:SAt bl w s y) (hi:i < s.sets.length) (hmy:maySet (s.sets.getD i SetX.zero)=true) (ho:(s.sets.getD i SetX.zero).e.ok) (hb:l.length+(js (s.sets.getD i SetX.zero)).1.length≤70368744177664):Calls Tryz.prog 61 #[.int .i64 (i:Int),.pointer (some ⟨bp,0,none⟩),.pointer (some ⟨bx,0,none⟩)] w (PrT w pb A (l++(js (s.sets.getD i SetX.zero)).1) 0 (max m ((js (s.sets.getD i SetX.zero)).2:Int))):=by
 refine az (args:=[.int .i64 (i:Int),.pointer (some ⟨bp,0,none⟩),.pointer (some ⟨bx,0,none⟩)]) (lent:=prL pb A) (H:=prD pb A c l 0 m) Tryz.func61 rfl Tryz.ntmps61 rfl (Sat.cx hP) ((show Tri _ [(0,_),(1,_),(2,_)] _ _ _ from ?_))
 have hP_:=hE.rp hV.pe
 have hX_:=hE.rx hV.pe
 obtain ⟨xC,xN,xR,xS,xI,xF,xO,hC,hN,hR_,hS,hW,hQ⟩:=id hA
 obtain ⟨ye,hci,hye⟩:=rt hS i hi
 simp only [js,cat,raw,List.length_append,List.length_cons,List.length_nil] at hb
 refine ae (bj (_) [(0,true),(1,true),(2,true),(3,true),(4,true),(5,true),(6,true),(7,false),(8,false)] [8] (by kernel_rfl) (by kernel_rfl) (fun _ h=>h) (ah rfl (aL (A:=some ⟨bp,0,none⟩) (kk:=0) cd rfl rfl (hP_ _ _ rfl rfl) rfl (ab ⟨rfl,ah rfl (aV (A:=some ⟨bx,0,none⟩) (kk:=0) ei rfl rfl (hX_ _ _ rfl rfl) rfl (ab ⟨rfl,ah rfl (aL hJ rfl rfl (hX_ _ _ rfl rfl) rfl (ab ⟨rfl,ah rfl (ai rfl rfl (ab ⟨rfl,ah rfl (aU Tryz.underlying25 pF rfl rfl rfl (hS.rd hV.pe _ _ rfl rfl) (by omega) (by omega) hS.len (by decide) (ab ⟨rfl,ah rfl (aV nq rfl rfl (hS.rd hV.pe _ _ rfl rfl) (aR hci (j:=0) rfl) (ab ⟨rfl,ah rfl (aL bB rfl rfl (hS.rd hV.pe _ _ rfl rfl) (aR hci (j:=0) rfl) (ab ⟨rfl,(aN rfl (gA (parts:=[_,_]) (fe [(s.sets.getD i SetX.zero).n,[32,61,32]]) Tryz.underlying23 zs9 rfl rfl rfl rfl (by decide) (by decide) (fun b11=>ab ⟨rfl,fun _ _ h=>Sat.dropS 1 h,(bM [8] [_] rfl rfl (aI (pb:=pb) [_] rfl rfl rfl rfl Tryz.call20 (fun w1 h1 h2 h3=>dA [(s.sets.getD i SetX.zero).n,[32,61,32]] _ _ pb _ _ _ _ _ w1 h2 (RdS.row .z w1 h1) (fun a ha=>by cases ha; exact bf h1 (fun x hx=>hx) rfl) (by (try simp only [List.length_append,List.length_cons,List.length_nil,List.flatten_cons,List.flatten_nil] at hb ⊢); omega) (by simp)) (fun A12 c12=>ab ⟨rfl,(ag (tri_slo [(0,_),(1,_),(2,_)] rfl (bj (_) [(0,true),(1,true),(2,true),(3,true),(4,true),(5,true),(6,true),(7,false)] [7] (by kernel_rfl) (by kernel_rfl) (fun _ h=>h) (ah rfl (aL (A:=some ⟨bp,0,none⟩) (kk:=0) cd rfl rfl (hP_ _ _ rfl rfl) rfl (ab ⟨rfl,ah rfl (aV (A:=some ⟨bx,0,none⟩) (kk:=0) ei rfl rfl (hX_ _ _ rfl rfl) rfl (ab ⟨rfl,ah rfl (aL hJ rfl rfl (hX_ _ _ rfl rfl) rfl (ab ⟨rfl,ah rfl (ai rfl rfl (ab ⟨rfl,ah rfl (aU Tryz.underlying25 pF rfl rfl rfl (hS.rd hV.pe _ _ rfl rfl) (by omega) (by omega) hS.len (by decide) (ab ⟨rfl,ah rfl (aV si rfl rfl (hS.rd hV.pe _ _ rfl rfl) (aR hci (j:=0) rfl) (ab ⟨rfl,ah rfl (bF bh aY rfl rfl (hS.rd hV.pe _ _ rfl rfl) (vs:=bU ((s.sets.getD i SetX.zero).e) ye) (gV (p:=[.string (B (s.sets.getD i SetX.zero).n)]) (cs:=bU ((s.sets.getD i SetX.zero).e) ye) (r:=[]) hci) rfl (by decide) ?_)⟩))⟩))⟩))⟩))⟩))⟩))))))⟩)))⟩)))⟩))⟩))⟩))⟩))⟩))⟩))⟩)))); exact ab ⟨rfl,(bM [7] [_] rfl rfl (aI (pb:=pb) [_] rfl rfl rfl rfl Tryz.call26 (fun w1 h1 h2 h3=>qX ((s.sets.getD i SetX.zero).e) (maySet_1 hmy) (ho) 1 bl ye pb _ _ _ _ _ w1 h2 (hV.sub (PSub.of h1 h3)) (hye.stab (hV.pe.st (PSub.of h1 h3))) (by omega) (by (try simp only [cat,raw,List.length_append,List.length_cons,List.length_nil,List.flatten_cons,List.flatten_nil] at hb ⊢); omega) (by (try simp only [List.length_append,List.length_cons,List.length_nil,List.flatten_cons,List.flatten_nil] at hb ⊢); omega)) (fun A20 c20=>ab ⟨rfl,(bS rfl (bz (J:=Option Addr × Nat) (A20,c20) rfl trivial (fun w2 hw2=>bZ (by simp [js,cat,raw]) rfl (by simp only [js,cat,raw]; omega) (hw2.sel [1,2] (by decide)))))⟩)))⟩
set_option maxHeartbeats 1000000 in
theorem othersK (s:StmtX) (y:Lay) (bl:List Nat) (pb:Nat) (A:Option Addr) (c:Nat) (l:List UInt8) (m:Int) (w:World) (hP:iy w pb A c l 0 m) (hm0:0≤m) (hV:PV w (prL pb A) bl) (hA:SAt bl w s y) (hk6:6≤s.k) (hmy:dh s=true) (hok:SOk s) (hb:l.length+(stmT s).1.length≤70368744177664):Calls Tryz.prog 27 #[.pointer (some ⟨pb,0,none⟩),.agg (bL s y).toArray] w (PrT w pb A (l++(stmT s).1) 0 (max m ((stmT s).2:Int))):=by
 refine az (args:=[.pointer (some ⟨pb,0,none⟩),.agg (bL s y).toArray]) (lent:=prL pb A) (H:=prD pb A c l 0 m) Tryz.func27 rfl Tryz.ntmps27 rfl (Sat.cx hP) ((show Tri _ [(0,_),(1,_)] _ _ _ from ?_))
 obtain ⟨xC,xN,xR,xS,xI,xF,xO,hC,hN,hR_,hS,hW,hQ⟩:=id hA
 refine ae (aa (cD _ rfl rfl rfl (fun b2=>cD _ rfl rfl rfl (fun b3=>triL_nilN (ae (aa (aj eJ rfl rfl (ak bR N0 rfl rfl rfl (triL_nilN (ay (ae (aa (aD rfl rfl rfl (o_assignN rfl rfl (av rfl (fun q6=>?_) (fun q6=>?_))))))))))))))))
 · skip
   rw [st_6 q6] at hb ⊢
   simp only [cat,raw,List.length_append,List.length_cons,List.length_nil] at hb
   have hmw:mayb s.wh=true:=by rw [ry q6] at hmy; simp only [Bool.and_eq_true] at hmy; exact hmy.2
   exact ae (tri_slo [(3,_),(2,_)] rfl (aa (ak cd N1 rfl rfl rfl (aj cL rfl rfl (ak bB N0 rfl rfl rfl (gA (parts:=[_,_]) (fe [[100,101,108,101,116,101,32,102,114,111,109,32],s.t]) Tryz.underlying23 zs9 rfl rfl rfl rfl (by decide) (by decide) (fun b11=>aI (pb:=pb) [_,_,_] rfl rfl rfl rfl Tryz.call20 (fun w1 h1 h2 h3=>dA [[100,101,108,101,116,101,32,102,114,111,109,32],s.t] _ _ pb _ _ _ _ _ w1 h2 (RdS.row .z w1 h1) (fun a ha=>by cases ha; exact bf h1 (fun x hx=>(List.mem_cons_of_mem _ (List.mem_cons_of_mem _ hx))) rfl) (by (try simp only [List.length_append,List.length_cons,List.length_nil,List.flatten_cons,List.flatten_nil] at hb ⊢); omega) (by simp)) (fun A12 c12=>triL_nilN (tri_slo [(3,_),(2,_)] rfl (aa (ak cd N2 rfl rfl rfl (aj gw rfl rfl (aS bh aY (.s .z) rfl rfl (vs:=bU s.wh y.W) rfl rfl (aI (pb:=pb) [_,_,_] rfl rfl rfl rfl Tryz.call60 (fun w1 h1 h2 h3=>sg s.wh y.W bl pb _ _ _ _ w1 h2 (by omega) (hV.sub (PSub.of h1 h3)) (hW.stab (hV.pe.st (PSub.of h1 h3))) hok.wh hmw (by (try simp only [List.length_append,List.length_cons,List.length_nil,List.flatten_cons,List.flatten_nil] at hb ⊢); omega)) (fun A16 c16=>ab (am (bS rfl (bz (J:=Option Addr × Nat) (A16,c16) rfl trivial (fun w2 hw2=>bZ (by simp [cat,raw]) rfl (by simp only [cat,raw]; omega) (hw2.sel [3,4] (by decide)))))))))))))))))))))
 · skip
   refine ae (tri_slo [(5,_),(3,_),(2,_)] rfl (aa (aD rfl rfl rfl (o_assignN rfl rfl (av rfl (fun q7=>?_) (fun q7=>?_))))))
   · skip
     rw [st_7 q7] at hb ⊢
     simp only [cat,raw,List.length_append,List.length_cons,List.length_nil] at hb
     rw [oW q7] at hmy
     simp only [Bool.and_eq_true] at hmy
     obtain ⟨_,hmu,hmw,hma⟩:=hmy
     have hmu:=wn hmu
     have hms:∀ i,i < s.sets.length→maySet (s.sets.getD i SetX.zero)=true:=fun i hi=>fu hma hi
     exact ae (aa (ak cd N1 rfl rfl rfl (aj cL rfl rfl (ak bB N0 rfl rfl rfl (gA (parts:=[_,_,_]) (fe [[117,112,100,97,116,101,32],s.t,[32,115,101,116,32]]) Tryz.underlying23 zs9 rfl rfl rfl rfl (by decide) (by decide) (fun b22=>aI (pb:=pb) [_,_,_] rfl rfl rfl rfl Tryz.call20 (fun w1 h1 h2 h3=>dA [[117,112,100,97,116,101,32],s.t,[32,115,101,116,32]] _ _ pb _ _ _ _ _ w1 h2 (RdS.row .z w1 h1) (fun a ha=>by cases ha; exact bf h1 (fun x hx=>(List.mem_cons_of_mem _ (List.mem_cons_of_mem _ hx))) rfl) (by (try simp only [List.length_append,List.length_cons,List.length_nil,List.flatten_cons,List.flatten_nil] at hb ⊢); omega) (by simp)) (fun A23 c23=>triL_nilN (ae (tri_slo [(3,_),(2,_)] rfl (aa (ak cd N2 rfl rfl rfl (aj ei rfl rfl (ak hJ N1 rfl rfl rfl (aX Tryz.underlying25 rfl rfl (bD rfl rfl rfl (aI (pb:=pb) [_,_,_] rfl rfl rfl rfl Tryz.call21 (fun w1 h1 h2 h3=>jj (fun i=>js (s.sets.getD i SetX.zero)) s.sets.length 61 [] [.pointer (some ⟨b2,0,none⟩),.pointer (some ⟨b3,0,none⟩)] pb _ _ _ _ w1 h2 (by omega) (by omega) (by (try simp only [List.length_append,List.length_cons,List.length_nil,List.flatten_cons,List.flatten_nil] at hb ⊢); omega) Tryz.call61 (fun i A1 c1 l1 m1 w2 hi hs hP1 hm1 hb1=>by have hce:=cenv (F:=[_,_,_]) hV.pe h1 (.s (.s .z)) (.s .z); have hPV:PV w1 _ _:=⟨hce.1,(hV.lv.chgL h1.chg (fun k hk=>(hV.pe.g k hk).2))⟩; have hA2:=(hA.stab (hV.pe.st (PSub.of h1 h3))).mono (bl':=b2::b3::bl) (fun k hk=>List.mem_cons_of_mem _ (List.mem_cons_of_mem _ hk)); exact others1K s y (b2::b3::bl) b2 b3 i pb A1 c1 l1 m1 w2 hP1 hm1 (hPV.sub hs) (hce.2.stab (hce.1.st hs)) (hA2.stab (hce.1.st hs)) hi (hms i hi) (hok.sets i hi) hb1)) (fun A29 c29=>triL_nilN (tri_slo [(3,_),(2,_)] rfl (aa (ak cd N2 rfl rfl rfl (aj gw rfl rfl (aS bh aY (.s .z) rfl rfl (vs:=bU s.wh y.W) rfl rfl (aI (pb:=pb) [_,_,_] rfl rfl rfl rfl Tryz.call60 (fun w1 h1 h2 h3=>sg s.wh y.W bl pb _ _ _ _ w1 h2 (by omega) (hV.sub (PSub.of h1 h3)) (hW.stab (hV.pe.st (PSub.of h1 h3))) hok.wh hmw (by (try simp only [List.length_append,List.length_cons,List.length_nil,List.flatten_cons,List.flatten_nil] at hb ⊢); omega)) (fun A33 c33=>ab (am (bS rfl (bz (J:=Option Addr × Nat) (A33,c33) rfl trivial (fun w2 hw2=>bZ (by simp [cat,raw]) rfl (by simp only [cat,raw]; omega) (hw2.sel [3,4] (by decide))))))))))))))))))))))))))))))
   · skip
     refine ae (aa (aD rfl rfl rfl (o_assignN rfl rfl (av rfl (fun q8=>?_) (fun q8=>?_)))))
     · skip
       rw [st_8 q8] at hb ⊢
       exact tri_slo [(3,_),(2,_)] rfl (aa (ak cd N1 rfl rfl rfl (aj kn rfl rfl (aS pG nQ .z rfl rfl (vs:=eQ s.q y.q) rfl rfl (aI (pb:=pb) [_,_] rfl rfl rfl rfl Tryz.call62 (fun w1 h1 h2 h3=>cP s.q y.q bl pb _ _ _ _ w1 h2 (by omega) (hV.sub (PSub.of h1 h3)) (hA.q.stab (hV.pe.st (PSub.of h1 h3))) (by rw [rz q8] at hmy; exact hmy) hok.q (by omega)) (fun A39 c39=>ab (am (bS rfl (bz (J:=Option Addr × Nat) (A39,c39) rfl trivial (fun w2 hw2=>bZ (by rfl) rfl (by rfl) (hw2.sel [2,3] (by decide))))))))))))
     · skip
       refine ae (tri_slo [(5,_),(2,_)] rfl (aa (aD rfl rfl rfl (o_assignN rfl rfl (av rfl (fun q9=>?_) (fun q9=>?_))))))
       · skip
         rw [st_9 q9] at hb ⊢
         simp only [raw,List.length_cons,List.length_nil] at hb
         exact aa (ak cd N1 rfl rfl rfl (bk Tryz.underlying23 zs9 rfl rfl rfl rfl rfl (by decide) (by decide) (fun b43=>aI (pb:=pb) [_,_,_] rfl rfl rfl rfl Tryz.call20 (fun w1 h1 h2 h3=>dA [[98,101,103,105,110]] _ _ pb _ _ _ _ _ w1 h2 (RdS.row .z w1 h1) (fun a ha=>by cases ha; exact bf h1 (fun x hx=>(List.mem_cons_of_mem _ (List.mem_cons_of_mem _ hx))) rfl) (by (try simp only [List.length_append,List.length_cons,List.length_nil,List.flatten_cons,List.flatten_nil] at hb ⊢); omega) (by simp)) (fun A44 c44=>ab (am (bS rfl (bz (J:=Option Addr × Nat) (A44,c44) rfl trivial (fun w2 hw2=>bZ (by simp [raw]) rfl (by simp only [raw]; omega) (hw2.sel [3,4] (by decide))))))))))
       · skip
         refine ae (aa (aD rfl rfl rfl (o_assignN rfl rfl (av rfl (fun q10=>?_) (fun q10=>?_)))))
         · skip
           rw [st_10 q10] at hb ⊢
           simp only [raw,List.length_cons,List.length_nil] at hb
           exact tri_slo [(2,_)] rfl (aa (ak cd N1 rfl rfl rfl (bk Tryz.underlying23 zs9 rfl rfl rfl rfl rfl (by decide) (by decide) (fun b48=>aI (pb:=pb) [_,_,_] rfl rfl rfl rfl Tryz.call20 (fun w1 h1 h2 h3=>dA [[99,111,109,109,105,116]] _ _ pb _ _ _ _ _ w1 h2 (RdS.row .z w1 h1) (fun a ha=>by cases ha; exact bf h1 (fun x hx=>(List.mem_cons_of_mem _ (List.mem_cons_of_mem _ hx))) rfl) (by (try simp only [List.length_append,List.length_cons,List.length_nil,List.flatten_cons,List.flatten_nil] at hb ⊢); omega) (by simp)) (fun A49 c49=>ab (am (bS rfl (bz (J:=Option Addr × Nat) (A49,c49) rfl trivial (fun w2 hw2=>bZ (by simp [raw]) rfl (by simp only [raw]; omega) (hw2.sel [3,4] (by decide)))))))))))
         · skip
           refine ae (tri_slo [(5,_),(2,_)] rfl (aa (aD rfl rfl rfl (o_assignN rfl rfl (av rfl (fun q11=>?_) (fun q11=>?_))))))
           · skip
             rw [st_11 q11] at hb ⊢
             simp only [raw,List.length_cons,List.length_nil] at hb
             exact aa (ak cd N1 rfl rfl rfl (bk Tryz.underlying23 zs9 rfl rfl rfl rfl rfl (by decide) (by decide) (fun b53=>aI (pb:=pb) [_,_,_] rfl rfl rfl rfl Tryz.call20 (fun w1 h1 h2 h3=>dA [[114,111,108,108,98,97,99,107]] _ _ pb _ _ _ _ _ w1 h2 (RdS.row .z w1 h1) (fun a ha=>by cases ha; exact bf h1 (fun x hx=>(List.mem_cons_of_mem _ (List.mem_cons_of_mem _ hx))) rfl) (by (try simp only [List.length_append,List.length_cons,List.length_nil,List.flatten_cons,List.flatten_nil] at hb ⊢); omega) (by simp)) (fun A54 c54=>ab (am (bS rfl (bz (J:=Option Addr × Nat) (A54,c54) rfl trivial (fun w2 hw2=>bZ (by simp [raw]) rfl (by simp only [raw]; omega) (hw2.sel [3,4] (by decide))))))))))
           · skip
             exfalso
             rw [oX (by omega)] at hmy
             have:=of_decide_eq_true hmy
             omega
end Go.Proofs.YtjbpkcbefmpfgaaGreatDoor
namespace Go.Proofs.YtjbpkcbefmpfgaaGreatDoor
open Go.WK Go.RowKit 
set_option maxHeartbeats 1000000 in
theorem mayQK (q:QryX) (y:QLay) (bl:List Nat) (w:World) (hA:QAt bl w q y) (hbl:∀ k ∈ bl,k < w.heap.size) (hok:QOk q) (hbd:QBd q):Calls Tryz.prog 34 #[.agg (eQ q y).toArray] w (cG w (.bool (jI q))):=by
 refine az (args:=[.agg (eQ q y).toArray]) (lent:=[]) (H:=[]) Tryz.func34 rfl Tryz.ntmps34 rfl (Sat.start _ _ _ _) ((show Tri _ [(0,_)] _ _ _ from ?_))
 obtain ⟨xI,xF,xO,hI,hF,hW,hO⟩:=id hA
 have n1:q.items.length≤70368744177664:=hbd.ni
 have n2:q.from_.length≤70368744177664:=hbd.nf
 have n3:q.ord.length≤70368744177664:=hbd.no
 refine ae (aa (cD _ rfl rfl rfl (fun b1=>o_assignN rfl rfl (ae (aa (aj km rfl rfl (aS bh aY .z rfl rfl (vs:=bU q.wh y.V) rfl rfl (aF (first:=[]) (cap:=[]) rfl rfl rfl Tryz.call33 (fun w1 h1=>vu q.wh y.V bl w1 (hW.stab (fun k hk=>h1.chg.block k (hbl k hk) (by simp))) hok.wh hbd.wh (fun k hk=>Nat.lt_of_lt_of_le (hbl k hk) h1.chg.size)) (ai rfl rfl ?_)))))))))
 refine' aJ [_,_,_,_] [(1,_)] (dj:=13) (dr:=17) rfl rfl (fun g1=>?_) ⟨_,rfl,rfl,rfl,(.cons rfl (.nil _))⟩ rfl ?_
 rotate_left
 · skip
   exact aj cZ rfl rfl (ak eI N0 rfl rfl rfl (aX Tryz.underlying32 rfl rfl (lH rfl rfl rfl (ab (Piece.mk rfl rfl (.cons rfl (.nil _)) (fun _ h=>h))))))
 refine ai rfl rfl ?_
 refine' aJ [_,_,_,_] [(1,_)] (dj:=19) (dr:=23) rfl rfl (fun g2=>?_) ⟨_,rfl,rfl,rfl,(.cons rfl (.nil _))⟩ rfl ?_
 rotate_left
 · skip
   exact aj fB rfl rfl (ak ji N0 rfl rfl rfl (aX Tryz.underlying33 rfl rfl (lH rfl rfl rfl (ab (Piece.mk rfl rfl (.cons rfl (.nil _)) (fun _ h=>h))))))
 refine ai rfl rfl ?_
 refine' aJ [_,_,_] [(1,_)] (dj:=25) (dr:=28) rfl rfl (fun g3=>?_) ⟨_,rfl,rfl,rfl,(.cons rfl (.nil _))⟩ rfl ?_
 rotate_left
 · skip
   exact aj le rfl rfl (ak bR N0 rfl rfl rfl (mh rfl rfl rfl (ab (Piece.mk rfl rfl (.cons rfl (.nil _)) (fun _ h=>h)))))
 refine ai rfl rfl ?_
 refine' aJ [_,_,_,_,_,_,_] [(1,_)] (dj:=30) (dr:=37) rfl rfl (fun g4=>?_) ⟨_,rfl,rfl,rfl,(.cons rfl (.nil _))⟩ rfl ?_
 rotate_left
 · skip
   refine aj me rfl rfl (ak ij N0 rfl rfl rfl (ai rfl rfl ?_))
   refine' bv [_,_,_] [(30,_),(1,_)] (dj:=33) (dr:=36) rfl rfl (fun g5=>?_) ⟨_,rfl,rfl,rfl,(.cons rfl (.cons rfl (.nil _)))⟩ rfl ?_
   rotate_left
   · skip
     exact aj le rfl rfl (ak bR N0 rfl rfl rfl (aD rfl rfl rfl (ab (Piece.mk rfl rfl (.cons rfl (.cons rfl (.nil _))) (fun _ h=>h)))))
   exact ab (Piece.mk rfl rfl (.cons rfl (.nil _)) (fun _ h=>h))
 refine o_assignN rfl rfl (cz (ι:=Nat) (fun i=>[(1,.pointer (some ⟨b1,0,none⟩)),(3,.bool (mqA q && mqB q))]) (fun i=>[box b1 35 (eQ q y)]) (fun i=>True) ?_ (fun i hj=>?_))
 · skip
   refine ae (aa (aj mc rfl rfl (ak ij N0 rfl rfl rfl (triL_nilN (aG rfl (fun q0=>?_) (fun q0=>?_))))))
   · skip
     refine aa (ai rfl rfl (ai rfl rfl ?_))
     refine' aJ [_,_,_,_] [(3,_),(1,_)] (dj:=42) (dr:=46) rfl rfl (fun g6=>?_) ⟨_,rfl,rfl,rfl,(.cons rfl (.cons rfl (.nil _)))⟩ rfl ?_
     rotate_left
     · skip
       exact aj dO rfl rfl (ak gu N0 rfl rfl rfl (aX Tryz.underlying31 rfl rfl (aD rfl rfl rfl (ab (Piece.mk rfl rfl (.cons rfl (.cons rfl (.nil _))) (fun _ h=>h))))))
     exact o_assignN rfl rfl (⟨0,(.cons rfl (.cons (congrArg (fun b=>some (Value.bool b)) (by unfold mqA mqB; rw [if_pos q0])) (.nil _))),fun _ h=>h,trivial⟩)
   · skip
     refine aa (ai rfl rfl (ai rfl rfl ?_))
     refine' aJ [_,_,_,_] [(3,_),(1,_)] (dj:=49) (dr:=53) rfl rfl (fun g7=>?_) ⟨_,rfl,rfl,rfl,(.cons rfl (.cons rfl (.nil _)))⟩ rfl ?_
     rotate_left
     · skip
       exact aj dO rfl rfl (ak gu N0 rfl rfl rfl (aX Tryz.underlying31 rfl rfl (aF (first:=[]) (cap:=[]) rfl rfl rfl Tryz.call31 (fun w1 h1=>tX q.items.length 16 w1) (ab (Piece.mk rfl rfl (.cons rfl (.cons rfl (.nil _))) (fun _ h=>h))))))
     exact o_assignN rfl rfl (⟨0,(.cons rfl (.cons (congrArg (fun b=>some (Value.bool b)) (by unfold mqA mqB; rw [if_neg (cB q0)])) (.nil _))),fun _ h=>h,trivial⟩)
 refine ae (ae (aa (aj dO rfl rfl (ak gu N0 rfl rfl rfl (aX Tryz.underlying31 rfl rfl (ai rfl rfl (triL_nilN (ay (bI (ι:=Nat) (F:=fun i=>[(1,.pointer (some ⟨b1,0,none⟩)),(3,.bool ((mqA q && mqB q) && ck (fun i=>mayI (q.items.getD i ItemX.zero)) i)),(56,.slice y.I.A q.items.length y.I.k),(57,.int .i64 (q.items.length:Int)),(58,.int .i64 (i:Int))]) (HH:=fun i=>[box b1 35 (eQ q y)]) (Pu:=fun i=>i≤q.items.length) (μ:=fun i=>q.items.length - i) (0) (.cons rfl (.cons (congrArg (fun b=>some (Value.bool b)) (by simp [ck])) (.cons rfl (.cons rfl (.cons rfl (.nil _)))))) (fun _ h=>h) (Nat.zero_le _) (fun i hi=>ae (aa (cR rfl rfl rfl (triL_nilN (ae (av rfl (fun q1=>?_) (fun q1=>?_))))))))))))))))
 · skip
   have hil:i < q.items.length:=by omega
   refine ao (ag (ae (ay (ae ?_))))
   obtain ⟨ye,hci,hye⟩:=nY hI i hil
   refine aa (aU Tryz.underlying31 mH rfl rfl rfl (hI.rd0 _ _ rfl rfl) (by omega) (by omega) hI.len (by decide) (bF agg53 mH rfl rfl (hI.rd0 _ _ rfl rfl) (vs:=bU (q.items.getD i ItemX.zero).e ye++[Value.string (B (q.items.getD i ItemX.zero).s)]) hci rfl (by decide) (aQ _ rfl zero53 rfl (fun b5=>aC mH N0 rfl rfl rfl rfl rfl (Nat.le_of_ble_eq_true rfl) rfl (triL_nilN (aa (ai rfl rfl (ai rfl rfl ?_))))))))
   refine' aJ [_,_,_] [(5,_),(1,_),(3,_),(56,_),(57,_),(58,_)] (dj:=63) (dr:=66) rfl rfl (fun g8=>?_) ⟨_,rfl,rfl,rfl,(.cons rfl (.cons rfl (.cons rfl (.cons rfl (.cons rfl (.cons rfl (.nil _)))))))⟩ rfl ?_
   rotate_left
   · skip
     exact aj sh rfl rfl (aS bh aY .z rfl rfl (vs:=bU (q.items.getD i ItemX.zero).e ye) rfl rfl (aF (first:=[]) (cap:=[]) rfl rfl rfl Tryz.call32 (fun w1 h1=>qW (q.items.getD i ItemX.zero).e bl ye w1 (hye.stab (fun k hk=>h1.chg.block k (hbl k hk) (by simp))) (hok.items i hil) (hbd.items i hil).1) (ab (Piece.mk rfl rfl (.cons rfl (.cons rfl (.cons rfl (.cons rfl (.cons rfl (.cons rfl (.nil _))))))) (fun _ h=>h)))))
   refine ai rfl rfl ?_
   refine' aJ [_,_,_,_,_,_,_,_] [(1,_),(3,_),(56,_),(57,_),(58,_)] (dj:=68) (dr:=76) rfl rfl (fun g9=>?_) ⟨_,rfl,rfl,rfl,(.cons rfl (.cons rfl (.cons rfl (.cons rfl (.cons rfl (.nil _))))))⟩ rfl ?_
   rotate_left
   · skip
     refine aj lc rfl rfl (ak bB N0 rfl rfl rfl (bE rfl rfl rfl (ai rfl rfl ?_)))
     refine' bv [_,_,_] [(68,_),(1,_),(3,_),(56,_),(57,_),(58,_)] (dj:=72) (dr:=75) rfl rfl (fun g10=>?_) ⟨_,rfl,rfl,rfl,(.cons rfl (.cons rfl (.cons rfl (.cons rfl (.cons rfl (.cons rfl (.nil _)))))))⟩ rfl ?_
     rotate_left
     · skip
       exact aj lc rfl rfl (ak bB N0 rfl rfl rfl (aF (first:=[]) (cap:=[]) rfl rfl rfl Tryz.call30 (fun w1 h1=>eK (q.items.getD i ItemX.zero).s w1 (hbd.items i hil).2) (ab (Piece.mk rfl rfl (.cons rfl (.cons rfl (.cons rfl (.cons rfl (.cons rfl (.cons rfl (.nil _))))))) (fun _ h=>h)))))
     exact ab (Piece.mk rfl rfl (.cons rfl (.cons rfl (.cons rfl (.cons rfl (.cons rfl (.nil _)))))) (fun _ h=>h))
   exact aO rfl rfl (ab (am (ag (aa (bJ rfl rfl rfl (by omega) (ai rfl rfl (triL_nilN (⟨i+1,(.cons rfl (.cons (congrArg (fun b=>some (Value.bool b)) (by exact xP (mqA q && mqB q) (fun i=>q.items.getD i ItemX.zero) i)) (.cons rfl (.cons rfl (.cons rfl (.nil _)))))),(fun w2 hw2=>hw2.tail),by omega,by omega⟩))))))))
 · skip
   have hie:i=q.items.length:=by omega
   rw [hie]
   refine bu (ax (ax (aP (ag (ae (ae (tri_slo [(1,_),(3,_)] rfl (aa (aj cZ rfl rfl (ak eI N0 rfl rfl rfl (aX Tryz.underlying32 rfl rfl (ai rfl rfl (triL_nilN (ay (bI (ι:=Nat) (F:=fun i=>[(1,.pointer (some ⟨b1,0,none⟩)),(3,.bool (((mqA q && mqB q) && ck (fun i=>mayI (q.items.getD i ItemX.zero)) q.items.length) && ck (fun i=>mayF i (q.from_.getD i SrcX.zero)) i)),(80,.slice y.F.A q.from_.length y.F.k),(81,.int .i64 (q.from_.length:Int)),(82,.int .i64 (i:Int))]) (HH:=fun i=>[box b1 35 (eQ q y)]) (Pu:=fun i=>i≤q.from_.length) (μ:=fun i=>q.from_.length - i) (0) (.cons rfl (.cons (congrArg (fun b=>some (Value.bool b)) (by simp [ck])) (.cons rfl (.cons rfl (.cons rfl (.nil _)))))) (fun _ h=>h) (Nat.zero_le _) (fun i hi=>ae (aa (cR rfl rfl rfl (triL_nilN (ae (av rfl (fun q2=>?_) (fun q2=>?_))))))))))))))))))))))
   · skip
     have hil:i < q.from_.length:=by omega
     refine ao (ag (ae (ay (ae ?_))))
     obtain ⟨ye,hci,hye⟩:=rs hF i hil
     refine aa (ai rfl rfl (aU Tryz.underlying32 gH rfl rfl rfl (hF.rd0 _ _ rfl rfl) (by omega) (by omega) hF.len (by decide) (bF pB gH rfl rfl (hF.rd0 _ _ rfl rfl) (vs:=Value.string (B (q.from_.getD i SrcX.zero).t)::Value.string (B (q.from_.getD i SrcX.zero).s)::bU (q.from_.getD i SrcX.zero).e ye) hci rfl (by decide) (aQ _ rfl pA rfl (fun b7=>aO rfl rfl (aC gH N0 rfl rfl rfl rfl rfl (Nat.le_of_ble_eq_true rfl) rfl (triL_nilN (tri_slo [(6,_),(7,_),(1,_),(3,_),(80,_),(81,_),(82,_)] rfl (aa (ai rfl rfl (ai rfl rfl ?_)))))))))))
     refine' aJ [_,_,_] [(6,_),(7,_),(1,_),(3,_),(80,_),(81,_),(82,_)] (dj:=88) (dr:=91) rfl rfl (fun g11=>?_) ⟨_,rfl,rfl,rfl,(.cons rfl (.cons rfl (.cons rfl (.cons rfl (.cons rfl (.cons rfl (.cons rfl (.nil _))))))))⟩ rfl ?_
     rotate_left
     · skip
       exact aj lg rfl rfl (ak bB N0 rfl rfl rfl (aF (first:=[]) (cap:=[]) rfl rfl rfl Tryz.call30 (fun w1 h1=>eK (q.from_.getD i SrcX.zero).t w1 (hbd.from_ i hil).2.1) (ab (Piece.mk rfl rfl (.cons rfl (.cons rfl (.cons rfl (.cons rfl (.cons rfl (.cons rfl (.cons rfl (.nil _)))))))) (fun _ h=>h)))))
     refine ai rfl rfl ?_
     refine' aJ [_,_,_,_,_,_,_,_] [(6,_),(7,_),(1,_),(3,_),(80,_),(81,_),(82,_)] (dj:=93) (dr:=101) rfl rfl (fun g12=>?_) ⟨_,rfl,rfl,rfl,(.cons rfl (.cons rfl (.cons rfl (.cons rfl (.cons rfl (.cons rfl (.cons rfl (.nil _))))))))⟩ rfl ?_
     rotate_left
     · skip
       refine aj la rfl rfl (ak bB N0 rfl rfl rfl (bE rfl rfl rfl (ai rfl rfl ?_)))
       refine' bv [_,_,_] [(93,_),(6,_),(7,_),(1,_),(3,_),(80,_),(81,_),(82,_)] (dj:=97) (dr:=100) rfl rfl (fun g13=>?_) ⟨_,rfl,rfl,rfl,(.cons rfl (.cons rfl (.cons rfl (.cons rfl (.cons rfl (.cons rfl (.cons rfl (.cons rfl (.nil _)))))))))⟩ rfl ?_
       rotate_left
       · skip
         exact aj la rfl rfl (ak bB N0 rfl rfl rfl (aF (first:=[]) (cap:=[]) rfl rfl rfl Tryz.call30 (fun w1 h1=>eK (q.from_.getD i SrcX.zero).s w1 (hbd.from_ i hil).2.2) (ab (Piece.mk rfl rfl (.cons rfl (.cons rfl (.cons rfl (.cons rfl (.cons rfl (.cons rfl (.cons rfl (.cons rfl (.nil _))))))))) (fun _ h=>h)))))
       exact ab (Piece.mk rfl rfl (.cons rfl (.cons rfl (.cons rfl (.cons rfl (.cons rfl (.cons rfl (.cons rfl (.nil _)))))))) (fun _ h=>h))
     refine ai rfl rfl ?_
     refine' aJ [_,_,_,_,_,_,_,_,_,_,_,_,_,_,_,_] [(1,_),(3,_),(80,_),(81,_),(82,_)] (dj:=103) (dr:=119) rfl rfl (fun g14=>?_) ⟨_,rfl,rfl,rfl,(.cons rfl (.cons rfl (.cons rfl (.cons rfl (.cons rfl (.nil _))))))⟩ rfl ?_
     rotate_left
     · skip
       refine ai rfl rfl (aD rfl rfl rfl (ai rfl rfl ?_))
       refine' aJ [_,_,_] [(103,_),(6,_),(7,_),(1,_),(3,_),(80,_),(81,_),(82,_)] (dj:=106) (dr:=109) rfl rfl (fun g15=>?_) ⟨_,rfl,rfl,rfl,(.cons rfl (.cons rfl (.cons rfl (.cons rfl (.cons rfl (.cons rfl (.cons rfl (.cons rfl (.nil _)))))))))⟩ rfl ?_
       rotate_left
       · skip
         exact aj nk rfl rfl (aS bh aY .z rfl rfl (vs:=bU (q.from_.getD i SrcX.zero).e ye) rfl rfl (aF (first:=[]) (cap:=[]) rfl rfl rfl Tryz.call72 (fun w1 h1=>sf (q.from_.getD i SrcX.zero).e ye w1) (ab (Piece.mk rfl rfl (.cons rfl (.cons rfl (.cons rfl (.cons rfl (.cons rfl (.cons rfl (.cons rfl (.cons rfl (.nil _))))))))) (fun _ h=>h)))))
       refine ai rfl rfl ?_
       refine' bv [_,_,_,_,_,_,_] [(103,_),(1,_),(3,_),(80,_),(81,_),(82,_)] (dj:=111) (dr:=118) rfl rfl (fun g16=>?_) ⟨_,rfl,rfl,rfl,(.cons rfl (.cons rfl (.cons rfl (.cons rfl (.cons rfl (.cons rfl (.nil _)))))))⟩ rfl ?_
       rotate_left
       · skip
         refine ai rfl rfl (i8 rfl rfl rfl (ai rfl rfl ?_))
         refine' aJ [_,_,_] [(111,_),(103,_),(1,_),(3,_),(80,_),(81,_),(82,_)] (dj:=114) (dr:=117) rfl rfl (fun g17=>?_) ⟨_,rfl,rfl,rfl,(.cons rfl (.cons rfl (.cons rfl (.cons rfl (.cons rfl (.cons rfl (.cons rfl (.nil _))))))))⟩ rfl ?_
         rotate_left
         · skip
           exact aj nk rfl rfl (aS bh aY .z rfl rfl (vs:=bU (q.from_.getD i SrcX.zero).e ye) rfl rfl (aF (first:=[]) (cap:=[]) rfl rfl rfl Tryz.call32 (fun w1 h1=>qW (q.from_.getD i SrcX.zero).e bl ye w1 (hye.stab (fun k hk=>h1.chg.block k (hbl k hk) (by simp))) (hok.from_ i hil) (hbd.from_ i hil).1) (ab (Piece.mk rfl rfl (.cons rfl (.cons rfl (.cons rfl (.cons rfl (.cons rfl (.cons rfl (.cons rfl (.nil _)))))))) (fun _ h=>h)))))
         exact ab (Piece.mk rfl rfl (.cons rfl (.cons rfl (.cons rfl (.cons rfl (.cons rfl (.cons rfl (.nil _))))))) (fun _ h=>h))
       exact ab (Piece.mk rfl rfl (.cons rfl (.cons rfl (.cons rfl (.cons rfl (.cons rfl (.nil _)))))) (fun _ h=>h))
     exact aO rfl rfl (ab (am (ag (aa (bJ rfl rfl rfl (by omega) (ai rfl rfl (triL_nilN (⟨i+1,(.cons rfl (.cons (congrArg (fun b=>some (Value.bool b)) (by exact xQ ((mqA q && mqB q) && ck (fun i=>mayI (q.items.getD i ItemX.zero)) q.items.length) (fun i=>q.from_.getD i SrcX.zero) i)) (.cons rfl (.cons rfl (.cons rfl (.nil _)))))),(fun w2 hw2=>hw2.tail),by omega,by omega⟩))))))))
   · skip
     have hie:i=q.from_.length:=by omega
     rw [hie]
     refine bu (ax (ax (aP (ag (ae (ae (tri_slo [(1,_),(3,_)] rfl (aa (aj fB rfl rfl (ak ji N0 rfl rfl rfl (aX Tryz.underlying33 rfl rfl (ai rfl rfl (triL_nilN (ay (bI (ι:=Nat) (F:=fun i=>[(3,.bool ((((mqA q && mqB q) && ck (fun i=>mayI (q.items.getD i ItemX.zero)) q.items.length) && ck (fun i=>mayF i (q.from_.getD i SrcX.zero)) q.from_.length) && ck (fun i=>nameOk (q.ord.getD i OrdX.zero).n) i)),(123,.slice y.O.A q.ord.length y.O.k),(124,.int .i64 (q.ord.length:Int)),(125,.int .i64 (i:Int))]) (HH:=fun i=>[box b1 35 (eQ q y)]) (Pu:=fun i=>i≤q.ord.length) (μ:=fun i=>q.ord.length - i) (0) (.cons (congrArg (fun b=>some (Value.bool b)) (by simp [ck])) (.cons rfl (.cons rfl (.cons rfl (.nil _))))) (fun _ h=>h) (Nat.zero_le _) (fun i hi=>ae (aa (cR rfl rfl rfl (triL_nilN (ae (av rfl (fun q3=>?_) (fun q3=>?_))))))))))))))))))))))
     · skip
       have hil:i < q.ord.length:=by omega
       refine ao (ag (ae (ay (ae ?_))))
       have hci:=rv hO i hil
       refine aa (aU Tryz.underlying33 ld rfl rfl rfl (hO.rd0 _ _ rfl rfl) (by omega) (by omega) hO.len (by decide) (bF r5 ld rfl rfl (hO.rd0 _ _ rfl rfl) (vs:=[Value.string (B (q.ord.getD i OrdX.zero).n),Value.bool (q.ord.getD i OrdX.zero).b]) hci rfl (by decide) (aQ _ rfl wO rfl (fun b9=>aC ld N0 rfl rfl rfl rfl rfl (Nat.le_of_ble_eq_true rfl) rfl (triL_nilN (aa (ai rfl rfl (ai rfl rfl ?_))))))))
       refine' aJ [_,_,_] [(3,_),(123,_),(124,_),(125,_)] (dj:=130) (dr:=133) rfl rfl (fun g18=>?_) ⟨_,rfl,rfl,rfl,(.cons rfl (.cons rfl (.cons rfl (.cons rfl (.nil _)))))⟩ rfl ?_
       rotate_left
       · skip
         exact aj w6 rfl rfl (ak bB N0 rfl rfl rfl (aF (first:=[]) (cap:=[]) rfl rfl rfl Tryz.call30 (fun w1 h1=>eK (q.ord.getD i OrdX.zero).n w1 (hbd.ord i hil)) (ab (Piece.mk rfl rfl (.cons rfl (.cons rfl (.cons rfl (.cons rfl (.nil _))))) (fun _ h=>h)))))
       exact aO rfl rfl (ab (am (ag (aa (bJ rfl rfl rfl (by omega) (ai rfl rfl (triL_nilN (⟨i+1,(.cons (congrArg (fun b=>some (Value.bool b)) (by exact qx (((mqA q && mqB q) && ck (fun i=>mayI (q.items.getD i ItemX.zero)) q.items.length) && ck (fun i=>mayF i (q.from_.getD i SrcX.zero)) q.from_.length) (fun i=>(q.ord.getD i OrdX.zero).n) i)) (.cons rfl (.cons rfl (.cons rfl (.nil _))))),(fun w2 hw2=>hw2.tail),by omega,by omega⟩))))))))
     · skip
       have hie:i=q.ord.length:=by omega
       rw [hie]
       refine bu (ax (ax (aP (ag (ae (tri_slo [(3,_)] rfl (aa (ai rfl rfl (o_assignN rfl rfl (aq (ba rfl rfl ?_))))))))))); exact fun w1 hw1=>⟨congrArg (fun b=>Ending.returned (.bool b)) (by exact mayQ_eq q),hw1.chg⟩
end Go.Proofs.YtjbpkcbefmpfgaaGreatDoor
namespace Go.Proofs.YtjbpkcbefmpfgaaGreatDoor
open Go.WK Go.RowKit 
theorem sj:(Tryz.prog.info? 35).map (·.zero)=some (some (.agg #[.bool false,.bool false,.slice none 0 0,.slice none 0 0,.int .i64 0,.int .i64 0,.int .i64 0,.string .empty,.string .empty,.string .empty,.int .i64 0,.slice none 0 0,.slice none 0 0,.bool false,.int .i64 0])):=by kernel_rfl
theorem gI:bo Tryz.prog 37 2=some 2:=by kernel_rfl
theorem mg:bo Tryz.prog 37 5=some 5:=by kernel_rfl
theorem sz22:szB Tryz.prog 22=some 1:=by kernel_rfl
theorem sz23:szB Tryz.prog 23=some 1:=by kernel_rfl
theorem sz24:szB Tryz.prog 24=some 1:=by kernel_rfl
theorem sz25:szB Tryz.prog 25=some 1:=by kernel_rfl
theorem agg82:cF Tryz.prog 82=some true:=by kernel_rfl
theorem yM (x0:Int):Tryz.prog.built 37 [(0,.int .i64 x0)]=some ([.int .i64 x0,.string .empty,.string .empty,.slice none 0 0,.slice none 0 0,.bool false,.slice none 0 0,.slice none 0 0,.int .i64 0,.int .i64 0,.int .i64 0,.string .empty,.string .empty,.string .empty,.int .i64 0,.slice none 0 0,.bool false,.bool false,.slice none 0 0,.slice none 0 0,.int .i64 0,.int .i64 0,.int .i64 0,.string .empty,.string .empty,.string .empty,.int .i64 0,.slice none 0 0,.slice none 0 0,.bool false,.int .i64 0]:List Value).toArray:=by kernel_rfl
theorem zero82:(Tryz.prog.info? 82).map (·.zero)=some (some (.agg #[.string .empty,.int .i64 0,.int .i64 0,.int .i64 0,.string .empty,.string .empty,.string .empty,.int .i64 0,.slice none 0 0])):=by kernel_rfl
set_option maxRecDepth 100000 in
set_option maxHeartbeats 1000000 in
theorem restK (s t:StmtX) (y z:Lay) (w:World)  : Calls Tryz.prog 35 #[.agg (bL s y).toArray,.agg (bL t z).toArray] w (cG w (.bool (restB s t))):=by
 refine az (args:=[.agg (bL s y).toArray,.agg (bL t z).toArray]) (lent:=[]) (H:=[]) Tryz.func35 rfl Tryz.ntmps35 rfl (Sat.start _ _ _ _) ((show Tri _ [(0,_),(1,_)] _ _ _ from ae (aa (cD _ rfl rfl rfl (fun b2=>cD _ rfl rfl rfl (fun b3=>o_assignN rfl rfl (ae (Tri.mono (Q:=fun e fs' H'=>e=.normal∧∃ b5 b6:Nat,Sub fs' [(2,.pointer (some ⟨b2,0,none⟩)),(3,.pointer (some ⟨b3,0,none⟩)),(5,.pointer (some ⟨b5,0,none⟩)),(6,.pointer (some ⟨b6,0,none⟩))]∧∀ w2,Sat ⟨Tryz.prog,161,[],w,[]⟩ H' w2→Sat ⟨Tryz.prog,161,[],w,[]⟩ [box b5 35 (eQ s.q y.q),box b6 35 (eQ t.q z.q),box b3 37 (bL t z),box b2 37 (bL s y)] w2) ?_ (fun e fs1 H1 hq=>?_)))))))))
 · skip
   refine oY [box b3 37 (bL t z),box b2 37 (bL s y)] (.fix 0 (.fix 1 (.fix 2 (.fix 3 (.two 4 5 (.op 5 (.op 6 (.op 7 .nil))) (.op 4 (.op 6 (.op 7 .nil)))))))) (by kernel_rfl) (by kernel_rfl) (fun _ h=>h) (gW rfl (aj kn rfl rfl (ab ⟨rfl,(gW rfl (aS pG nQ (.s .z) rfl rfl (vs:=eQ s.q y.q) rfl rfl (ab ⟨rfl,(gW rfl (aj kn rfl rfl (ab ⟨rfl,(gW rfl (aS pG nQ .z rfl rfl (vs:=eQ t.q z.q) rfl rfl (ab ⟨rfl,(iO rfl rfl ?_ ?_)⟩)))⟩)))⟩)))⟩)))
   · skip
     exact aQ _ rfl sj rfl (fun b5=>ab ⟨rfl,fun _ h=>Sat.dropS 1 h,(dm rfl (aQ _ rfl sj rfl (fun b6=>ab ⟨rfl,fun _ h=>Sat.dropS 2 h,(dm rfl (aC nQ (.s .z) rfl rfl rfl rfl rfl (Nat.le_of_ble_eq_true rfl) rfl (ab ⟨rfl,fun _ h=>Sat.dropS 2 h,(dm rfl (aC nQ .z rfl rfl rfl rfl rfl (Nat.le_of_ble_eq_true rfl) rfl (ab ⟨rfl,fun _ h=>Sat.dropS 2 h,(gl ⟨rfl,b5,b6,(.cons rfl (.cons rfl (.cons rfl (.cons rfl (.nil _))))),fun w2 hw2=>hw2.sel [1,0,2,3] (by decide)⟩)⟩)))⟩)))⟩)))⟩)
   · skip
     exact aQ _ rfl sj rfl (fun b6=>ab ⟨rfl,fun _ h=>Sat.dropS 1 h,(dm rfl (aQ _ rfl sj rfl (fun b5=>ab ⟨rfl,fun _ h=>Sat.dropS 2 h,(dm rfl (aC nQ .z rfl rfl rfl rfl rfl (Nat.le_of_ble_eq_true rfl) rfl (ab ⟨rfl,fun _ h=>Sat.dropS 2 h,(dm rfl (aC nQ (.s .z) rfl rfl rfl rfl rfl (Nat.le_of_ble_eq_true rfl) rfl (ab ⟨rfl,fun _ h=>Sat.dropS 2 h,(gl ⟨rfl,b5,b6,(.cons rfl (.cons rfl (.cons rfl (.cons rfl (.nil _))))),fun w2 hw2=>hw2.sel [0,1,2,3] (by decide)⟩)⟩)))⟩)))⟩)))⟩)
 obtain ⟨rfl,b5,b6,hsub,hheap⟩:=hq
 refine ag (ae (Tri.sub hsub (Tri.heap hheap (aa (aj cL rfl rfl (ak bB N3 rfl rfl rfl (aj cL rfl rfl (ak bB N2 rfl rfl rfl (bE rfl rfl rfl (ai rfl rfl ?_))))))))))
 refine' aJ [_,_,_,_,_] [(2,_),(3,_),(5,_),(6,_)] (dj:=16) (dr:=21) rfl rfl (fun g1=>?_) ⟨_,rfl,rfl,rfl,(.cons rfl (.cons rfl (.cons rfl (.cons rfl (.nil _)))))⟩ rfl ?_
 rotate_left
 · skip
   exact aj gI rfl rfl (ak bB N3 rfl rfl rfl (aj gI rfl rfl (ak bB N2 rfl rfl rfl (bE rfl rfl rfl (ab (Piece.mk rfl rfl (.cons rfl (.cons rfl (.cons rfl (.cons rfl (.nil _))))) (fun _ h=>h)))))))
 refine ai rfl rfl ?_
 refine' aJ [_,_,_,_,_,_,_] [(2,_),(3,_),(5,_),(6,_)] (dj:=23) (dr:=30) rfl rfl (fun g2=>?_) ⟨_,rfl,rfl,rfl,(.cons rfl (.cons rfl (.cons rfl (.cons rfl (.nil _)))))⟩ rfl ?_
 rotate_left
 · skip
   exact aj jv rfl rfl (ak mI N3 rfl rfl rfl (aX Tryz.underlying22 rfl rfl (aj jv rfl rfl (ak mI N2 rfl rfl rfl (aX Tryz.underlying22 rfl rfl (aD rfl rfl rfl (ab (Piece.mk rfl rfl (.cons rfl (.cons rfl (.cons rfl (.cons rfl (.nil _))))) (fun _ h=>h)))))))))
 refine ai rfl rfl ?_
 refine' aJ [_,_,_,_,_,_,_] [(2,_),(3,_),(5,_),(6,_)] (dj:=32) (dr:=39) rfl rfl (fun g3=>?_) ⟨_,rfl,rfl,rfl,(.cons rfl (.cons rfl (.cons rfl (.cons rfl (.nil _)))))⟩ rfl ?_
 rotate_left
 · skip
   exact aj iW rfl rfl (ak lP N3 rfl rfl rfl (aX Tryz.underlying23 rfl rfl (aj iW rfl rfl (ak lP N2 rfl rfl rfl (aX Tryz.underlying23 rfl rfl (aD rfl rfl rfl (ab (Piece.mk rfl rfl (.cons rfl (.cons rfl (.cons rfl (.cons rfl (.nil _))))) (fun _ h=>h)))))))))
 refine ai rfl rfl ?_
 refine' aJ [_,_,_,_,_] [(2,_),(3,_),(5,_),(6,_)] (dj:=41) (dr:=46) rfl rfl (fun g4=>?_) ⟨_,rfl,rfl,rfl,(.cons rfl (.cons rfl (.cons rfl (.cons rfl (.nil _)))))⟩ rfl ?_
 rotate_left
 · skip
   exact aj mg rfl rfl (ak ij N3 rfl rfl rfl (aj mg rfl rfl (ak ij N2 rfl rfl rfl (rb rfl Tryz.underlying4 rfl rfl (ab (Piece.mk rfl rfl (.cons rfl (.cons rfl (.cons rfl (.cons rfl (.nil _))))) (fun _ h=>h)))))))
 refine ai rfl rfl ?_
 refine' aJ [_,_,_,_,_,_,_] [(2,_),(3,_),(5,_),(6,_)] (dj:=48) (dr:=55) rfl rfl (fun g5=>?_) ⟨_,rfl,rfl,rfl,(.cons rfl (.cons rfl (.cons rfl (.cons rfl (.nil _)))))⟩ rfl ?_
 rotate_left
 · skip
   exact aj gv rfl rfl (ak jS N3 rfl rfl rfl (aX Tryz.underlying24 rfl rfl (aj gv rfl rfl (ak jS N2 rfl rfl rfl (aX Tryz.underlying24 rfl rfl (aD rfl rfl rfl (ab (Piece.mk rfl rfl (.cons rfl (.cons rfl (.cons rfl (.cons rfl (.nil _))))) (fun _ h=>h)))))))))
 refine ai rfl rfl ?_
 refine' aJ [_,_,_,_,_,_,_] [(2,_),(3,_),(5,_),(6,_)] (dj:=57) (dr:=64) rfl rfl (fun g6=>?_) ⟨_,rfl,rfl,rfl,(.cons rfl (.cons rfl (.cons rfl (.cons rfl (.nil _)))))⟩ rfl ?_
 rotate_left
 · skip
   exact aj ei rfl rfl (ak hJ N3 rfl rfl rfl (aX Tryz.underlying25 rfl rfl (aj ei rfl rfl (ak hJ N2 rfl rfl rfl (aX Tryz.underlying25 rfl rfl (aD rfl rfl rfl (ab (Piece.mk rfl rfl (.cons rfl (.cons rfl (.cons rfl (.cons rfl (.nil _))))) (fun _ h=>h)))))))))
 refine ai rfl rfl ?_
 refine' aJ [_,_,_,_,_,_,_,_,_,_,_,_,_,_,_,_,_,_] [(5,_),(6,_)] (dj:=66) (dr:=84) rfl rfl (fun g7=>?_) ⟨_,rfl,rfl,rfl,(.cons rfl (.cons rfl (.nil _)))⟩ rfl ?_
 rotate_left
 · skip
   refine aj gw rfl rfl (aj db rfl rfl (ak bR N3 rfl rfl rfl (aj gw rfl rfl (aj db rfl rfl (ak bR N2 rfl rfl rfl (aD rfl rfl rfl (ai rfl rfl ?_)))))))
   refine' aJ [_,_,_,_,_,_,_,_,_] [(66,_),(5,_),(6,_)] (dj:=74) (dr:=83) rfl rfl (fun g8=>?_) ⟨_,rfl,rfl,rfl,(.cons rfl (.cons rfl (.cons rfl (.nil _))))⟩ rfl ?_
   rotate_left
   · skip
     refine aj gw rfl rfl (aj db rfl rfl (ak bR N2 rfl rfl rfl (cX rfl rfl rfl (ai rfl rfl ?_))))
     refine' bv [_,_,_] [(74,_),(66,_),(5,_),(6,_)] (dj:=79) (dr:=82) rfl rfl (fun g9=>?_) ⟨_,rfl,rfl,rfl,(.cons rfl (.cons rfl (.cons rfl (.cons rfl (.nil _)))))⟩ rfl ?_
     rotate_left
     · skip
       exact aj gw rfl rfl (aS bh aY (.s (.s (.s .z))) rfl rfl (vs:=bU s.wh y.W) rfl rfl (aF (first:=[]) (cap:=[]) rfl rfl rfl Tryz.call72 (fun w1 h1=>sf s.wh y.W w1) (ab (Piece.mk rfl rfl (.cons rfl (.cons rfl (.cons rfl (.cons rfl (.nil _))))) (fun _ h=>h)))))
     exact ab (Piece.mk rfl rfl (.cons rfl (.cons rfl (.cons rfl (.nil _)))) (fun _ h=>h))
   exact ab (Piece.mk rfl rfl (.cons rfl (.cons rfl (.nil _))) (fun _ h=>h))
 refine ai rfl rfl ?_
 refine' aJ [_,_,_,_,_] [(5,_),(6,_)] (dj:=86) (dr:=91) rfl rfl (fun g10=>?_) ⟨_,rfl,rfl,rfl,(.cons rfl (.cons rfl (.nil _)))⟩ rfl ?_
 rotate_left
 · skip
   exact aj nj rfl rfl (ak ij N0 rfl rfl rfl (aj nj rfl rfl (ak ij N1 rfl rfl rfl (rb rfl Tryz.underlying4 rfl rfl (ab (Piece.mk rfl rfl (.cons rfl (.cons rfl (.nil _))) (fun _ h=>h)))))))
 refine ai rfl rfl ?_
 refine' aJ [_,_,_,_,_] [(5,_),(6,_)] (dj:=93) (dr:=98) rfl rfl (fun g11=>?_) ⟨_,rfl,rfl,rfl,(.cons rfl (.cons rfl (.nil _)))⟩ rfl ?_
 rotate_left
 · skip
   exact aj mc rfl rfl (ak ij N0 rfl rfl rfl (aj mc rfl rfl (ak ij N1 rfl rfl rfl (rb rfl Tryz.underlying4 rfl rfl (ab (Piece.mk rfl rfl (.cons rfl (.cons rfl (.nil _))) (fun _ h=>h)))))))
 refine ai rfl rfl ?_
 refine' aJ [_,_,_,_,_,_,_] [(5,_),(6,_)] (dj:=100) (dr:=107) rfl rfl (fun g12=>?_) ⟨_,rfl,rfl,rfl,(.cons rfl (.cons rfl (.nil _)))⟩ rfl ?_
 rotate_left
 · skip
   exact aj dO rfl rfl (ak gu N0 rfl rfl rfl (aX Tryz.underlying31 rfl rfl (aj dO rfl rfl (ak gu N1 rfl rfl rfl (aX Tryz.underlying31 rfl rfl (aD rfl rfl rfl (ab (Piece.mk rfl rfl (.cons rfl (.cons rfl (.nil _))) (fun _ h=>h)))))))))
 refine ai rfl rfl ?_
 refine' aJ [_,_,_,_,_,_,_] [(5,_),(6,_)] (dj:=109) (dr:=116) rfl rfl (fun g13=>?_) ⟨_,rfl,rfl,rfl,(.cons rfl (.cons rfl (.nil _)))⟩ rfl ?_
 rotate_left
 · skip
   exact aj cZ rfl rfl (ak eI N0 rfl rfl rfl (aX Tryz.underlying32 rfl rfl (aj cZ rfl rfl (ak eI N1 rfl rfl rfl (aX Tryz.underlying32 rfl rfl (aD rfl rfl rfl (ab (Piece.mk rfl rfl (.cons rfl (.cons rfl (.nil _))) (fun _ h=>h)))))))))
 refine ai rfl rfl ?_
 refine' aJ [_,_,_,_,_,_,_,_,_,_,_,_,_,_,_,_,_,_] [(5,_),(6,_)] (dj:=118) (dr:=136) rfl rfl (fun g14=>?_) ⟨_,rfl,rfl,rfl,(.cons rfl (.cons rfl (.nil _)))⟩ rfl ?_
 rotate_left
 · skip
   refine aj km rfl rfl (aj db rfl rfl (ak bR N0 rfl rfl rfl (aj km rfl rfl (aj db rfl rfl (ak bR N1 rfl rfl rfl (aD rfl rfl rfl (ai rfl rfl ?_)))))))
   refine' aJ [_,_,_,_,_,_,_,_,_] [(118,_),(5,_),(6,_)] (dj:=126) (dr:=135) rfl rfl (fun g15=>?_) ⟨_,rfl,rfl,rfl,(.cons rfl (.cons rfl (.cons rfl (.nil _))))⟩ rfl ?_
   rotate_left
   · skip
     refine aj km rfl rfl (aj db rfl rfl (ak bR N1 rfl rfl rfl (cX rfl rfl rfl (ai rfl rfl ?_))))
     refine' bv [_,_,_] [(126,_),(118,_),(5,_),(6,_)] (dj:=131) (dr:=134) rfl rfl (fun g16=>?_) ⟨_,rfl,rfl,rfl,(.cons rfl (.cons rfl (.cons rfl (.cons rfl (.nil _)))))⟩ rfl ?_
     rotate_left
     · skip
       exact aj km rfl rfl (aS bh aY .z rfl rfl (vs:=bU s.q.wh y.q.V) rfl rfl (aF (first:=[]) (cap:=[]) rfl rfl rfl Tryz.call72 (fun w1 h1=>sf s.q.wh y.q.V w1) (ab (Piece.mk rfl rfl (.cons rfl (.cons rfl (.cons rfl (.cons rfl (.nil _))))) (fun _ h=>h)))))
     exact ab (Piece.mk rfl rfl (.cons rfl (.cons rfl (.cons rfl (.nil _)))) (fun _ h=>h))
   exact ab (Piece.mk rfl rfl (.cons rfl (.cons rfl (.nil _))) (fun _ h=>h))
 refine ai rfl rfl ?_
 refine' aJ [_,_,_,_,_,_,_] [(5,_),(6,_)] (dj:=138) (dr:=145) rfl rfl (fun g17=>?_) ⟨_,rfl,rfl,rfl,(.cons rfl (.cons rfl (.nil _)))⟩ rfl ?_
 rotate_left
 · skip
   exact aj fB rfl rfl (ak ji N0 rfl rfl rfl (aX Tryz.underlying33 rfl rfl (aj fB rfl rfl (ak ji N1 rfl rfl rfl (aX Tryz.underlying33 rfl rfl (aD rfl rfl rfl (ab (Piece.mk rfl rfl (.cons rfl (.cons rfl (.nil _))) (fun _ h=>h)))))))))
 refine ai rfl rfl ?_
 refine' aJ [_,_,_,_,_] [(5,_),(6,_)] (dj:=147) (dr:=152) rfl rfl (fun g18=>?_) ⟨_,rfl,rfl,rfl,(.cons rfl (.cons rfl (.nil _)))⟩ rfl ?_
 rotate_left
 · skip
   exact aj me rfl rfl (ak ij N0 rfl rfl rfl (aj me rfl rfl (ak ij N1 rfl rfl rfl (rb rfl Tryz.underlying4 rfl rfl (ab (Piece.mk rfl rfl (.cons rfl (.cons rfl (.nil _))) (fun _ h=>h)))))))
 refine ai rfl rfl ?_
 refine' aJ [_,_,_,_,_] [] (dj:=154) (dr:=159) rfl rfl (fun g19=>?_) ⟨_,rfl,rfl,rfl,(.nil _)⟩ rfl ?_
 rotate_left
 · skip
   exact aj le rfl rfl (ak bR N0 rfl rfl rfl (aj le rfl rfl (ak bR N1 rfl rfl rfl (aD rfl rfl rfl (ab (Piece.mk rfl rfl (.nil _) (fun _ h=>h)))))))
 refine o_assignN rfl rfl (aq (ba rfl rfl ?_)); exact fun w1 hw1=>⟨congrArg (fun b=>Ending.returned (.bool b)) (by rfl),hw1.chg⟩
set_option maxHeartbeats 2000000 in
theorem mayStK (s:StmtX) (y:Lay) (bl:List Nat) (w:World) (hA:SAt bl w s y) (hbl:∀ k ∈ bl,k < w.heap.size) (hok:SOk s) (hbd:SBd s):Calls Tryz.prog 10 #[.agg (bL s y).toArray] w (cG w (.bool (fK s))):=by
 refine az (args:=[.agg (bL s y).toArray]) (lent:=[]) (H:=[]) Tryz.func10 rfl Tryz.ntmps10 rfl (Sat.start _ _ _ _) ((show Tri _ [(0,_)] _ _ _ from ?_))
 obtain ⟨xC,xN,xR,xS,xI,xF,xO,hC,hN,hR_,hS,hW,hQ⟩:=id hA
 have n1:s.cols.length≤70368744177664:=hbd.nc
 have n2:s.on.length≤70368744177664:=hbd.nn
 have n3:s.rows.length≤70368744177664:=hbd.nr
 have n4:s.sets.length≤70368744177664:=hbd.ns
 refine ae (aa (cD _ rfl rfl rfl (fun b1=>o_assignN rfl rfl (ae (aa (aj eJ rfl rfl (ak bR N0 rfl rfl rfl (aT (yM _) rfl rfl (aQ _ rfl iV rfl (fun b3=>dK (us:=[.int .i64 0,.string .empty,.string .empty,.slice none 0 0,.slice none 0 0,.bool false,.slice none 0 0,.slice none 0 0,.int .i64 0,.int .i64 0,.int .i64 0,.string .empty,.string .empty,.string .empty,.int .i64 0,.slice none 0 0,.bool false,.bool false,.slice none 0 0,.slice none 0 0,.int .i64 0,.int .i64 0,.int .i64 0,.string .empty,.string .empty,.string .empty,.int .i64 0,.slice none 0 0,.slice none 0 0,.bool false,.int .i64 0]) (cs:=bL { StmtX.zero with k:=s.k } Lay.nil) rfl rfl rfl eU .z rfl rfl rfl (triL_nilN (ae (tri_slo [(3,_),(1,_)] rfl (aa (o_assignN rfl rfl (cz (ι:=StmtX × Lay) (fun j=>[(1,.pointer (some ⟨b1,0,none⟩)),(3,.pointer (some ⟨b3,0,none⟩)),(4,.bool (dh s))]) (fun j=>[box b3 37 (bL j.1 j.2),box b1 37 (bL s y)]) (fun j=>j.1=eu s) ?_ (fun j hj=>?_)))))))))))))))))
 · skip
   refine ae (aa (aj eJ rfl rfl (ak bR N1 rfl rfl rfl (triL_nilN (ay (ae (aa (aD rfl rfl rfl (o_assignN rfl rfl (av rfl (fun q1=>?_) (fun q1=>?_)))))))))))
   · skip
     refine ae (tri_slo [(3,_),(1,_)] rfl (bj ([box b1 37 (bL s y)]) [(0,true),(1,true),(2,true),(3,true),(4,true),(5,false),(6,false),(7,false)] [6,7] (by kernel_rfl) (by kernel_rfl) (fun _ h=>Sat.dropS 1 h) (ah rfl (aj cL rfl rfl (ab ⟨rfl,ah rfl (ak bB N0 rfl rfl rfl (ab ⟨rfl,ah rfl (aj jv rfl rfl (ab ⟨rfl,ah rfl (ak mI N0 rfl rfl rfl (ab ⟨rfl,ah rfl (aj cL rfl rfl (ab ⟨rfl,(aN rfl (dk (bL { StmtX.zero with k:=s.k,t:=s.t } Lay.nil) sz9 .z rfl rfl rfl rfl rfl (Nat.le_of_ble_eq_true rfl) rfl rfl (ab ⟨rfl,fun _ _ h=>Sat.dropS 1 h,(bM [6,7] [_,_] rfl rfl (aj jv rfl rfl (dk (bL { StmtX.zero with k:=s.k,t:=s.t,cols:=s.cols } { Lay.nil with C:=y.C }) sz22 .z rfl rfl rfl rfl rfl (Nat.le_of_ble_eq_true rfl) rfl rfl (ab ⟨rfl,(ag (ae (tri_slo [(3,_),(1,_)] rfl (aa (aj cL rfl rfl (ak bB N1 rfl rfl rfl (aF (first:=[]) (cap:=[]) rfl rfl rfl Tryz.call30 (fun w1 h1=>eK s.t w1 hbd.t) (ai rfl rfl ?_))))))))⟩))))⟩)))⟩))⟩))⟩))⟩))⟩)))))
     refine' aJ [_,_,_,_] [(3,_),(1,_)] (dj:=31) (dr:=35) rfl rfl (fun g1=>?_) ⟨_,rfl,rfl,rfl,(.cons rfl (.cons rfl (.nil _)))⟩ rfl ?_
     rotate_left
     · skip
       exact aj jv rfl rfl (ak mI N1 rfl rfl rfl (aX Tryz.underlying22 rfl rfl (aF (first:=[]) (cap:=[]) rfl rfl rfl Tryz.call31 (fun w1 h1=>tX s.cols.length 16 w1) (ab (Piece.mk rfl rfl (.cons rfl (.cons rfl (.nil _))) (fun _ h=>h))))))
     refine o_assignN rfl rfl (ae (aa (aj jv rfl rfl (ak mI N1 rfl rfl rfl (aX Tryz.underlying22 rfl rfl (ai rfl rfl (triL_nilN (ay (bI (ι:=Nat) (F:=fun i=>[(1,.pointer (some ⟨b1,0,none⟩)),(3,.pointer (some ⟨b3,0,none⟩)),(4,.bool ((nameOk s.t && gh s.cols.length 16) && ck (fun i=>mayCol (s.cols.getD i ColX.zero)) i)),(38,.slice y.C.A s.cols.length y.C.k),(39,.int .i64 (s.cols.length:Int)),(40,.int .i64 (i:Int))]) (HH:=fun i=>[box b3 37 (bL { StmtX.zero with k:=s.k,t:=s.t,cols:=s.cols } { Lay.nil with C:=y.C }),box b1 37 (bL s y)]) (Pu:=fun i=>i≤s.cols.length) (μ:=fun i=>s.cols.length - i) (0) (.cons rfl (.cons rfl (.cons (congrArg (fun b=>some (Value.bool b)) (by simp [ck])) (.cons rfl (.cons rfl (.cons rfl (.nil _))))))) (fun _ h=>h) (Nat.zero_le _) (fun i hi=>ae (aa (cR rfl rfl rfl (triL_nilN (ae (av rfl (fun qa=>?_) (fun qa=>?_))))))))))))))))
     · skip
       have hil:i < s.cols.length:=by omega
       refine ao (ag (ae (ay (ae ?_))))
       have hci:=ru hC i hil
       refine aa (aU Tryz.underlying22 sz71 rfl rfl rfl (hC.rd0 _ _ rfl rfl) (by omega) (by omega) hC.len (by decide) (bF agg71 sz71 rfl rfl (hC.rd0 _ _ rfl rfl) (vs:=[Value.string (B (s.cols.getD i ColX.zero).n),Value.int .i64 (s.cols.getD i ColX.zero).k,Value.bool (s.cols.getD i ColX.zero).b]) hci rfl (by decide) (aQ _ rfl zero71 rfl (fun b6=>aC sz71 N0 rfl rfl rfl rfl rfl (Nat.le_of_ble_eq_true rfl) rfl (triL_nilN (aa (ai rfl rfl (ai rfl rfl ?_))))))))
       refine' aJ [_,_,_] [(6,_),(1,_),(3,_),(4,_),(38,_),(39,_),(40,_)] (dj:=45) (dr:=48) rfl rfl (fun g2=>?_) ⟨_,rfl,rfl,rfl,(.cons rfl (.cons rfl (.cons rfl (.cons rfl (.cons rfl (.cons rfl (.cons rfl (.nil _))))))))⟩ rfl ?_
       rotate_left
       · skip
         exact aj fo71_0 rfl rfl (ak bB N0 rfl rfl rfl (aF (first:=[]) (cap:=[]) rfl rfl rfl Tryz.call30 (fun w1 h1=>eK (s.cols.getD i ColX.zero).n w1 (hbd.cols i hil)) (ab (Piece.mk rfl rfl (.cons rfl (.cons rfl (.cons rfl (.cons rfl (.cons rfl (.cons rfl (.cons rfl (.nil _)))))))) (fun _ h=>h)))))
       refine ai rfl rfl ?_
       refine' aJ [_,_,_] [(6,_),(1,_),(3,_),(4,_),(38,_),(39,_),(40,_)] (dj:=50) (dr:=53) rfl rfl (fun g3=>?_) ⟨_,rfl,rfl,rfl,(.cons rfl (.cons rfl (.cons rfl (.cons rfl (.cons rfl (.cons rfl (.cons rfl (.nil _))))))))⟩ rfl ?_
       rotate_left
       · skip
         exact aj vy rfl rfl (ak bR N0 rfl rfl rfl (mh rfl rfl rfl (ab (Piece.mk rfl rfl (.cons rfl (.cons rfl (.cons rfl (.cons rfl (.cons rfl (.cons rfl (.cons rfl (.nil _)))))))) (fun _ h=>h)))))
       refine ai rfl rfl ?_
       refine' aJ [_,_,_] [(1,_),(3,_),(4,_),(38,_),(39,_),(40,_)] (dj:=55) (dr:=58) rfl rfl (fun g4=>?_) ⟨_,rfl,rfl,rfl,(.cons rfl (.cons rfl (.cons rfl (.cons rfl (.cons rfl (.cons rfl (.nil _)))))))⟩ rfl ?_
       rotate_left
       · skip
         exact aj vy rfl rfl (ak bR N0 rfl rfl rfl (lH rfl rfl rfl (ab (Piece.mk rfl rfl (.cons rfl (.cons rfl (.cons rfl (.cons rfl (.cons rfl (.cons rfl (.nil _))))))) (fun _ h=>h)))))
       exact aO rfl rfl (ab (am (ag (aa (bJ rfl rfl rfl (by omega) (ai rfl rfl (triL_nilN (⟨i+1,(.cons rfl (.cons rfl (.cons (congrArg (fun b=>some (Value.bool b)) (by exact col_step (nameOk s.t && gh s.cols.length 16) (fun i=>s.cols.getD i ColX.zero) i)) (.cons rfl (.cons rfl (.cons rfl (.nil _))))))),(fun w2 hw2=>hw2.tail),by omega,by omega⟩))))))))
     · skip
       have hie:i=s.cols.length:=by omega
       rw [hie]
       exact bu (ax (ax (aP (am (ag (⟨({ StmtX.zero with k:=s.k,t:=s.t,cols:=s.cols }, { Lay.nil with C:=y.C }),(.cons rfl (.cons rfl (.cons (congrArg (fun b=>some (Value.bool b)) (by rw [part_1 q1,Bool.and_assoc])) (.nil _)))),fun _ h=>h,by rw [keep_1 q1]; simp only [q1]⟩))))))
   · skip
     refine ae (aa (aD rfl rfl rfl (o_assignN rfl rfl (av rfl (fun q2=>?_) (fun q2=>?_)))))
     · skip
       exact ae (tri_slo [(3,_),(1,_)] rfl (aa (aj cL rfl rfl (ak bB N1 rfl rfl rfl (aj cL rfl rfl (dk (bL { StmtX.zero with k:=s.k,t:=s.t } Lay.nil) sz9 .z rfl rfl rfl rfl rfl (Nat.le_of_ble_eq_true rfl) rfl rfl (triL_nilN (aa (aj cL rfl rfl (ak bB N1 rfl rfl rfl (aF (first:=[]) (cap:=[]) rfl rfl rfl Tryz.call30 (fun w1 h1=>eK s.t w1 hbd.t) (aO rfl rfl (ab (am (ag (⟨({ StmtX.zero with k:=s.k,t:=s.t },Lay.nil),(.cons rfl (.cons rfl (.cons (congrArg (fun b=>some (Value.bool b)) (by exact (part_2 q2).symm)) (.nil _)))),fun _ h=>h,by rw [keep_2 q2]; simp only [q2]⟩))))))))))))))))
     · skip
       refine ae (tri_slo [(19,_),(4,_),(3,_),(1,_)] rfl (aa (aD rfl rfl rfl (o_assignN rfl rfl (av rfl (fun q3=>?_) (fun q3=>?_))))))
       · skip
         refine ae (tri_slo [(3,_),(1,_)] rfl (bj ([box b1 37 (bL s y)]) [(0,true),(1,true),(2,true),(3,true),(4,true),(5,true),(6,true),(7,true),(8,true),(9,false),(10,true),(11,false),(12,true),(13,false),(14,false),(15,false)] [14,15] (by kernel_rfl) (by kernel_rfl) (fun _ h=>Sat.dropS 1 h) (ah rfl (aj cL rfl rfl (ab ⟨rfl,ah rfl (ak bB N0 rfl rfl rfl (ab ⟨rfl,ah rfl (aj gI rfl rfl (ab ⟨rfl,ah rfl (ak bB N0 rfl rfl rfl (ab ⟨rfl,ah rfl (aj iW rfl rfl (ab ⟨rfl,ah rfl (ak lP N0 rfl rfl rfl (ab ⟨rfl,ah rfl (aj mg rfl rfl (ab ⟨rfl,ah rfl (ak ij N0 rfl rfl rfl (ab ⟨rfl,ah rfl (aj cL rfl rfl (ab ⟨rfl,(aN rfl (dk (bL { StmtX.zero with k:=s.k,t:=s.t } Lay.nil) sz9 .z rfl rfl rfl rfl rfl (Nat.le_of_ble_eq_true rfl) rfl rfl (ab ⟨rfl,fun _ _ h=>Sat.dropS 1 h,(ah rfl (aj gI rfl rfl (ab ⟨rfl,(aN rfl (dk (bL { StmtX.zero with k:=s.k,t:=s.t,n:=s.n } Lay.nil) sz9 .z rfl rfl rfl rfl rfl (Nat.le_of_ble_eq_true rfl) rfl rfl (ab ⟨rfl,fun _ _ h=>Sat.dropS 1 h,(ah rfl (aj iW rfl rfl (ab ⟨rfl,(aN rfl (dk (bL { StmtX.zero with k:=s.k,t:=s.t,n:=s.n,on:=s.on } { Lay.nil with N:=y.N }) sz23 .z rfl rfl rfl rfl rfl (Nat.le_of_ble_eq_true rfl) rfl rfl (ab ⟨rfl,fun _ _ h=>Sat.dropS 1 h,(bM [14,15] [_,_] rfl rfl (aj mg rfl rfl (dk (bL { StmtX.zero with k:=s.k,t:=s.t,n:=s.n,on:=s.on,un:=s.un } { Lay.nil with N:=y.N }) sz4 .z rfl rfl rfl rfl rfl (Nat.le_of_ble_eq_true rfl) rfl rfl ?_)))⟩)))⟩)))⟩)))⟩)))⟩)))⟩))⟩))⟩))⟩))⟩))⟩))⟩))⟩))⟩))))); refine ab ⟨rfl,(ag (ae (tri_slo [(3,_),(1,_)] rfl (aa (aj cL rfl rfl (ak bB N1 rfl rfl rfl (aF (first:=[]) (cap:=[]) rfl rfl rfl Tryz.call30 (fun w1 h1=>eK s.t w1 hbd.t) (ai rfl rfl ?_))))))))⟩
         refine' aJ [_,_,_] [(3,_),(1,_)] (dj:=86) (dr:=89) rfl rfl (fun g5=>?_) ⟨_,rfl,rfl,rfl,(.cons rfl (.cons rfl (.nil _)))⟩ rfl ?_
         rotate_left
         · skip
           exact aj gI rfl rfl (ak bB N1 rfl rfl rfl (aF (first:=[]) (cap:=[]) rfl rfl rfl Tryz.call30 (fun w1 h1=>eK s.n w1 hbd.n) (ab (Piece.mk rfl rfl (.cons rfl (.cons rfl (.nil _))) (fun _ h=>h)))))
         refine ai rfl rfl ?_
         refine' aJ [_,_,_,_] [(3,_),(1,_)] (dj:=91) (dr:=95) rfl rfl (fun g6=>?_) ⟨_,rfl,rfl,rfl,(.cons rfl (.cons rfl (.nil _)))⟩ rfl ?_
         rotate_left
         · skip
           exact aj iW rfl rfl (ak lP N1 rfl rfl rfl (aX Tryz.underlying23 rfl rfl (aF (first:=[]) (cap:=[]) rfl rfl rfl Tryz.call31 (fun w1 h1=>tX s.on.length 16 w1) (ab (Piece.mk rfl rfl (.cons rfl (.cons rfl (.nil _))) (fun _ h=>h))))))
         refine o_assignN rfl rfl (ae (aa (aj iW rfl rfl (ak lP N1 rfl rfl rfl (aX Tryz.underlying23 rfl rfl (ai rfl rfl (triL_nilN (ay (bI (ι:=Nat) (F:=fun i=>[(1,.pointer (some ⟨b1,0,none⟩)),(3,.pointer (some ⟨b3,0,none⟩)),(4,.bool (((nameOk s.t && nameOk s.n) && gh s.on.length 16) && ck (fun i=>nameOk (s.on.getD i [])) i)),(98,.slice y.N.A s.on.length y.N.k),(99,.int .i64 (s.on.length:Int)),(100,.int .i64 (i:Int))]) (HH:=fun i=>[box b3 37 (bL { StmtX.zero with k:=s.k,t:=s.t,n:=s.n,on:=s.on,un:=s.un } { Lay.nil with N:=y.N }),box b1 37 (bL s y)]) (Pu:=fun i=>i≤s.on.length) (μ:=fun i=>s.on.length - i) (0) (.cons rfl (.cons rfl (.cons (congrArg (fun b=>some (Value.bool b)) (by simp [ck])) (.cons rfl (.cons rfl (.cons rfl (.nil _))))))) (fun _ h=>h) (Nat.zero_le _) (fun i hi=>ae (aa (cR rfl rfl rfl (triL_nilN (ae (av rfl (fun qb=>?_) (fun qb=>?_))))))))))))))))
         · skip
           have hil:i < s.on.length:=by omega
           refine ao (ag (ae (ay (ae ?_))))
           have hci:=nZ hN i hil
           refine aa (aU Tryz.underlying23 sz9 rfl rfl rfl (hN.rd0 _ _ rfl rfl) (by omega) (by omega) hN.len (by decide) (aL bB rfl rfl (hN.rd0 _ _ rfl rfl) (aR hci (j:=0) rfl) (o_assignN rfl rfl (aa (ai rfl rfl (ai rfl rfl ?_))))))
           refine' aJ [_,_] [(1,_),(3,_),(4,_),(98,_),(99,_),(100,_)] (dj:=105) (dr:=107) rfl rfl (fun g7=>?_) ⟨_,rfl,rfl,rfl,(.cons rfl (.cons rfl (.cons rfl (.cons rfl (.cons rfl (.cons rfl (.nil _)))))))⟩ rfl ?_
           rotate_left
           · skip
             exact ai rfl rfl (aF (first:=[]) (cap:=[]) rfl rfl rfl Tryz.call30 (fun w1 h1=>eK (s.on.getD i []) w1 (hbd.on i hil)) (ab (Piece.mk rfl rfl (.cons rfl (.cons rfl (.cons rfl (.cons rfl (.cons rfl (.cons rfl (.nil _))))))) (fun _ h=>h))))
           exact aO rfl rfl (ab (am (ag (aa (bJ rfl rfl rfl (by omega) (ai rfl rfl (triL_nilN (⟨i+1,(.cons rfl (.cons rfl (.cons (congrArg (fun b=>some (Value.bool b)) (by exact qx ((nameOk s.t && nameOk s.n) && gh s.on.length 16) (fun i=>s.on.getD i []) i)) (.cons rfl (.cons rfl (.cons rfl (.nil _))))))),(fun w2 hw2=>hw2),by omega,by omega⟩))))))))
         · skip
           have hie:i=s.on.length:=by omega
           rw [hie]
           exact bu (ax (ax (aP (am (ag (⟨({ StmtX.zero with k:=s.k,t:=s.t,n:=s.n,on:=s.on,un:=s.un }, { Lay.nil with N:=y.N }),(.cons rfl (.cons rfl (.cons (congrArg (fun b=>some (Value.bool b)) (by rw [part_3 q3]; simp only [Bool.and_assoc])) (.nil _)))),fun _ h=>h,by rw [keep_3 q3]; simp only [q3]⟩))))))
       · skip
         refine ae (aa (aD rfl rfl rfl (o_assignN rfl rfl (av rfl (fun q4=>?_) (fun q4=>?_)))))
         · skip
           exact ae (tri_slo [(3,_),(1,_)] rfl (aa (aj gI rfl rfl (ak bB N1 rfl rfl rfl (aj gI rfl rfl (dk (bL { StmtX.zero with k:=s.k,n:=s.n } Lay.nil) sz9 .z rfl rfl rfl rfl rfl (Nat.le_of_ble_eq_true rfl) rfl rfl (triL_nilN (aa (aj gI rfl rfl (ak bB N1 rfl rfl rfl (aF (first:=[]) (cap:=[]) rfl rfl rfl Tryz.call30 (fun w1 h1=>eK s.n w1 hbd.n) (aO rfl rfl (ab (am (ag (⟨({ StmtX.zero with k:=s.k,n:=s.n },Lay.nil),(.cons rfl (.cons rfl (.cons (congrArg (fun b=>some (Value.bool b)) (by exact (part_4 q4).symm)) (.nil _)))),fun _ h=>h,by rw [keep_4 q4]; simp only [q4]⟩))))))))))))))))
         · skip
           refine ae (tri_slo [(19,_),(4,_),(3,_),(1,_)] rfl (aa (aD rfl rfl rfl (o_assignN rfl rfl (av rfl (fun q5=>?_) (fun q5=>?_))))))
           · skip
             refine ae (tri_slo [(3,_),(1,_)] rfl (bj ([box b1 37 (bL s y)]) [(0,true),(1,true),(2,true),(3,true),(4,true),(5,false),(6,false),(7,false)] [6,7] (by kernel_rfl) (by kernel_rfl) (fun _ h=>Sat.dropS 1 h) (ah rfl (aj cL rfl rfl (ab ⟨rfl,ah rfl (ak bB N0 rfl rfl rfl (ab ⟨rfl,ah rfl (aj gv rfl rfl (ab ⟨rfl,ah rfl (ak jS N0 rfl rfl rfl (ab ⟨rfl,ah rfl (aj cL rfl rfl (ab ⟨rfl,(aN rfl (dk (bL { StmtX.zero with k:=s.k,t:=s.t } Lay.nil) sz9 .z rfl rfl rfl rfl rfl (Nat.le_of_ble_eq_true rfl) rfl rfl (ab ⟨rfl,fun _ _ h=>Sat.dropS 1 h,(bM [6,7] [_,_] rfl rfl (aj gv rfl rfl (dk (bL { StmtX.zero with k:=s.k,t:=s.t,rows:=s.rows } { Lay.nil with R:=y.R }) sz24 .z rfl rfl rfl rfl rfl (Nat.le_of_ble_eq_true rfl) rfl rfl (ab ⟨rfl,(ag (ae (tri_slo [(3,_),(1,_)] rfl (aa (aj cL rfl rfl (ak bB N1 rfl rfl rfl (aF (first:=[]) (cap:=[]) rfl rfl rfl Tryz.call30 (fun w1 h1=>eK s.t w1 hbd.t) (ai rfl rfl ?_))))))))⟩))))⟩)))⟩))⟩))⟩))⟩))⟩)))))
             refine' aJ [_,_,_,_] [(3,_),(1,_)] (dj:=129) (dr:=133) rfl rfl (fun g8=>?_) ⟨_,rfl,rfl,rfl,(.cons rfl (.cons rfl (.nil _)))⟩ rfl ?_
             rotate_left
             · skip
               exact aj gv rfl rfl (ak jS N1 rfl rfl rfl (aX Tryz.underlying24 rfl rfl (i8 rfl rfl rfl (ab (Piece.mk rfl rfl (.cons rfl (.cons rfl (.nil _))) (fun _ h=>h))))))
             refine o_assignN rfl rfl (ae (aa (aj gv rfl rfl (ak jS N1 rfl rfl rfl (aX Tryz.underlying24 rfl rfl (ai rfl rfl (triL_nilN (ay (bI (ι:=Nat) (F:=fun i=>[(1,.pointer (some ⟨b1,0,none⟩)),(3,.pointer (some ⟨b3,0,none⟩)),(4,.bool ((nameOk s.t && decide (0 < (s.rows.length:Int))) && ck (fun i=>mayRow (s.rows.getD i [])) i)),(136,.slice y.R.A s.rows.length y.R.k),(137,.int .i64 (s.rows.length:Int)),(138,.int .i64 (i:Int))]) (HH:=fun i=>[box b3 37 (bL { StmtX.zero with k:=s.k,t:=s.t,rows:=s.rows } { Lay.nil with R:=y.R }),box b1 37 (bL s y)]) (Pu:=fun i=>i≤s.rows.length) (μ:=fun i=>s.rows.length - i) (0) (.cons rfl (.cons rfl (.cons (congrArg (fun b=>some (Value.bool b)) (by simp [ck])) (.cons rfl (.cons rfl (.cons rfl (.nil _))))))) (fun _ h=>h) (Nat.zero_le _) (fun i hi=>ae (aa (cR rfl rfl rfl (triL_nilN (ae (av rfl (fun qc=>?_) (fun qc=>?_))))))))))))))))
             · skip
               have hil:i < s.rows.length:=by omega
               have nr:(s.rows.getD i []).length≤70368744177664:=(hbd.rows i hil).1
               refine ao (ag (ae (ay (ae ?_))))
               obtain ⟨yr,xr,hcr,hRr⟩:=mx hR_ i hil
               refine aa (aU Tryz.underlying24 sz28 rfl rfl rfl (hR_.rd0 _ _ rfl rfl) (by omega) (by omega) hR_.len (by decide) (aL fm rfl rfl (hR_.rd0 _ _ rfl rfl) (aR hcr (j:=0) rfl) (o_assignN rfl rfl (ae (aa (ai rfl rfl (ai rfl rfl ?_)))))))
               refine' aJ [_,_,_] [(10,_),(1,_),(3,_),(4,_),(136,_),(137,_),(138,_)] (dj:=143) (dr:=146) rfl rfl (fun g9=>?_) ⟨_,rfl,rfl,rfl,(.cons rfl (.cons rfl (.cons rfl (.cons rfl (.cons rfl (.cons rfl (.cons rfl (.nil _))))))))⟩ rfl ?_
               rotate_left
               · skip
                 exact ai rfl rfl (aX Tryz.underlying28 rfl rfl (aF (first:=[]) (cap:=[]) rfl rfl rfl Tryz.call31 (fun w1 h1=>tX (s.rows.getD i []).length 16 w1) (ab (Piece.mk rfl rfl (.cons rfl (.cons rfl (.cons rfl (.cons rfl (.cons rfl (.cons rfl (.cons rfl (.nil _)))))))) (fun _ h=>h)))))
               refine o_assignN rfl rfl (ae (aa (ai rfl rfl (aX Tryz.underlying28 rfl rfl (ai rfl rfl (triL_nilN (ay (bI (ι:=Nat) (F:=fun k=>[(1,.pointer (some ⟨b1,0,none⟩)),(3,.pointer (some ⟨b3,0,none⟩)),(4,.bool ((((nameOk s.t && decide (0 < (s.rows.length:Int))) && ck (fun i=>mayRow (s.rows.getD i [])) i) && gh (s.rows.getD i []).length 16) && ck (fun k=>((s.rows.getD i []).getD k Ex.zero).may) k)),(136,.slice y.R.A s.rows.length y.R.k),(137,.int .i64 (s.rows.length:Int)),(138,.int .i64 (i:Int)),(148,.slice yr.A (s.rows.getD i []).length yr.k),(149,.int .i64 ((s.rows.getD i []).length:Int)),(150,.int .i64 (k:Int))]) (HH:=fun k=>[box b3 37 (bL { StmtX.zero with k:=s.k,t:=s.t,rows:=s.rows } { Lay.nil with R:=y.R }),box b1 37 (bL s y)]) (Pu:=fun k=>k≤(s.rows.getD i []).length) (μ:=fun k=>(s.rows.getD i []).length - k) (0) (.cons rfl (.cons rfl (.cons (congrArg (fun b=>some (Value.bool b)) (by simp [ck])) (.cons rfl (.cons rfl (.cons rfl (.cons rfl (.cons rfl (.cons rfl (.nil _)))))))))) (fun _ h=>h) (Nat.zero_le _) (fun k hk=>ae (aa (cR rfl rfl rfl (triL_nilN (ae (av rfl (fun qd=>?_) (fun qd=>?_)))))))))))))))
               · skip
                 have hkl:k < (s.rows.getD i []).length:=by omega
                 refine ao (ag (ae (ay (ae ?_))))
                 obtain ⟨ye,hci,hye⟩:=ex_at hRr k hkl
                 refine aa (aU Tryz.underlying28 aY rfl rfl rfl (hRr.rd0 _ _ rfl rfl) (by omega) (by omega) hRr.len (by decide) (bF bh aY rfl rfl (hRr.rd0 _ _ rfl rfl) (vs:=bU ((s.rows.getD i []).getD k Ex.zero) ye) hci rfl (by decide) (aQ _ rfl dF rfl (fun b12=>aC aY N0 rfl rfl rfl rfl rfl (Nat.le_of_ble_eq_true rfl) rfl (triL_nilN (aa (ai rfl rfl (ai rfl rfl ?_))))))))
                 refine' aJ [_,_] [(1,_),(3,_),(4,_),(136,_),(137,_),(138,_),(148,_),(149,_),(150,_)] (dj:=155) (dr:=157) rfl rfl (fun g10=>?_) ⟨_,rfl,rfl,rfl,(.cons rfl (.cons rfl (.cons rfl (.cons rfl (.cons rfl (.cons rfl (.cons rfl (.cons rfl (.cons rfl (.nil _))))))))))⟩ rfl ?_
                 rotate_left
                 · skip
                   exact aS bh aY .z rfl rfl (vs:=bU ((s.rows.getD i []).getD k Ex.zero) ye) rfl rfl (aF (first:=[]) (cap:=[]) rfl rfl rfl Tryz.call32 (fun w1 h1=>qW ((s.rows.getD i []).getD k Ex.zero) bl ye w1 (hye.stab (fun k hk=>h1.chg.block k (hbl k hk) (by simp))) (hok.rows i hil k hkl) ((hbd.rows i hil).2 k hkl)) (ab (Piece.mk rfl rfl (.cons rfl (.cons rfl (.cons rfl (.cons rfl (.cons rfl (.cons rfl (.cons rfl (.cons rfl (.cons rfl (.nil _)))))))))) (fun _ h=>h))))
                 exact aO rfl rfl (ab (am (ag (aa (bJ rfl rfl rfl (by omega) (ai rfl rfl (triL_nilN (⟨k+1,(.cons rfl (.cons rfl (.cons (congrArg (fun b=>some (Value.bool b)) (by exact ex_step (((nameOk s.t && decide (0 < (s.rows.length:Int))) && ck (fun i=>mayRow (s.rows.getD i [])) i) && gh (s.rows.getD i []).length 16) (fun k=>(s.rows.getD i []).getD k Ex.zero) k)) (.cons rfl (.cons rfl (.cons rfl (.cons rfl (.cons rfl (.cons rfl (.nil _)))))))))),(fun w2 hw2=>hw2.tail),by omega,by omega⟩))))))))
               · skip
                 have hke:k=(s.rows.getD i []).length:=by omega
                 rw [hke]
                 exact bu (ax (ax (aP (am (ag (tri_slo [(1,_),(3,_),(4,_),(136,_),(137,_),(138,_)] rfl (aa (bJ rfl rfl rfl (by omega) (ai rfl rfl (triL_nilN (⟨i+1,(.cons rfl (.cons rfl (.cons (congrArg (fun b=>some (Value.bool b)) (by exact row_step (nameOk s.t && decide (0 < (s.rows.length:Int))) (fun i=>s.rows.getD i []) i)) (.cons rfl (.cons rfl (.cons rfl (.nil _))))))),(fun w2 hw2=>hw2),by omega,by omega⟩)))))))))))
             · skip
               have hie:i=s.rows.length:=by omega
               rw [hie]
               exact bu (ax (ax (aP (am (ag (⟨({ StmtX.zero with k:=s.k,t:=s.t,rows:=s.rows }, { Lay.nil with R:=y.R }),(.cons rfl (.cons rfl (.cons (congrArg (fun b=>some (Value.bool b)) (by rw [uN q5,Bool.and_assoc]; congr 2; exact decide_eq_decide.2 (by omega))) (.nil _)))),fun _ h=>h,by rw [keep_5 q5]; simp only [q5]⟩))))))
           · skip
             refine ae (aa (aD rfl rfl rfl (o_assignN rfl rfl (av rfl (fun q6=>?_) (fun q6=>?_)))))
             · skip
               refine ae (tri_slo [(3,_),(1,_)] rfl (bj ([box b1 37 (bL s y)]) [(0,true),(1,true),(2,true),(3,true),(4,true),(5,false),(6,false),(7,false)] [6,7] (by kernel_rfl) (by kernel_rfl) (fun _ h=>Sat.dropS 1 h) (ah rfl (aj cL rfl rfl (ab ⟨rfl,ah rfl (ak bB N0 rfl rfl rfl (ab ⟨rfl,ah rfl (aj gw rfl rfl (ab ⟨rfl,ah rfl (aS bh aY .z rfl rfl (vs:=bU s.wh y.W) rfl rfl (ab ⟨rfl,ah rfl (aj cL rfl rfl (ab ⟨rfl,(aN rfl (dk (bL { StmtX.zero with k:=s.k,t:=s.t } Lay.nil) sz9 .z rfl rfl rfl rfl rfl (Nat.le_of_ble_eq_true rfl) rfl rfl (ab ⟨rfl,fun _ _ h=>Sat.dropS 1 h,(bM [6,7] [_,_] rfl rfl (aj gw rfl rfl (dk (bL { StmtX.zero with k:=s.k,t:=s.t,wh:=s.wh } { Lay.nil with W:=y.W }) aY .z rfl rfl rfl rfl rfl (Nat.le_of_ble_eq_true rfl) rfl rfl (ab ⟨rfl,(ag (tri_slo [(3,_),(1,_)] rfl (aa (aj cL rfl rfl (ak bB N1 rfl rfl rfl (aF (first:=[]) (cap:=[]) rfl rfl rfl Tryz.call30 (fun w1 h1=>eK s.t w1 hbd.t) (ai rfl rfl ?_)))))))⟩))))⟩)))⟩))⟩))⟩))⟩))⟩)))))
               refine' aJ [_,_,_] [(3,_),(1,_)] (dj:=172) (dr:=175) rfl rfl (fun g11=>?_) ⟨_,rfl,rfl,rfl,(.cons rfl (.cons rfl (.nil _)))⟩ rfl ?_
               rotate_left
               · skip
                 exact aj gw rfl rfl (aS bh aY (.s .z) rfl rfl (vs:=bU s.wh y.W) rfl rfl (aF (first:=[]) (cap:=[]) rfl rfl rfl Tryz.call33 (fun w1 h1=>vu s.wh y.W bl w1 (hW.stab (fun k hk=>h1.chg.block k (hbl k hk) (by simp))) hok.wh hbd.wh (fun k hk=>Nat.lt_of_lt_of_le (hbl k hk) h1.chg.size)) (ab (Piece.mk rfl rfl (.cons rfl (.cons rfl (.nil _))) (fun _ h=>h)))))
               exact aO rfl rfl (ab (am (ag (⟨({ StmtX.zero with k:=s.k,t:=s.t,wh:=s.wh }, { Lay.nil with W:=y.W }),(.cons rfl (.cons rfl (.cons (congrArg (fun b=>some (Value.bool b)) (by exact (ry q6).symm)) (.nil _)))),fun _ h=>h,by rw [keep_6 q6]; simp only [q6]⟩))))
             · skip
               refine ae (tri_slo [(19,_),(4,_),(3,_),(1,_)] rfl (aa (aD rfl rfl rfl (o_assignN rfl rfl (av rfl (fun q7=>?_) (fun q7=>?_))))))
               · skip
                 refine ae (tri_slo [(3,_),(1,_)] rfl (bj ([box b1 37 (bL s y)]) [(0,true),(1,true),(2,true),(3,true),(4,true),(5,true),(6,true),(7,false),(8,true),(9,false),(10,false),(11,false)] [10,11] (by kernel_rfl) (by kernel_rfl) (fun _ h=>Sat.dropS 1 h) (ah rfl (aj cL rfl rfl (ab ⟨rfl,ah rfl (ak bB N0 rfl rfl rfl (ab ⟨rfl,ah rfl (aj ei rfl rfl (ab ⟨rfl,ah rfl (ak hJ N0 rfl rfl rfl (ab ⟨rfl,ah rfl (aj gw rfl rfl (ab ⟨rfl,ah rfl (aS bh aY .z rfl rfl (vs:=bU s.wh y.W) rfl rfl (ab ⟨rfl,ah rfl (aj cL rfl rfl (ab ⟨rfl,(aN rfl (dk (bL { StmtX.zero with k:=s.k,t:=s.t } Lay.nil) sz9 .z rfl rfl rfl rfl rfl (Nat.le_of_ble_eq_true rfl) rfl rfl (ab ⟨rfl,fun _ _ h=>Sat.dropS 1 h,(ah rfl (aj ei rfl rfl (ab ⟨rfl,(aN rfl (dk (bL { StmtX.zero with k:=s.k,t:=s.t,sets:=s.sets } { Lay.nil with S:=y.S }) sz25 .z rfl rfl rfl rfl rfl (Nat.le_of_ble_eq_true rfl) rfl rfl (ab ⟨rfl,fun _ _ h=>Sat.dropS 1 h,(bM [10,11] [_,_] rfl rfl (aj gw rfl rfl (dk (bL { StmtX.zero with k:=s.k,t:=s.t,sets:=s.sets,wh:=s.wh } { Lay.nil with S:=y.S,W:=y.W }) aY .z rfl rfl rfl rfl rfl (Nat.le_of_ble_eq_true rfl) rfl rfl (ab ⟨rfl,(ag (ae (tri_slo [(3,_),(1,_)] rfl (aa (aj cL rfl rfl (ak bB N1 rfl rfl rfl (aF (first:=[]) (cap:=[]) rfl rfl rfl Tryz.call30 (fun w1 h1=>eK s.t w1 hbd.t) (ai rfl rfl ?_))))))))⟩))))⟩)))⟩)))⟩)))⟩))⟩))⟩))⟩))⟩))⟩))⟩)))))
                 refine' aJ [_,_,_,_] [(3,_),(1,_)] (dj:=191) (dr:=195) rfl rfl (fun g12=>?_) ⟨_,rfl,rfl,rfl,(.cons rfl (.cons rfl (.nil _)))⟩ rfl ?_
                 rotate_left
                 · skip
                   exact aj ei rfl rfl (ak hJ N1 rfl rfl rfl (aX Tryz.underlying25 rfl rfl (aF (first:=[]) (cap:=[]) rfl rfl rfl Tryz.call31 (fun w1 h1=>tX s.sets.length 16 w1) (ab (Piece.mk rfl rfl (.cons rfl (.cons rfl (.nil _))) (fun _ h=>h))))))
                 refine ai rfl rfl ?_
                 refine' aJ [_,_,_] [(3,_),(1,_)] (dj:=197) (dr:=200) rfl rfl (fun g13=>?_) ⟨_,rfl,rfl,rfl,(.cons rfl (.cons rfl (.nil _)))⟩ rfl ?_
                 rotate_left
                 · skip
                   exact aj gw rfl rfl (aS bh aY (.s .z) rfl rfl (vs:=bU s.wh y.W) rfl rfl (aF (first:=[]) (cap:=[]) rfl rfl rfl Tryz.call33 (fun w1 h1=>vu s.wh y.W bl w1 (hW.stab (fun k hk=>h1.chg.block k (hbl k hk) (by simp))) hok.wh hbd.wh (fun k hk=>Nat.lt_of_lt_of_le (hbl k hk) h1.chg.size)) (ab (Piece.mk rfl rfl (.cons rfl (.cons rfl (.nil _))) (fun _ h=>h)))))
                 refine o_assignN rfl rfl (ae (aa (aj ei rfl rfl (ak hJ N1 rfl rfl rfl (aX Tryz.underlying25 rfl rfl (ai rfl rfl (triL_nilN (ay (bI (ι:=Nat) (F:=fun i=>[(1,.pointer (some ⟨b1,0,none⟩)),(3,.pointer (some ⟨b3,0,none⟩)),(4,.bool (((nameOk s.t && gh s.sets.length 16) && mayb s.wh) && ck (fun i=>maySet (s.sets.getD i SetX.zero)) i)),(203,.slice y.S.A s.sets.length y.S.k),(204,.int .i64 (s.sets.length:Int)),(205,.int .i64 (i:Int))]) (HH:=fun i=>[box b3 37 (bL { StmtX.zero with k:=s.k,t:=s.t,sets:=s.sets,wh:=s.wh } { Lay.nil with S:=y.S,W:=y.W }),box b1 37 (bL s y)]) (Pu:=fun i=>i≤s.sets.length) (μ:=fun i=>s.sets.length - i) (0) (.cons rfl (.cons rfl (.cons (congrArg (fun b=>some (Value.bool b)) (by simp [ck])) (.cons rfl (.cons rfl (.cons rfl (.nil _))))))) (fun _ h=>h) (Nat.zero_le _) (fun i hi=>ae (aa (cR rfl rfl rfl (triL_nilN (ae (av rfl (fun qe=>?_) (fun qe=>?_))))))))))))))))
                 · skip
                   have hil:i < s.sets.length:=by omega
                   refine ao (ag (ae (ay (ae ?_))))
                   obtain ⟨ye,hci,hye⟩:=rt hS i hil
                   refine aa (aU Tryz.underlying25 pF rfl rfl rfl (hS.rd0 _ _ rfl rfl) (by omega) (by omega) hS.len (by decide) (bF agg82 pF rfl rfl (hS.rd0 _ _ rfl rfl) (vs:=Value.string (B (s.sets.getD i SetX.zero).n)::bU (s.sets.getD i SetX.zero).e ye) hci rfl (by decide) (aQ _ rfl zero82 rfl (fun b14=>aC pF N0 rfl rfl rfl rfl rfl (Nat.le_of_ble_eq_true rfl) rfl (triL_nilN (aa (ai rfl rfl (ai rfl rfl ?_))))))))
                   refine' aJ [_,_,_] [(14,_),(1,_),(3,_),(4,_),(203,_),(204,_),(205,_)] (dj:=210) (dr:=213) rfl rfl (fun g14=>?_) ⟨_,rfl,rfl,rfl,(.cons rfl (.cons rfl (.cons rfl (.cons rfl (.cons rfl (.cons rfl (.cons rfl (.nil _))))))))⟩ rfl ?_
                   rotate_left
                   · skip
                     exact aj nq rfl rfl (ak bB N0 rfl rfl rfl (aF (first:=[]) (cap:=[]) rfl rfl rfl Tryz.call30 (fun w1 h1=>eK (s.sets.getD i SetX.zero).n w1 (hbd.sets i hil).2) (ab (Piece.mk rfl rfl (.cons rfl (.cons rfl (.cons rfl (.cons rfl (.cons rfl (.cons rfl (.cons rfl (.nil _)))))))) (fun _ h=>h)))))
                   refine ai rfl rfl ?_
                   refine' aJ [_,_,_] [(1,_),(3,_),(4,_),(203,_),(204,_),(205,_)] (dj:=215) (dr:=218) rfl rfl (fun g15=>?_) ⟨_,rfl,rfl,rfl,(.cons rfl (.cons rfl (.cons rfl (.cons rfl (.cons rfl (.cons rfl (.nil _)))))))⟩ rfl ?_
                   rotate_left
                   · skip
                     exact aj si rfl rfl (aS bh aY .z rfl rfl (vs:=bU (s.sets.getD i SetX.zero).e ye) rfl rfl (aF (first:=[]) (cap:=[]) rfl rfl rfl Tryz.call32 (fun w1 h1=>qW (s.sets.getD i SetX.zero).e bl ye w1 (hye.stab (fun k hk=>h1.chg.block k (hbl k hk) (by simp))) (hok.sets i hil) (hbd.sets i hil).1) (ab (Piece.mk rfl rfl (.cons rfl (.cons rfl (.cons rfl (.cons rfl (.cons rfl (.cons rfl (.nil _))))))) (fun _ h=>h)))))
                   exact aO rfl rfl (ab (am (ag (aa (bJ rfl rfl rfl (by omega) (ai rfl rfl (triL_nilN (⟨i+1,(.cons rfl (.cons rfl (.cons (congrArg (fun b=>some (Value.bool b)) (by exact set_step ((nameOk s.t && gh s.sets.length 16) && mayb s.wh) (fun i=>s.sets.getD i SetX.zero) i)) (.cons rfl (.cons rfl (.cons rfl (.nil _))))))),(fun w2 hw2=>hw2.tail),by omega,by omega⟩))))))))
                 · skip
                   have hie:i=s.sets.length:=by omega
                   rw [hie]
                   exact bu (ax (ax (aP (am (ag (⟨({ StmtX.zero with k:=s.k,t:=s.t,sets:=s.sets,wh:=s.wh }, { Lay.nil with S:=y.S,W:=y.W }),(.cons rfl (.cons rfl (.cons (congrArg (fun b=>some (Value.bool b)) (by rw [oW q7]; simp only [Bool.and_assoc])) (.nil _)))),fun _ h=>h,by rw [keep_7 q7]; simp only [q7]⟩))))))
               · skip
                 refine ae (aa (aD rfl rfl rfl (o_assignN rfl rfl (av rfl (fun q8=>?_) (fun q8=>?_)))))
                 · skip
                   exact ae (tri_slo [(3,_),(1,_)] rfl (aa (aj kn rfl rfl (aS pG nQ (.s .z) rfl rfl (vs:=eQ s.q y.q) rfl rfl (aj kn rfl rfl (dk (bL { StmtX.zero with k:=s.k,q:=s.q } { Lay.nil with q:=y.q }) nQ .z rfl rfl rfl rfl rfl (Nat.le_of_ble_eq_true rfl) rfl rfl (triL_nilN (aa (aj kn rfl rfl (aS pG nQ (.s .z) rfl rfl (vs:=eQ s.q y.q) rfl rfl (aF (first:=[]) (cap:=[]) rfl rfl rfl Tryz.call34 (fun w1 h1=>mayQK s.q y.q bl w1 (hA.q.stab (fun k hk=>h1.chg.block k (hbl k hk) (by simp))) (fun k hk=>Nat.lt_of_lt_of_le (hbl k hk) h1.chg.size) hok.q hbd.q) (aO rfl rfl (ab (am (ag (⟨({ StmtX.zero with k:=s.k,q:=s.q }, { Lay.nil with q:=y.q }),(.cons rfl (.cons rfl (.cons (congrArg (fun b=>some (Value.bool b)) (by exact (rz q8).symm)) (.nil _)))),fun _ h=>h,by rw [keep_8 q8]; simp only [q8]⟩))))))))))))))))
                 · skip
                   refine cz (ι:=Nat) (fun i=>[(1,.pointer (some ⟨b1,0,none⟩)),(3,.pointer (some ⟨b3,0,none⟩)),(4,.bool false),(229,.bool (decide (9≤s.k∧s.k≤11)))]) (fun i=>[box b3 37 (bL { StmtX.zero with k:=s.k } Lay.nil),box b1 37 (bL s y)]) (fun i=>True) ?_ (fun i hj=>?_)
                   · skip
                     refine ae (tri_slo [(19,_),(4,_),(3,_),(1,_)] rfl (aa (aD rfl rfl rfl (o_assignN rfl rfl (av rfl (fun q9=>?_) (fun q9=>?_))))))
                     · skip
                       exact ao (ag (⟨0,(.cons rfl (.cons rfl (.cons rfl (.cons (congrArg (fun b=>some (Value.bool b)) (by rw [decide_eq_true q9,decide_eq_true (by omega)])) (.nil _))))),fun _ h=>h,trivial⟩))
                     · skip
                       refine ae (aa (aD rfl rfl rfl (o_assignN rfl rfl (av rfl (fun q10=>?_) (fun q10=>?_)))))
                       · skip
                         exact ao (ag (⟨0,(.cons rfl (.cons rfl (.cons rfl (.cons (congrArg (fun b=>some (Value.bool b)) (by rw [decide_eq_true q10,decide_eq_true (by omega)])) (.nil _))))),fun _ h=>h,trivial⟩))
                       · skip
                         exact aa (aD rfl rfl rfl (o_assignN rfl rfl (⟨0,(.cons rfl (.cons rfl (.cons rfl (.cons (congrArg (fun b=>some (Value.bool b)) (by exact decide_eq_decide.2 (by omega))) (.nil _))))),fun _ h=>h,trivial⟩)))
                   refine aG rfl (fun qz=>?_) (fun qz=>?_)
                   · skip
                     exact aa (aO rfl rfl (ab (am (ag (⟨({ StmtX.zero with k:=s.k },Lay.nil),(.cons rfl (.cons rfl (.cons (congrArg (fun b=>some (Value.bool b)) (by rw [oX (by omega)]; exact qz.symm)) (.nil _)))),fun _ h=>h,by rw [uO (by omega)]⟩)))))
                   · skip
                     exact ao (am (ag (⟨({ StmtX.zero with k:=s.k },Lay.nil),(.cons rfl (.cons rfl (.cons (congrArg (fun b=>some (Value.bool b)) (by rw [oX (by omega)]; exact qz.symm)) (.nil _)))),fun _ h=>h,by rw [uO (by omega)]⟩)))
 refine ae (aa (ai rfl rfl (ai rfl rfl ?_)))
 refine' aJ [_,_,_] [] (dj:=234) (dr:=237) rfl rfl (fun g16=>?_) ⟨_,rfl,rfl,rfl,(.nil _)⟩ rfl ?_
 rotate_left
 · skip
   exact aS fk eU (.s .z) rfl rfl (vs:=bL s y) rfl rfl (aS fk eU .z rfl rfl (vs:=bL j.1 j.2) rfl rfl (aF (first:=[]) (cap:=[]) rfl rfl rfl Tryz.call35 (fun w1 h1=>restK s j.1 y j.2 w1) (ab (Piece.mk rfl rfl (.nil _) (fun _ h=>h)))))
 refine o_assignN rfl rfl (aq (ba rfl rfl ?_)); exact fun w1 hw1=>⟨congrArg (fun b=>Ending.returned (.bool b)) (by rw [hj]; exact rest_may s),hw1.chg⟩
end Go.Proofs.YtjbpkcbefmpfgaaGreatDoor
namespace Go.Proofs.YtjbpkcbefmpfgaaGreatDoor
open Go.WK Go.RowKit 
theorem zero64:(Tryz.prog.info? 64).map (·.zero)=some (some (.pointer none)):=by kernel_rfl
theorem sz64:szB Tryz.prog 64=some 1:=by kernel_rfl
set_option maxHeartbeats 2000000 in
theorem mJ (s:StmtX) (y:Lay) (bl:List Nat) (w:World) (hV:PV w [] bl) (hA:SAt bl w s y) (hok:SOk s) (hbd:SBd s) (hT:fK s=true→(stmT s).1.length≤70368744177664):Calls Tryz.prog 8 #[.agg (bL s y).toArray] w (cG w (.tuple #[.string (B (prS s).1),.int .i64 (prS s).2])):=by
 refine az (args:=[.agg (bL s y).toArray]) (lent:=[]) (H:=[]) Tryz.func8 rfl Tryz.ntmps8 rfl (Sat.start _ _ _ _) ((show Tri _ [(0,_)] _ _ _ from ?_))
 have hbl:∀ k ∈ bl,k < w.heap.size:=fun k hk=>(hV.pe.lt k hk).1
 obtain ⟨xC,xN,xR,xS,xI,xF,xO,hC,hN,hR_,hS,hW,hQ⟩:=id hA
 have n1:s.cols.length≤70368744177664:=hbd.nc
 have n2:s.on.length≤70368744177664:=hbd.nn
 have n3:s.rows.length≤70368744177664:=hbd.nr
 unfold prS
 refine ae (aa (cD _ rfl rfl rfl (fun b1=>aO rfl rfl (o_assignN rfl rfl (ae (ae (aa (aS fk eU .z rfl rfl (vs:=bL s y) rfl rfl (aF (first:=[]) (cap:=[]) rfl rfl rfl Tryz.call10 (fun w1 h1=>mayStK s y bl w1 (hA.stab (fun k hk=>h1.chg.block k (hbl k hk) (by simp))) (fun k hk=>Nat.lt_of_lt_of_le (hbl k hk) h1.chg.size) hok hbd) (dV rfl rfl (triL_nilN (aG rfl (fun q0=>?_) (fun q0=>?_)))))))))))))
 · skip
   have q0:=cJ q0
   refine ae (au [] (.nil _) (aa (aO rfl rfl (o_assignN rfl rfl (aq (an (ky rfl rfl rfl ?_))))))); exact fun w1 hw1=>⟨by rw [if_neg (cB q0)],hw1.chg⟩
 · skip
   have q0:=cp q0
   refine ao (ag (ae (tri_slo [(1,_)] rfl (aa (aT wZ rfl rfl (cD _ rfl rfl rfl (fun b9=>aQ _ rfl zero64 rfl (fun b4=>aC sz64 N0 rfl rfl rfl rfl rfl (Nat.le_of_ble_eq_true rfl) rfl ?_))))))))
   skip
   refine triL_nilN (cz (ι:=Option Addr × Nat) (fun j=>[(4,.pointer (some ⟨b4,0,none⟩))]) (fun j=>[box b4 64 [.pointer (some ⟨b9,0,none⟩)]]++prD b9 j.1 j.2 (stmT s).1 0 (max 0 ((stmT s).2:Int))) (fun j=>True) ?_ (fun j hj=>?_))
   · skip
     refine ae ?_
     have hb:=hT q0
     have hmy:dh s=true:=by unfold fK at q0; simp only [Bool.and_eq_true] at q0; exact q0.1
     refine Tri.heap (H':=[box b4 64 [.pointer (some ⟨b9,0,none⟩)],box b1 37 (bL s y)]++prD b9 none 0 [] 0 0) (fun w hw=>(Sat.nilRow hw 5).sel [1,3,2,0] (by decide)) (aa (aj eJ rfl rfl (ak bR N1 rfl rfl rfl (triL_nilN (ay (ae (aa (aD rfl rfl rfl (o_assignN rfl rfl (av rfl (fun q1=>?_) (fun q1=>?_)))))))))))
     · skip
       rw [st_1 q1] at hb
       simp only [cat,raw,List.length_append,List.length_cons,List.length_nil] at hb
       rw [part_1 q1] at hmy
       simp only [Bool.and_eq_true] at hmy
       have hmc:∀ i,i < s.cols.length→mayCol (s.cols.getD i ColX.zero)=true:=fun i hi=>fu hmy.2.2 hi
       exact ae (tri_slo [(4,_),(1,_)] rfl (aa (ak cd N0 rfl rfl rfl (aj cL rfl rfl (ak bB N1 rfl rfl rfl (gA (parts:=[_,_,_]) (fe [[99,114,101,97,116,101,32,116,97,98,108,101,32],s.t,[32,40]]) Tryz.underlying23 zs9 rfl rfl rfl rfl (by decide) (by decide) (fun b20=>aI (pb:=b9) [_,_,_] rfl rfl rfl rfl Tryz.call20 (fun w1 h1 h2 h3=>dA [[99,114,101,97,116,101,32,116,97,98,108,101,32],s.t,[32,40]] _ _ b9 _ _ _ _ _ w1 h2 (RdS.row .z w1 h1) (fun a ha=>by cases ha; exact bf h1 (fun x hx=>(List.mem_cons_of_mem _ (List.mem_cons_of_mem _ hx))) rfl) (by (try simp only [List.length_append,List.length_cons,List.length_nil,List.flatten_cons,List.flatten_nil] at hb ⊢); omega) (by simp)) (fun A21 c21=>triL_nilN (ae (tri_slo [(4,_),(1,_)] rfl (aa (ak cd N1 rfl rfl rfl (aj jv rfl rfl (ak mI N2 rfl rfl rfl (aX Tryz.underlying22 rfl rfl (bD rfl rfl rfl (aI (pb:=b9) [_,_,_] rfl rfl rfl rfl Tryz.call21 (fun w1 h1 h2 h3=>jj (fun i=>kR (s.cols.getD i ColX.zero)) s.cols.length 22 [] [.pointer (some ⟨b1,0,none⟩),.pointer (some ⟨b4,0,none⟩)] b9 _ _ _ _ w1 h2 (by omega) (by omega) (by (try simp only [List.nil_append,List.length_append,List.length_cons,List.length_nil,List.flatten_cons,List.flatten_nil] at hb ⊢); omega) Tryz.call22 (fun i A1 c1 l1 m1 w2 hi hs hP1 hm1 hb1=>by have hce:=cenv (F:=[_,_,_]) hV.pe h1 (.s .z) (.s (.s .z)); have hPV:PV w1 _ _:=⟨hce.1,(hV.lv.chgL h1.chg (fun k hk=>(hV.pe.g k hk).2))⟩; have hA2:=(hA.stab (hV.pe.st (PSub.of h1 h3))).mono (bl':=b4::b1::bl) (fun k hk=>List.mem_cons_of_mem _ (List.mem_cons_of_mem _ hk)); exact print1K s y (b4::b1::bl) b4 b1 i b9 A1 c1 l1 m1 w2 hP1 hm1 (hPV.sub hs) (hce.2.stab (hce.1.st hs)) (hA2.stab (hce.1.st hs)) hi (hmc i hi) hb1)) (fun A27 c27=>triL_nilN (tri_slo [(4,_)] rfl (aa (ak cd N1 rfl rfl rfl (bk Tryz.underlying23 zs9 rfl rfl rfl rfl rfl (by decide) (by decide) (fun b29=>aI (pb:=b9) [_,_,_,_] rfl rfl rfl rfl Tryz.call20 (fun w1 h1 h2 h3=>dA [[41]] _ _ b9 _ _ _ _ _ w1 h2 (RdS.row .z w1 h1) (fun a ha=>by cases ha; exact bf h1 (fun x hx=>(List.mem_cons_of_mem _ (List.mem_cons_of_mem _ (List.mem_cons_of_mem _ hx)))) rfl) (by (try simp only [List.nil_append,List.length_append,List.length_cons,List.length_nil,List.flatten_cons,List.flatten_nil] at hb ⊢); omega) (by simp)) (fun A30 c30=>ab (am (ag (⟨(A30,c30),(.cons rfl (.nil _)),(fun w2 hw2=>fa (by rw [st_1 q1]; simp [cat,raw]) rfl (by rw [st_1 q1]; simp only [cat,raw]; omega) (hw2.sel [2,4,5] (by decide))),trivial⟩)))))))))))))))))))))))))))
     · skip
       refine ae (tri_slo [(11,_),(4,_),(1,_)] rfl (aa (aD rfl rfl rfl (o_assignN rfl rfl (av rfl (fun q2=>?_) (fun q2=>?_))))))
       · skip
         rw [st_2 q2] at hb
         simp only [raw,List.length_append,List.length_cons,List.length_nil] at hb
         exact aa (ak cd N0 rfl rfl rfl (aj cL rfl rfl (ak bB N1 rfl rfl rfl (gA (parts:=[_,_]) (fe [[100,114,111,112,32,116,97,98,108,101,32],s.t]) Tryz.underlying23 zs9 rfl rfl rfl rfl (by decide) (by decide) (fun b36=>aI (pb:=b9) [_,_,_] rfl rfl rfl rfl Tryz.call20 (fun w1 h1 h2 h3=>dA [[100,114,111,112,32,116,97,98,108,101,32],s.t] _ _ b9 _ _ _ _ _ w1 h2 (RdS.row .z w1 h1) (fun a ha=>by cases ha; exact bf h1 (fun x hx=>(List.mem_cons_of_mem _ (List.mem_cons_of_mem _ hx))) rfl) (by (try simp only [List.length_append,List.length_cons,List.length_nil,List.flatten_cons,List.flatten_nil] at hb ⊢); omega) (by simp)) (fun A37 c37=>ab (am (ag (⟨(A37,c37),(.cons rfl (.nil _)),(fun w2 hw2=>fa (by rw [st_2 q2]; simp [raw]) rfl (by rw [st_2 q2]; simp only [raw]; omega) (hw2.sel [1,3,4] (by decide))),trivial⟩)))))))))
       · skip
         refine ae (aa (aD rfl rfl rfl (o_assignN rfl rfl (av rfl (fun q3=>?_) (fun q3=>?_)))))
         · skip
           rw [st_3 q3] at hb
           simp only [cat,raw,List.length_append,List.length_cons,List.length_nil] at hb
           refine ae (tri_slo [(4,_),(1,_)] rfl (aa (ak cd N0 rfl rfl rfl (bk Tryz.underlying23 zs9 rfl rfl rfl rfl rfl (by decide) (by decide) (fun b41=>aI (pb:=b9) [_,_,_] rfl rfl rfl rfl Tryz.call20 (fun w1 h1 h2 h3=>dA [[99,114,101,97,116,101,32]] _ _ b9 _ _ _ _ _ w1 h2 (RdS.row .z w1 h1) (fun a ha=>by cases ha; exact bf h1 (fun x hx=>(List.mem_cons_of_mem _ (List.mem_cons_of_mem _ hx))) rfl) (by (try simp only [List.length_append,List.length_cons,List.length_nil,List.flatten_cons,List.flatten_nil] at hb ⊢); omega) (by simp)) (fun A42 c42=>triL_nilN (ae (ae (aa (aj mg rfl rfl (ak ij N2 rfl rfl rfl (triL_nilN (aG rfl (fun q4=>?_) (fun q4=>?_))))))))))))))
           · skip
             rw [q4] at hb
             simp only [if_true,List.length_cons,List.length_nil] at hb
             exact tri_slo [(4,_),(1,_)] rfl (aa (ak cd N1 rfl rfl rfl (bk Tryz.underlying23 zs9 rfl rfl rfl rfl rfl (by decide) (by decide) (fun b46=>aI (pb:=b9) [_,_,_,_] rfl rfl rfl rfl Tryz.call20 (fun w1 h1 h2 h3=>dA [[117,110,105,113,117,101,32]] _ _ b9 _ _ _ _ _ w1 h2 (RdS.row .z w1 h1) (fun a ha=>by cases ha; exact bf h1 (fun x hx=>(List.mem_cons_of_mem _ (List.mem_cons_of_mem _ (List.mem_cons_of_mem _ hx)))) rfl) (by (try simp only [List.nil_append,List.length_append,List.length_cons,List.length_nil,List.flatten_cons,List.flatten_nil] at hb ⊢); omega) (by simp)) (fun A47 c47=>triL_nilN (ae (aa (ak cd N2 rfl rfl rfl (aj gI rfl rfl (ak bB N3 rfl rfl rfl (aj cL rfl rfl (ak bB N3 rfl rfl rfl (gA (parts:=[_,_,_,_,_]) (fe [[105,110,100,101,120,32],s.n,[32,111,110,32],s.t,[32,40]]) Tryz.underlying23 zs9 rfl rfl rfl rfl (by decide) (by decide) (fun b53=>aI (pb:=b9) [_,_,_,_,_] rfl rfl rfl rfl Tryz.call20 (fun w1 h1 h2 h3=>dA [[105,110,100,101,120,32],s.n,[32,111,110,32],s.t,[32,40]] _ _ b9 _ _ _ _ _ w1 h2 (RdS.row .z w1 h1) (fun a ha=>by cases ha; exact bf h1 (fun x hx=>(List.mem_cons_of_mem _ (List.mem_cons_of_mem _ (List.mem_cons_of_mem _ (List.mem_cons_of_mem _ hx))))) rfl) (by (try simp only [List.nil_append,List.length_append,List.length_cons,List.length_nil,List.flatten_cons,List.flatten_nil] at hb ⊢); omega) (by simp)) (fun A54 c54=>triL_nilN (ae (tri_slo [(4,_),(1,_)] rfl (aa (ak cd N3 rfl rfl rfl (aj iW rfl rfl (ak lP N4 rfl rfl rfl (aX Tryz.underlying23 rfl rfl (bD rfl rfl rfl (aI (pb:=b9) [_,_,_,_,_] rfl rfl rfl rfl Tryz.call21 (fun w1 h1 h2 h3=>jj (fun i=>raw (s.on.getD i [])) s.on.length 23 [] [.pointer (some ⟨b4,0,none⟩),.pointer (some ⟨b1,0,none⟩)] b9 _ _ _ _ w1 h2 (by omega) (by omega) (by (try simp only [List.nil_append,raw,List.length_append,List.length_cons,List.length_nil,List.flatten_cons,List.flatten_nil] at hb ⊢); omega) Tryz.call23 (fun i A1 c1 l1 m1 w2 hi hs hP1 hm1 hb1=>by have hce:=cenv (F:=[_,_,_,_,_]) hV.pe h1 (.s (.s (.s .z))) (.s (.s (.s (.s .z)))); have hPV:PV w1 _ _:=⟨hce.1,(hV.lv.chgL h1.chg (fun k hk=>(hV.pe.g k hk).2))⟩; have hA2:=(hA.stab (hV.pe.st (PSub.of h1 h3))).mono (bl':=b4::b1::bl) (fun k hk=>List.mem_cons_of_mem _ (List.mem_cons_of_mem _ hk)); exact w8 s y (b4::b1::bl) b4 b1 i b9 A1 c1 l1 m1 w2 hP1 hm1 (hPV.sub hs) (hce.2.stab (hce.1.st hs)) (hA2.stab (hce.1.st hs)) hi hb1)) (fun A60 c60=>triL_nilN (tri_slo [(4,_)] rfl (aa (ak cd N3 rfl rfl rfl (bk Tryz.underlying23 zs9 rfl rfl rfl rfl rfl (by decide) (by decide) (fun b62=>aI (pb:=b9) [_,_,_,_,_,_] rfl rfl rfl rfl Tryz.call20 (fun w1 h1 h2 h3=>dA [[41]] _ _ b9 _ _ _ _ _ w1 h2 (RdS.row .z w1 h1) (fun a ha=>by cases ha; exact bf h1 (fun x hx=>(List.mem_cons_of_mem _ (List.mem_cons_of_mem _ (List.mem_cons_of_mem _ (List.mem_cons_of_mem _ (List.mem_cons_of_mem _ hx)))))) rfl) (by (try simp only [List.nil_append,raw,List.length_append,List.length_cons,List.length_nil,List.flatten_cons,List.flatten_nil] at hb ⊢); omega) (by simp)) (fun A63 c63=>ab (am (ag (⟨(A63,c63),(.cons rfl (.nil _)),(fun w2 hw2=>fa (by rw [st_3 q3,q4]; simp [cat,raw]) rfl (by rw [st_3 q3]; simp only [cat,raw]; omega) (hw2.sel [4,6,7] (by decide))),trivial⟩))))))))))))))))))))))))))))))))))
           · skip
             rw [q4] at hb
             simp only [Bool.false_eq_true,if_false,List.length_nil] at hb
             exact ao (ag (ae (tri_slo [(4,_),(1,_)] rfl (aa (ak cd N1 rfl rfl rfl (aj gI rfl rfl (ak bB N2 rfl rfl rfl (aj cL rfl rfl (ak bB N2 rfl rfl rfl (gA (parts:=[_,_,_,_,_]) (fe [[105,110,100,101,120,32],s.n,[32,111,110,32],s.t,[32,40]]) Tryz.underlying23 zs9 rfl rfl rfl rfl (by decide) (by decide) (fun b53=>aI (pb:=b9) [_,_,_,_] rfl rfl rfl rfl Tryz.call20 (fun w1 h1 h2 h3=>dA [[105,110,100,101,120,32],s.n,[32,111,110,32],s.t,[32,40]] _ _ b9 _ _ _ _ _ w1 h2 (RdS.row .z w1 h1) (fun a ha=>by cases ha; exact bf h1 (fun x hx=>(List.mem_cons_of_mem _ (List.mem_cons_of_mem _ (List.mem_cons_of_mem _ hx)))) rfl) (by (try simp only [List.nil_append,List.length_append,List.length_cons,List.length_nil,List.flatten_cons,List.flatten_nil] at hb ⊢); omega) (by simp)) (fun A54 c54=>triL_nilN (ae (tri_slo [(4,_),(1,_)] rfl (aa (ak cd N2 rfl rfl rfl (aj iW rfl rfl (ak lP N3 rfl rfl rfl (aX Tryz.underlying23 rfl rfl (bD rfl rfl rfl (aI (pb:=b9) [_,_,_,_] rfl rfl rfl rfl Tryz.call21 (fun w1 h1 h2 h3=>jj (fun i=>raw (s.on.getD i [])) s.on.length 23 [] [.pointer (some ⟨b4,0,none⟩),.pointer (some ⟨b1,0,none⟩)] b9 _ _ _ _ w1 h2 (by omega) (by omega) (by (try simp only [List.nil_append,raw,List.length_append,List.length_cons,List.length_nil,List.flatten_cons,List.flatten_nil] at hb ⊢); omega) Tryz.call23 (fun i A1 c1 l1 m1 w2 hi hs hP1 hm1 hb1=>by have hce:=cenv (F:=[_,_,_,_]) hV.pe h1 (.s (.s .z)) (.s (.s (.s .z))); have hPV:PV w1 _ _:=⟨hce.1,(hV.lv.chgL h1.chg (fun k hk=>(hV.pe.g k hk).2))⟩; have hA2:=(hA.stab (hV.pe.st (PSub.of h1 h3))).mono (bl':=b4::b1::bl) (fun k hk=>List.mem_cons_of_mem _ (List.mem_cons_of_mem _ hk)); exact w8 s y (b4::b1::bl) b4 b1 i b9 A1 c1 l1 m1 w2 hP1 hm1 (hPV.sub hs) (hce.2.stab (hce.1.st hs)) (hA2.stab (hce.1.st hs)) hi hb1)) (fun A60 c60=>triL_nilN (tri_slo [(4,_)] rfl (aa (ak cd N2 rfl rfl rfl (bk Tryz.underlying23 zs9 rfl rfl rfl rfl rfl (by decide) (by decide) (fun b62=>aI (pb:=b9) [_,_,_,_,_] rfl rfl rfl rfl Tryz.call20 (fun w1 h1 h2 h3=>dA [[41]] _ _ b9 _ _ _ _ _ w1 h2 (RdS.row .z w1 h1) (fun a ha=>by cases ha; exact bf h1 (fun x hx=>(List.mem_cons_of_mem _ (List.mem_cons_of_mem _ (List.mem_cons_of_mem _ (List.mem_cons_of_mem _ hx))))) rfl) (by (try simp only [List.nil_append,raw,List.length_append,List.length_cons,List.length_nil,List.flatten_cons,List.flatten_nil] at hb ⊢); omega) (by simp)) (fun A63 c63=>ab (am (ag (⟨(A63,c63),(.cons rfl (.nil _)),(fun w2 hw2=>fa (by rw [st_3 q3,q4]; simp [cat,raw]) rfl (by rw [st_3 q3]; simp only [cat,raw]; omega) (hw2.sel [3,5,6] (by decide))),trivial⟩)))))))))))))))))))))))))))))))
         · skip
           refine ae (tri_slo [(11,_),(4,_),(1,_)] rfl (aa (aD rfl rfl rfl (o_assignN rfl rfl (av rfl (fun q5=>?_) (fun q5=>?_))))))
           · skip
             rw [st_4 q5] at hb
             simp only [raw,List.length_append,List.length_cons,List.length_nil] at hb
             exact aa (ak cd N0 rfl rfl rfl (aj gI rfl rfl (ak bB N1 rfl rfl rfl (gA (parts:=[_,_]) (fe [[100,114,111,112,32,105,110,100,101,120,32],s.n]) Tryz.underlying23 zs9 rfl rfl rfl rfl (by decide) (by decide) (fun b69=>aI (pb:=b9) [_,_,_] rfl rfl rfl rfl Tryz.call20 (fun w1 h1 h2 h3=>dA [[100,114,111,112,32,105,110,100,101,120,32],s.n] _ _ b9 _ _ _ _ _ w1 h2 (RdS.row .z w1 h1) (fun a ha=>by cases ha; exact bf h1 (fun x hx=>(List.mem_cons_of_mem _ (List.mem_cons_of_mem _ hx))) rfl) (by (try simp only [List.length_append,List.length_cons,List.length_nil,List.flatten_cons,List.flatten_nil] at hb ⊢); omega) (by simp)) (fun A70 c70=>ab (am (ag (⟨(A70,c70),(.cons rfl (.nil _)),(fun w2 hw2=>fa (by rw [st_4 q5]; simp [raw]) rfl (by rw [st_4 q5]; simp only [raw]; omega) (hw2.sel [1,3,4] (by decide))),trivial⟩)))))))))
           · skip
             refine ae (aa (aD rfl rfl rfl (o_assignN rfl rfl (av rfl (fun q6=>?_) (fun q6=>?_)))))
             · skip
               rw [st_5 q6] at hb
               simp only [cat,raw,List.length_append,List.length_cons,List.length_nil] at hb
               rw [uN q6] at hmy
               simp only [Bool.and_eq_true] at hmy
               have hmr:∀ i,i < s.rows.length→mayRow (s.rows.getD i [])=true:=fun i hi=>fu hmy.2.2 hi
               exact ae (tri_slo [(4,_),(1,_)] rfl (aa (ak cd N0 rfl rfl rfl (aj cL rfl rfl (ak bB N1 rfl rfl rfl (gA (parts:=[_,_,_]) (fe [[105,110,115,101,114,116,32,105,110,116,111,32],s.t,[32,118,97,108,117,101,115,32]]) Tryz.underlying23 zs9 rfl rfl rfl rfl (by decide) (by decide) (fun b76=>aI (pb:=b9) [_,_,_] rfl rfl rfl rfl Tryz.call20 (fun w1 h1 h2 h3=>dA [[105,110,115,101,114,116,32,105,110,116,111,32],s.t,[32,118,97,108,117,101,115,32]] _ _ b9 _ _ _ _ _ w1 h2 (RdS.row .z w1 h1) (fun a ha=>by cases ha; exact bf h1 (fun x hx=>(List.mem_cons_of_mem _ (List.mem_cons_of_mem _ hx))) rfl) (by (try simp only [List.length_append,List.length_cons,List.length_nil,List.flatten_cons,List.flatten_nil] at hb ⊢); omega) (by simp)) (fun A77 c77=>triL_nilN (tri_slo [(4,_),(1,_)] rfl (aa (ak cd N1 rfl rfl rfl (aj gv rfl rfl (ak jS N2 rfl rfl rfl (aX Tryz.underlying24 rfl rfl (bD rfl rfl rfl (aI (pb:=b9) [_,_,_] rfl rfl rfl rfl Tryz.call21 (fun w1 h1 h2 h3=>jj (fun i=>iz (s.rows.getD i [])) s.rows.length 24 [] [.pointer (some ⟨b4,0,none⟩),.pointer (some ⟨b1,0,none⟩)] b9 _ _ _ _ w1 h2 (by omega) (by omega) (by (try simp only [List.nil_append,List.length_append,List.length_cons,List.length_nil,List.flatten_cons,List.flatten_nil] at hb ⊢); omega) Tryz.call24 (fun i A1 c1 l1 m1 w2 hi hs hP1 hm1 hb1=>by have hce:=cenv (F:=[_,_,_]) hV.pe h1 (.s .z) (.s (.s .z)); have hPV:PV w1 _ _:=⟨hce.1,(hV.lv.chgL h1.chg (fun k hk=>(hV.pe.g k hk).2))⟩; have hA2:=(hA.stab (hV.pe.st (PSub.of h1 h3))).mono (bl':=b4::b1::bl) (fun k hk=>List.mem_cons_of_mem _ (List.mem_cons_of_mem _ hk)); exact print3K s y (b4::b1::bl) b4 b1 i b9 A1 c1 l1 m1 w2 hP1 hm1 (hPV.sub hs) (hce.2.stab (hce.1.st hs)) (hA2.stab (hce.1.st hs)) hi (hmr i hi) (hok.rows i hi) hb1)) (fun A83 c83=>ab (am (ag (⟨(A83,c83),(.cons rfl (.nil _)),(fun w2 hw2=>fa (by rw [st_5 q6]; simp [cat,raw]) rfl (by rw [st_5 q6]; simp only [cat,raw]; omega) (hw2.sel [1,3,4] (by decide))),trivial⟩))))))))))))))))))))
             · skip
               have hk6:6≤s.k:=by
                rcases Int.lt_or_le s.k 6 with h | h
                · exfalso
                  rw [oX (by omega)] at hmy
                  have:=of_decide_eq_true hmy
                  omega
                · exact h
               exact tri_slo [(4,_),(1,_)] rfl (aa (ak cd N0 rfl rfl rfl (aS fk eU (.s .z) rfl rfl (vs:=bL s y) rfl rfl (aI (pb:=b9) [_,_] rfl rfl rfl rfl Tryz.call27 (fun w1 h1 h2 h3=>othersK s y bl b9 _ _ _ _ w1 h2 (by omega) (hV.sub (PSub.of h1 h3)) (hA.stab (hV.pe.st (PSub.of h1 h3))) (by omega) hmy hok (by (try simp only [List.length_nil]); omega)) (fun A14 c14=>ab (am (ag (⟨(A14,c14),(.cons rfl (.nil _)),(fun w2 hw2=>fa (by simp) rfl (by rfl) (hw2.sel [0,2,3] (by decide))),trivial⟩))))))))
   refine ae ?_
   have hb:=hT q0
   refine aa (ak cd N0 rfl rfl rfl (gK (J:=Unit) (val:=fun _=>.tuple #[.string (B (je _ _).1),.int .i64 (je _ _).2]) (D':=fun _=>prD b9 _ _ _ _ _) (Pu:=fun _=>True) [_] (prD b9 _ _ _ _ _) [] (prL b9 _) rfl rfl rfl rfl Tryz.call28 (prD1 _ _ _ _ _ _) (prD2 _ _ _ _ _ _) (fun w1 h1 h2=>toldK b9 _ _ _ _ _ w1 h2 (by (try simp only [List.nil_append]); omega)) (fun _ _=>aZ rfl rfl rfl (aZ rfl rfl rfl (aO rfl rfl (o_assignN rfl rfl (aq (ky rfl rfl rfl ?_)))))))); exact fun w1 hw1=>⟨by rw [show max (0:Int) ((stmT s).2:Int)=((stmT s).2:Int) by omega,if_pos q0],hw1.chg⟩
end Go.Proofs.YtjbpkcbefmpfgaaGreatDoor
namespace Go.Proofs.YtjbpkcbefmpfgaaGreatDoor
open Go.WK Go.RowKit 
theorem yP {a b:Ex} {i:Nat} (h:∀ j,j < i→a.as.getD j Ex.zero=b.as.getD j Ex.zero) (h1:a.as.getD i Ex.zero=b.as.getD i Ex.zero):∀ j,j < i+1→a.as.getD j Ex.zero=b.as.getD j Ex.zero:=fun j hj=>by
 rcases Nat.lt_or_ge j i with h2 | h2
 · exact h j h2
 · have e:j=i:=by omega
   rw [e]; exact h1
def SX (a:Ex):Prop:=∀ (b:Ex) (cs ds:List Value) (w:World),ExC w a cs→ExC w b ds→a.size≤70368744177664→Calls Tryz.prog 17 #[.agg cs.toArray,.agg ds.toArray] w (cG w (.bool (decide (a=b))))
set_option maxHeartbeats 1000000 in
theorem sameStep (a b:Ex) (y z:SL) (xa xb:List Value) (w:World) (h1:Rd w y.A xa) (h2:ExsC w a.as xa) (h3:Rd w z.A xb) (h4:ExsC w b.as xb) (hz:a.size≤70368744177664) (ih:∀ i,i < a.as.length→SX (a.as.getD i Ex.zero)):Calls Tryz.prog 17 #[.agg (bU a y).toArray,.agg (bU b z).toArray] w (cG w (.bool (decide (a=b)))):=by
 refine az (args:=[.agg (bU a y).toArray,.agg (bU b z).toArray]) (lent:=[]) (H:=[]) Tryz.func17 rfl Tryz.ntmps17 rfl (Sat.start _ _ _ _) ((show Tri _ [(0,_),(1,_)] _ _ _ from ?_))
 have hRa:∀ cx H,cx.w0=w→cx.lent=[]→RdS cx H y.A _:=fun cx H q1 q2=>RdS.lent (by rw [q1]; exact h1) (fun b hb=>by rw [q2]; simp)
 have hRb:∀ cx H,cx.w0=w→cx.lent=[]→RdS cx H z.A _:=fun cx H q1 q2=>RdS.lent (by rw [q1]; exact h3) (fun b hb=>by rw [q2]; simp)
 have hxa:=h2.len
 have hxb:=h4.len
 have hal:=as_len (e:=a)
 refine ae (aa (cD _ rfl rfl rfl (fun b2=>cD _ rfl rfl rfl (fun b3=>o_assignN rfl rfl (ae (ae (aa (aj db rfl rfl (ak bR N1 rfl rfl rfl (aj db rfl rfl (ak bR N0 rfl rfl rfl (cX rfl rfl rfl (ai rfl rfl ?_)))))))))))))
 refine' bv [_,_,_,_,_] [(3,_),(2,_)] (dj:=11) (dr:=16) rfl rfl (fun g1=>?_) ⟨_,rfl,rfl,rfl,(.cons rfl (.cons rfl (.nil _)))⟩ rfl ?_
 rotate_left
 · skip
   exact aj mf rfl rfl (aS lO nP (.s .z) rfl rfl (vs:=Val.cs a.v) rfl rfl (aj mf rfl rfl (aS lO nP .z rfl rfl (vs:=Val.cs b.v) rfl rfl (o_neqV sa rfl rfl rfl (ab (Piece.mk rfl rfl (.cons rfl (.cons rfl (.nil _))) (fun _ h=>h)))))))
 refine ai rfl rfl ?_
 refine' bv [_,_,_,_,_] [(3,_),(2,_)] (dj:=18) (dr:=23) rfl rfl (fun g2=>?_) ⟨_,rfl,rfl,rfl,(.cons rfl (.cons rfl (.nil _)))⟩ rfl ?_
 rotate_left
 · skip
   exact aj ju rfl rfl (ak bB N1 rfl rfl rfl (aj ju rfl rfl (ak bB N0 rfl rfl rfl (dX rfl rfl rfl (ab (Piece.mk rfl rfl (.cons rfl (.cons rfl (.nil _))) (fun _ h=>h)))))))
 refine ai rfl rfl ?_
 refine' bv [_,_,_,_,_] [(3,_),(2,_)] (dj:=25) (dr:=30) rfl rfl (fun g3=>?_) ⟨_,rfl,rfl,rfl,(.cons rfl (.cons rfl (.nil _)))⟩ rfl ?_
 rotate_left
 · skip
   exact aj jt rfl rfl (ak bB N1 rfl rfl rfl (aj jt rfl rfl (ak bB N0 rfl rfl rfl (dX rfl rfl rfl (ab (Piece.mk rfl rfl (.cons rfl (.cons rfl (.nil _))) (fun _ h=>h)))))))
 refine ai rfl rfl ?_
 refine' bv [_,_,_,_,_] [(3,_),(2,_)] (dj:=32) (dr:=37) rfl rfl (fun g4=>?_) ⟨_,rfl,rfl,rfl,(.cons rfl (.cons rfl (.nil _)))⟩ rfl ?_
 rotate_left
 · skip
   exact aj se rfl rfl (ak bR N1 rfl rfl rfl (aj se rfl rfl (ak bR N0 rfl rfl rfl (cX rfl rfl rfl (ab (Piece.mk rfl rfl (.cons rfl (.cons rfl (.nil _))) (fun _ h=>h)))))))
 refine ai rfl rfl ?_
 refine' bv [_,_,_,_,_,_,_] [(3,_),(2,_)] (dj:=39) (dr:=46) rfl rfl (fun g5=>?_) ⟨_,rfl,rfl,rfl,(.cons rfl (.cons rfl (.nil _)))⟩ rfl ?_
 rotate_left
 · skip
   exact aj eZ rfl rfl (ak fm N1 rfl rfl rfl (aX Tryz.underlying28 rfl rfl (aj eZ rfl rfl (ak fm N0 rfl rfl rfl (aX Tryz.underlying28 rfl rfl (cX rfl rfl rfl (ab (Piece.mk rfl rfl (.cons rfl (.cons rfl (.nil _))) (fun _ h=>h)))))))))
 refine triL_nilN (aG rfl (fun q0=>?_) (fun q0=>?_))
 · skip
   refine ae (aa (o_assignN rfl rfl (aq (an (ba rfl rfl ?_))))); exact fun w1 hw1=>⟨congrArg (fun b=>Ending.returned (.bool b)) (by exact (decide_eq_false (ex_ne q0)).symm),hw1.chg⟩
 · skip
   have hlen:=ex_len q0
   refine ao (ag (ae (ae (aa (o_assignN rfl rfl (ay (bI (ι:=Nat) (F:=fun i=>[(2,.pointer (some ⟨b2,0,none⟩)),(3,.pointer (some ⟨b3,0,none⟩)),(5,.int .i64 (i:Int))]) (HH:=fun i=>[box b3 30 (bU b z),box b2 30 (bU a y)]) (Pu:=fun i=>i≤a.as.length∧∀ j,j < i→a.as.getD j Ex.zero=b.as.getD j Ex.zero) (μ:=fun i=>a.as.length - i) (0) (.cons rfl (.cons rfl (.cons rfl (.nil _)))) (fun _ h=>h) (⟨Nat.zero_le _,fun j hj=>absurd hj (by omega)⟩) (fun i hi=>ae (ae (aa (ai rfl rfl (aj eZ rfl rfl (ak fm N1 rfl rfl rfl (aX Tryz.underlying28 rfl rfl (cR rfl rfl rfl (triL_nilN (av rfl (fun q1=>?_) (fun q1=>?_))))))))))))))))))
   · skip
     have hil:i < a.as.length:=by omega
     refine ao (ag (ae (ay (ae (tri_slo [(2,_),(3,_),(5,_)] rfl ?_)))))
     obtain ⟨ca,hca,hka⟩:=ExsC.at i h2 hil
     obtain ⟨cb,hcb,hkb⟩:=ExsC.at i h4 (by omega)
     refine bj (_) [(0,true),(1,true),(2,true),(3,true),(4,true),(5,true),(6,true),(7,true),(8,true),(9,true),(10,false),(11,false)] [10,11] (by kernel_rfl) (by kernel_rfl) (fun _ h=>h) (ah rfl (aj eZ rfl rfl (ab ⟨rfl,ah rfl (ak fm N1 rfl rfl rfl (ab ⟨rfl,ah rfl (ai rfl rfl (ab ⟨rfl,ah rfl (aU Tryz.underlying28 aY rfl rfl rfl (hRa _ _ rfl rfl) (by (try simp only [List.length_append,List.length_cons,List.length_nil]); omega) (by (try simp only [List.length_append,List.length_cons,List.length_nil]); omega) (by omega) (by decide) (ab ⟨rfl,ah rfl (bF bh aY rfl rfl (hRa _ _ rfl rfl) (vs:=ca) hca hka.len (by decide) (ab ⟨rfl,ah rfl (aj eZ rfl rfl (ab ⟨rfl,ah rfl (ak fm N0 rfl rfl rfl (ab ⟨rfl,ah rfl (ai rfl rfl (ab ⟨rfl,ah rfl (aU Tryz.underlying28 aY rfl rfl rfl (hRb _ _ rfl rfl) (by (try simp only [List.length_append,List.length_cons,List.length_nil]); omega) (by (try simp only [List.length_append,List.length_cons,List.length_nil]); omega) (by omega) (by decide) (ab ⟨rfl,ah rfl (bF bh aY rfl rfl (hRb _ _ rfl rfl) (vs:=cb) hcb hkb.len (by decide) (ab ⟨rfl,(bM [10,11] [_,_] rfl rfl (aF (first:=[]) (cap:=[]) rfl rfl rfl Tryz.call17 (fun w1 h1=>ih i hil _ ca cb w1 (ExC.chg h1.chg _ _ hka) (ExC.chg h1.chg _ _ hkb) (by have:=ws (e:=a) hil; omega)) (dV rfl rfl (ab ⟨rfl,(ag (aG rfl (fun q2=>?_) (fun q2=>?_)))⟩))))⟩))⟩))⟩))⟩))⟩))⟩))⟩))⟩))⟩))⟩)))
     · skip
       have q2:=cJ q2
       refine ae (au [] (.nil _) (aa (o_assignN rfl rfl (aq (ap (an (an (ap (an (ba rfl rfl ?_)))))))))); exact fun w1 hw1=>⟨congrArg (fun b=>Ending.returned (.bool b)) (by exact (decide_eq_false (fun e=>(of_decide_eq_false q2) (by rw [e]))).symm),hw1.chg⟩
     · skip
       have q2:=cp q2
       exact ao (am (ag (tri_slo [(2,_),(3,_),(5,_)] rfl (aa (ai rfl rfl (bJ rfl rfl rfl (by (try simp only [List.length_append,List.length_cons,List.length_nil]); omega) (o_assignN rfl rfl (⟨i+1,(.cons rfl (.cons rfl (.cons rfl (.nil _)))),fun _ h=>h,⟨by omega,fun j hj=>yP hi.2 (of_decide_eq_true q2) j hj⟩,by omega⟩))))))))
   · skip
     refine bu (ax (ax (aP (ag (ae (au [] (.nil _) (aa (o_assignN rfl rfl (aq (ba rfl rfl ?_)))))))))); exact fun w1 hw1=>⟨congrArg (fun b=>Ending.returned (.bool b)) (by exact (decide_eq_true (ex_eq q0 (fun j hj=>hi.2 j (by omega)))).symm),hw1.chg⟩
end Go.Proofs.YtjbpkcbefmpfgaaGreatDoor
namespace Go.Proofs.YtjbpkcbefmpfgaaGreatDoor
open Go.WK Go.RowKit 
theorem sameAll:∀ (n:Nat) (a:Ex),a.size < n→SX a:=by
 intro n
 induction n with
 | zero=>intro a h; omega
 | succ n ih =>
  intro a hs b cs ds w ha hb hz
  obtain ⟨y,xa,rfl,_,h1,h2⟩:=exC_R ha
  obtain ⟨z,xb,rfl,_,h3,h4⟩:=exC_R hb
  exact sameStep a b y z xa xb w h1 h2 h3 h4 hz (fun i hi=>ih _ (by have:=ws (e:=a) hi; omega))
theorem qZ (a b:Ex) (cs ds:List Value) (w:World) (ha:ExC w a cs) (hb:ExC w b ds) (hz:a.size≤70368744177664):Calls Tryz.prog 17 #[.agg cs.toArray,.agg ds.toArray] w (cG w (.bool (decide (a=b)))):=sameAll (a.size+1) a (by omega) b cs ds w ha hb hz
end Go.Proofs.YtjbpkcbefmpfgaaGreatDoor
namespace Go.Proofs.YtjbpkcbefmpfgaaGreatDoor
open Go.WK Go.RowKit 
theorem pT (x0:Int) (x2:ByteArray) (x3:ByteArray):Tryz.prog.built 30 [(0,.int .i64 x0),(2,.string x2),(3,.string x3)]=some ([.int .i64 x0,.int .i64 0,.int .i64 0,.string .empty,.string x2,.string x3,.int .i64 0,.slice none 0 0]:List Value).toArray:=by kernel_rfl
end Go.Proofs.YtjbpkcbefmpfgaaGreatDoor
namespace Go.Proofs.YtjbpkcbefmpfgaaGreatDoor
open Go.WK Go.RowKit 
theorem flat71:jb Tryz.prog 71=some colKs:=by kernel_rfl
theorem flat121:jb Tryz.prog 121=some ordKs:=by kernel_rfl
theorem yQ (l m:List ColX) (y z:SL) (bl bm:List Nat) (xa xb:List Value) (w:World) (hA:SlR colKd bl w l y xa) (hB:SlR colKd bm w m z xb) (hn:l.length≤70368744177664):Calls Tryz.prog 48 #[.slice y.A l.length y.k,.slice z.A m.length z.k] w (cG w (.bool (decide (l=m)))):=by
 refine az (args:=[.slice y.A l.length y.k,.slice z.A m.length z.k]) (lent:=[]) (H:=[]) Tryz.func48 rfl Tryz.ntmps48 rfl (Sat.start _ _ _ _) ((show Tri _ [(0,_),(1,_)] _ _ _ from ae (aa (o_assignN rfl rfl (ae (ae (aa (ai rfl rfl (aX Tryz.underlying22 rfl rfl (ai rfl rfl (aX Tryz.underlying22 rfl rfl (cX rfl rfl rfl (triL_nilN (av rfl (fun q0=>?_) (fun q0=>?_)))))))))))))))
 · skip
   refine ae (au [] (.nil _) (aa (o_assignN rfl rfl (aq (an (ba rfl rfl ?_)))))); exact fun w1 hw1=>⟨congrArg (fun b=>Ending.returned (.bool b)) (by exact (decide_eq_false (uP q0)).symm),hw1.chg⟩
 · skip
   have hlen:l.length=m.length:=by omega
   refine ao (ag (ae (ae (tri_slo [(0,_),(1,_)] rfl (aa (o_assignN rfl rfl (ay (bI (ι:=Nat) (F:=fun i=>[(0,.slice y.A l.length y.k),(1,.slice z.A m.length z.k),(5,.int .i64 (i:Int))]) (HH:=fun i=>[]) (Pu:=fun i=>i≤l.length∧∀ j,j < i→l.getD j ColX.zero=m.getD j ColX.zero) (μ:=fun i=>l.length - i) (0) (.cons rfl (.cons rfl (.cons rfl (.nil _)))) (fun _ h=>h) (⟨Nat.zero_le _,fun j hj=>absurd hj (by omega)⟩) (fun i hi=>ae (ae (aa (ai rfl rfl (ai rfl rfl (aX Tryz.underlying22 rfl rfl (cR rfl rfl rfl (triL_nilN (av rfl (fun q1=>?_) (fun q1=>?_))))))))))))))))))
   · skip
     have hil:i < l.length:=by omega
     refine ao (ag (ae (ay (ae (tri_slo [(0,_),(1,_),(5,_)] rfl ?_)))))
     have hca:=ru hA i hil
     have hcb:=ru hB i (by omega)
     refine bj (_) [(0,true),(1,true),(2,true),(3,true),(4,true),(5,true),(6,true),(7,true),(8,false)] [8] (by kernel_rfl) (by kernel_rfl) (fun _ h=>h) (ah rfl (ai rfl rfl (ab ⟨rfl,ah rfl (ai rfl rfl (ab ⟨rfl,ah rfl (aU Tryz.underlying22 sz71 rfl rfl rfl (hA.rd0 _ _ rfl rfl) (by (try simp only [List.length_append,List.length_cons,List.length_nil]); omega) (by (try simp only [List.length_append,List.length_cons,List.length_nil]); omega) hA.len (by decide) (ab ⟨rfl,ah rfl (bF agg71 sz71 rfl rfl (hA.rd0 _ _ rfl rfl) (vs:=ColX.cs (l.getD i ColX.zero)) hca rfl (by decide) (ab ⟨rfl,ah rfl (ai rfl rfl (ab ⟨rfl,ah rfl (ai rfl rfl (ab ⟨rfl,ah rfl (aU Tryz.underlying22 sz71 rfl rfl rfl (hB.rd0 _ _ rfl rfl) (by (try simp only [List.length_append,List.length_cons,List.length_nil]); omega) (by (try simp only [List.length_append,List.length_cons,List.length_nil]); omega) hB.len (by decide) (ab ⟨rfl,ah rfl (bF agg71 sz71 rfl rfl (hB.rd0 _ _ rfl rfl) (vs:=ColX.cs (m.getD i ColX.zero)) hcb rfl (by decide) (ab ⟨rfl,(bM [8] [_] rfl rfl (o_neqCol flat71 rfl rfl rfl (ab ⟨rfl,(ag (aG rfl (fun q2=>?_) (fun q2=>?_)))⟩)))⟩))⟩))⟩))⟩))⟩))⟩))⟩))⟩)))
     · skip
       have q2:=of_decide_eq_false (cJ q2)
       refine ae (au [] (.nil _) (aa (o_assignN rfl rfl (aq (ap (an (an (ap (an (ba rfl rfl ?_)))))))))); exact fun w1 hw1=>⟨congrArg (fun b=>Ending.returned (.bool b)) (by exact (decide_eq_false (at_ne q2)).symm),hw1.chg⟩
     · skip
       have q2:=of_decide_eq_true (cp q2)
       exact ao (am (ag (tri_slo [(0,_),(1,_),(5,_)] rfl (aa (ai rfl rfl (bJ rfl rfl rfl (by (try simp only [List.length_append,List.length_cons,List.length_nil]); omega) (o_assignN rfl rfl (⟨i+1,(.cons rfl (.cons rfl (.cons rfl (.nil _)))),fun _ h=>h,⟨by omega,upd hi.2 q2⟩,by omega⟩))))))))
   · skip
     refine bu (ax (ax (aP (ag (ae (au [] (.nil _) (aa (o_assignN rfl rfl (aq (ba rfl rfl ?_)))))))))); exact fun w1 hw1=>⟨congrArg (fun b=>Ending.returned (.bool b)) (by exact (decide_eq_true (gm ColX.zero hlen (fun j hj=>hi.2 j (by omega)))).symm),hw1.chg⟩
theorem vz (l m:List (List UInt8)) (y z:SL) (bl bm:List Nat) (xa xb:List Value) (w:World) (hA:SlR nameKd bl w l y xa) (hB:SlR nameKd bm w m z xb) (hn:l.length≤70368744177664):Calls Tryz.prog 49 #[.slice y.A l.length y.k,.slice z.A m.length z.k] w (cG w (.bool (decide (l=m)))):=by
 refine az (args:=[.slice y.A l.length y.k,.slice z.A m.length z.k]) (lent:=[]) (H:=[]) Tryz.func49 rfl Tryz.ntmps49 rfl (Sat.start _ _ _ _) ((show Tri _ [(0,_),(1,_)] _ _ _ from ae (aa (o_assignN rfl rfl (ae (ae (aa (ai rfl rfl (aX Tryz.underlying23 rfl rfl (ai rfl rfl (aX Tryz.underlying23 rfl rfl (cX rfl rfl rfl (triL_nilN (av rfl (fun q0=>?_) (fun q0=>?_)))))))))))))))
 · skip
   refine ae (au [] (.nil _) (aa (o_assignN rfl rfl (aq (an (ba rfl rfl ?_)))))); exact fun w1 hw1=>⟨congrArg (fun b=>Ending.returned (.bool b)) (by exact (decide_eq_false (uP q0)).symm),hw1.chg⟩
 · skip
   have hlen:l.length=m.length:=by omega
   refine ao (ag (ae (ae (tri_slo [(0,_),(1,_)] rfl (aa (o_assignN rfl rfl (ay (bI (ι:=Nat) (F:=fun i=>[(0,.slice y.A l.length y.k),(1,.slice z.A m.length z.k),(5,.int .i64 (i:Int))]) (HH:=fun i=>[]) (Pu:=fun i=>i≤l.length∧∀ j,j < i→l.getD j []=m.getD j []) (μ:=fun i=>l.length - i) (0) (.cons rfl (.cons rfl (.cons rfl (.nil _)))) (fun _ h=>h) (⟨Nat.zero_le _,fun j hj=>absurd hj (by omega)⟩) (fun i hi=>ae (ae (aa (ai rfl rfl (ai rfl rfl (aX Tryz.underlying23 rfl rfl (cR rfl rfl rfl (triL_nilN (av rfl (fun q1=>?_) (fun q1=>?_))))))))))))))))))
   · skip
     have hil:i < l.length:=by omega
     refine ao (ag (ae (ay (ae (tri_slo [(0,_),(1,_),(5,_)] rfl ?_)))))
     have hca:=nZ hA i hil
     have hcb:=nZ hB i (by omega)
     refine bj (_) [(0,true),(1,true),(2,true),(3,true),(4,true),(5,true),(6,true),(7,true),(8,false)] [8] (by kernel_rfl) (by kernel_rfl) (fun _ h=>h) (ah rfl (ai rfl rfl (ab ⟨rfl,ah rfl (ai rfl rfl (ab ⟨rfl,ah rfl (aU Tryz.underlying23 sz9 rfl rfl rfl (hA.rd0 _ _ rfl rfl) (by (try simp only [List.length_append,List.length_cons,List.length_nil]); omega) (by (try simp only [List.length_append,List.length_cons,List.length_nil]); omega) hA.len (by decide) (ab ⟨rfl,ah rfl (aL bB rfl rfl (hA.rd0 _ _ rfl rfl) (aR hca (j:=0) rfl) (ab ⟨rfl,ah rfl (ai rfl rfl (ab ⟨rfl,ah rfl (ai rfl rfl (ab ⟨rfl,ah rfl (aU Tryz.underlying23 sz9 rfl rfl rfl (hB.rd0 _ _ rfl rfl) (by (try simp only [List.length_append,List.length_cons,List.length_nil]); omega) (by (try simp only [List.length_append,List.length_cons,List.length_nil]); omega) hB.len (by decide) (ab ⟨rfl,ah rfl (aL bB rfl rfl (hB.rd0 _ _ rfl rfl) (aR hcb (j:=0) rfl) (ab ⟨rfl,(bM [8] [_] rfl rfl (dX rfl rfl rfl (ab ⟨rfl,(ag (aG rfl (fun q2=>?_) (fun q2=>?_)))⟩)))⟩))⟩))⟩))⟩))⟩))⟩))⟩))⟩)))
     · skip
       have q2:=of_decide_eq_true q2
       refine ae (au [] (.nil _) (aa (o_assignN rfl rfl (aq (ap (an (an (ap (an (ba rfl rfl ?_)))))))))); exact fun w1 hw1=>⟨congrArg (fun b=>Ending.returned (.bool b)) (by exact (decide_eq_false (at_ne q2)).symm),hw1.chg⟩
     · skip
       have q2:=Decidable.not_not.1 (of_decide_eq_false q2)
       exact ao (am (ag (tri_slo [(0,_),(1,_),(5,_)] rfl (aa (ai rfl rfl (bJ rfl rfl rfl (by (try simp only [List.length_append,List.length_cons,List.length_nil]); omega) (o_assignN rfl rfl (⟨i+1,(.cons rfl (.cons rfl (.cons rfl (.nil _)))),fun _ h=>h,⟨by omega,upd hi.2 q2⟩,by omega⟩))))))))
   · skip
     refine bu (ax (ax (aP (ag (ae (au [] (.nil _) (aa (o_assignN rfl rfl (aq (ba rfl rfl ?_)))))))))); exact fun w1 hw1=>⟨congrArg (fun b=>Ending.returned (.bool b)) (by exact (decide_eq_true (gm ([]:List UInt8) hlen (fun j hj=>hi.2 j (by omega)))).symm),hw1.chg⟩
theorem sameExsK (l m:List Ex) (y z:SL) (bl bm:List Nat) (xa xb:List Value) (w:World) (hA:SlR dU bl w l y xa) (hB:SlR dU bm w m z xb) (hn:l.length≤70368744177664) (hz:∀ i,i < l.length→(l.getD i Ex.zero).size≤70368744177664):Calls Tryz.prog 51 #[.slice y.A l.length y.k,.slice z.A m.length z.k] w (cG w (.bool (decide (l=m)))):=by
 refine az (args:=[.slice y.A l.length y.k,.slice z.A m.length z.k]) (lent:=[]) (H:=[]) Tryz.func51 rfl Tryz.ntmps51 rfl (Sat.start _ _ _ _) ((show Tri _ [(0,_),(1,_)] _ _ _ from ae (aa (o_assignN rfl rfl (ae (ae (aa (ai rfl rfl (aX Tryz.underlying28 rfl rfl (ai rfl rfl (aX Tryz.underlying28 rfl rfl (cX rfl rfl rfl (triL_nilN (av rfl (fun q0=>?_) (fun q0=>?_)))))))))))))))
 · skip
   refine ae (au [] (.nil _) (aa (o_assignN rfl rfl (aq (an (ba rfl rfl ?_)))))); exact fun w1 hw1=>⟨congrArg (fun b=>Ending.returned (.bool b)) (by exact (decide_eq_false (uP q0)).symm),hw1.chg⟩
 · skip
   have hlen:l.length=m.length:=by omega
   refine ao (ag (ae (ae (tri_slo [(0,_),(1,_)] rfl (aa (o_assignN rfl rfl (ay (bI (ι:=Nat) (F:=fun i=>[(0,.slice y.A l.length y.k),(1,.slice z.A m.length z.k),(5,.int .i64 (i:Int))]) (HH:=fun i=>[]) (Pu:=fun i=>i≤l.length∧∀ j,j < i→l.getD j Ex.zero=m.getD j Ex.zero) (μ:=fun i=>l.length - i) (0) (.cons rfl (.cons rfl (.cons rfl (.nil _)))) (fun _ h=>h) (⟨Nat.zero_le _,fun j hj=>absurd hj (by omega)⟩) (fun i hi=>ae (ae (aa (ai rfl rfl (ai rfl rfl (aX Tryz.underlying28 rfl rfl (cR rfl rfl rfl (triL_nilN (av rfl (fun q1=>?_) (fun q1=>?_))))))))))))))))))
   · skip
     have hil:i < l.length:=by omega
     refine ao (ag (ae (ay (ae (tri_slo [(0,_),(1,_),(5,_)] rfl ?_)))))
     obtain ⟨ya,hca,hya⟩:=ex_at hA i hil
     obtain ⟨yb,hcb,hyb⟩:=ex_at hB i (by omega)
     refine bj (_) [(0,true),(1,true),(2,true),(3,true),(4,true),(5,true),(6,true),(7,true),(8,false),(9,false)] [8,9] (by kernel_rfl) (by kernel_rfl) (fun _ h=>h) (ah rfl (ai rfl rfl (ab ⟨rfl,ah rfl (ai rfl rfl (ab ⟨rfl,ah rfl (aU Tryz.underlying28 aY rfl rfl rfl (hA.rd0 _ _ rfl rfl) (by (try simp only [List.length_append,List.length_cons,List.length_nil]); omega) (by (try simp only [List.length_append,List.length_cons,List.length_nil]); omega) hA.len (by decide) (ab ⟨rfl,ah rfl (bF bh aY rfl rfl (hA.rd0 _ _ rfl rfl) (vs:=bU (l.getD i Ex.zero) ya) hca rfl (by decide) (ab ⟨rfl,ah rfl (ai rfl rfl (ab ⟨rfl,ah rfl (ai rfl rfl (ab ⟨rfl,ah rfl (aU Tryz.underlying28 aY rfl rfl rfl (hB.rd0 _ _ rfl rfl) (by (try simp only [List.length_append,List.length_cons,List.length_nil]); omega) (by (try simp only [List.length_append,List.length_cons,List.length_nil]); omega) hB.len (by decide) (ab ⟨rfl,ah rfl (bF bh aY rfl rfl (hB.rd0 _ _ rfl rfl) (vs:=bU (m.getD i Ex.zero) yb) hcb rfl (by decide) (ab ⟨rfl,(bM [8,9] [_,_] rfl rfl (aF (first:=[]) (cap:=[]) rfl rfl rfl Tryz.call17 (fun w1 h1=>qZ _ _ _ _ w1 (ExC.chg h1.chg _ _ (ExK.c _ _ hya)) (ExC.chg h1.chg _ _ (ExK.c _ _ hyb)) (hz i hil)) (dV rfl rfl (ab ⟨rfl,(ag (aG rfl (fun q2=>?_) (fun q2=>?_)))⟩))))⟩))⟩))⟩))⟩))⟩))⟩))⟩))⟩)))
     · skip
       have q2:=of_decide_eq_false (cJ q2)
       refine ae (au [] (.nil _) (aa (o_assignN rfl rfl (aq (ap (an (an (ap (an (ba rfl rfl ?_)))))))))); exact fun w1 hw1=>⟨congrArg (fun b=>Ending.returned (.bool b)) (by exact (decide_eq_false (at_ne q2)).symm),hw1.chg⟩
     · skip
       have q2:=of_decide_eq_true (cp q2)
       exact ao (am (ag (tri_slo [(0,_),(1,_),(5,_)] rfl (aa (ai rfl rfl (bJ rfl rfl rfl (by (try simp only [List.length_append,List.length_cons,List.length_nil]); omega) (o_assignN rfl rfl (⟨i+1,(.cons rfl (.cons rfl (.cons rfl (.nil _)))),fun _ h=>h,⟨by omega,upd hi.2 q2⟩,by omega⟩))))))))
   · skip
     refine bu (ax (ax (aP (ag (ae (au [] (.nil _) (aa (o_assignN rfl rfl (aq (ba rfl rfl ?_)))))))))); exact fun w1 hw1=>⟨congrArg (fun b=>Ending.returned (.bool b)) (by exact (decide_eq_true (gm Ex.zero hlen (fun j hj=>hi.2 j (by omega)))).symm),hw1.chg⟩
set_option maxRecDepth 100000 in
set_option maxHeartbeats 2000000 in
theorem sameQK (a b:QryX) (y z:QLay) (bl bm:List Nat) (w:World) (hA:QAt bl w a y) (hB:QAt bm w b z) (hbd:QBd a):Calls Tryz.prog 50 #[.agg (eQ a y).toArray,.agg (eQ b z).toArray] w (cG w (.bool (decide (a=b)))):=by
 refine az (args:=[.agg (eQ a y).toArray,.agg (eQ b z).toArray]) (lent:=[]) (H:=[]) Tryz.func50 rfl Tryz.ntmps50 rfl (Sat.start _ _ _ _) ((show Tri _ [(0,_),(1,_)] _ _ _ from ?_))
 obtain ⟨xIa,xFa,xOa,hIa,hFa,hWa,hOa⟩:=hA
 obtain ⟨xIb,xFb,xOb,hIb,hFb,hWb,hOb⟩:=hB
 have n1:a.items.length≤70368744177664:=hbd.ni
 have n2:a.from_.length≤70368744177664:=hbd.nf
 have n3:a.ord.length≤70368744177664:=hbd.no
 refine ae (aa (cD _ rfl rfl rfl (fun b2=>cD _ rfl rfl rfl (fun b3=>o_assignN rfl rfl (ae (ae (aa (aj nj rfl rfl (ak ij N1 rfl rfl rfl (aj nj rfl rfl (ak ij N0 rfl rfl rfl (rc rfl Tryz.underlying4 rfl rfl (ai rfl rfl ?_)))))))))))))
 refine' bv [_,_,_,_,_] [(3,_),(2,_)] (dj:=13) (dr:=18) rfl rfl (fun g1=>?_) ⟨_,rfl,rfl,rfl,(.cons rfl (.cons rfl (.nil _)))⟩ rfl ?_
 rotate_left
 · skip
   exact aj mc rfl rfl (ak ij N1 rfl rfl rfl (aj mc rfl rfl (ak ij N0 rfl rfl rfl (rc rfl Tryz.underlying4 rfl rfl (ab (Piece.mk rfl rfl (.cons rfl (.cons rfl (.nil _))) (fun _ h=>h)))))))
 refine ai rfl rfl ?_
 refine' bv [_,_,_,_,_] [(3,_),(2,_)] (dj:=20) (dr:=25) rfl rfl (fun g2=>?_) ⟨_,rfl,rfl,rfl,(.cons rfl (.cons rfl (.nil _)))⟩ rfl ?_
 rotate_left
 · skip
   exact aj me rfl rfl (ak ij N1 rfl rfl rfl (aj me rfl rfl (ak ij N0 rfl rfl rfl (rc rfl Tryz.underlying4 rfl rfl (ab (Piece.mk rfl rfl (.cons rfl (.cons rfl (.nil _))) (fun _ h=>h)))))))
 refine ai rfl rfl ?_
 refine' bv [_,_,_,_,_] [(3,_),(2,_)] (dj:=27) (dr:=32) rfl rfl (fun g3=>?_) ⟨_,rfl,rfl,rfl,(.cons rfl (.cons rfl (.nil _)))⟩ rfl ?_
 rotate_left
 · skip
   exact aj le rfl rfl (ak bR N1 rfl rfl rfl (aj le rfl rfl (ak bR N0 rfl rfl rfl (cX rfl rfl rfl (ab (Piece.mk rfl rfl (.cons rfl (.cons rfl (.nil _))) (fun _ h=>h)))))))
 refine ai rfl rfl ?_
 refine' bv [_,_,_,_,_,_,_] [(3,_),(2,_)] (dj:=34) (dr:=41) rfl rfl (fun g4=>?_) ⟨_,rfl,rfl,rfl,(.cons rfl (.cons rfl (.nil _)))⟩ rfl ?_
 rotate_left
 · skip
   exact aj dO rfl rfl (ak gu N1 rfl rfl rfl (aX Tryz.underlying31 rfl rfl (aj dO rfl rfl (ak gu N0 rfl rfl rfl (aX Tryz.underlying31 rfl rfl (cX rfl rfl rfl (ab (Piece.mk rfl rfl (.cons rfl (.cons rfl (.nil _))) (fun _ h=>h)))))))))
 refine ai rfl rfl ?_
 refine' bv [_,_,_,_,_,_,_] [(3,_),(2,_)] (dj:=43) (dr:=50) rfl rfl (fun g5=>?_) ⟨_,rfl,rfl,rfl,(.cons rfl (.cons rfl (.nil _)))⟩ rfl ?_
 rotate_left
 · skip
   exact aj cZ rfl rfl (ak eI N1 rfl rfl rfl (aX Tryz.underlying32 rfl rfl (aj cZ rfl rfl (ak eI N0 rfl rfl rfl (aX Tryz.underlying32 rfl rfl (cX rfl rfl rfl (ab (Piece.mk rfl rfl (.cons rfl (.cons rfl (.nil _))) (fun _ h=>h)))))))))
 refine ai rfl rfl ?_
 refine' bv [_,_,_,_,_,_,_] [(3,_),(2,_)] (dj:=52) (dr:=59) rfl rfl (fun g6=>?_) ⟨_,rfl,rfl,rfl,(.cons rfl (.cons rfl (.nil _)))⟩ rfl ?_
 rotate_left
 · skip
   exact aj fB rfl rfl (ak ji N1 rfl rfl rfl (aX Tryz.underlying33 rfl rfl (aj fB rfl rfl (ak ji N0 rfl rfl rfl (aX Tryz.underlying33 rfl rfl (cX rfl rfl rfl (ab (Piece.mk rfl rfl (.cons rfl (.cons rfl (.nil _))) (fun _ h=>h)))))))))
 refine ai rfl rfl ?_
 refine' bv [_,_,_,_,_,_] [(3,_),(2,_)] (dj:=61) (dr:=67) rfl rfl (fun g7=>?_) ⟨_,rfl,rfl,rfl,(.cons rfl (.cons rfl (.nil _)))⟩ rfl ?_
 rotate_left
 · skip
   exact aj km rfl rfl (aS bh aY (.s .z) rfl rfl (vs:=bU a.wh y.V) rfl rfl (aj km rfl rfl (aS bh aY .z rfl rfl (vs:=bU b.wh z.V) rfl rfl (aF (first:=[]) (cap:=[]) rfl rfl rfl Tryz.call17 (fun w1 h1=>qZ _ _ _ _ w1 (ExC.chg h1.chg _ _ (ExK.c _ _ hWa)) (ExC.chg h1.chg _ _ (ExK.c _ _ hWb)) hbd.wh) (dV rfl rfl (ab (Piece.mk rfl rfl (.cons rfl (.cons rfl (.nil _))) (fun _ h=>h))))))))
 refine triL_nilN (aG rfl (fun q0=>?_) (fun q0=>?_))
 · skip
   have q0:sqB a b=true:=q0
   refine ae (aa (o_assignN rfl rfl (aq (an (ba rfl rfl ?_))))); exact fun w1 hw1=>⟨congrArg (fun b=>Ending.returned (.bool b)) (by exact (decide_eq_false (sq_ne q0)).symm),hw1.chg⟩
 · skip
   have q0:sqB a b=false:=q0
   obtain ⟨_,hli,hlf,hlo⟩:=sq_no q0
   refine ao (ag (ae (ae (aa (o_assignN rfl rfl (ay (bI (ι:=Nat) (F:=fun i=>[(2,.pointer (some ⟨b2,0,none⟩)),(3,.pointer (some ⟨b3,0,none⟩)),(5,.int .i64 (i:Int))]) (HH:=fun i=>[box b3 35 (eQ b z),box b2 35 (eQ a y)]) (Pu:=fun i=>i≤a.items.length∧∀ j,j < i→a.items.getD j ItemX.zero=b.items.getD j ItemX.zero) (μ:=fun i=>a.items.length - i) (0) (.cons rfl (.cons rfl (.cons rfl (.nil _)))) (fun _ h=>h) (⟨Nat.zero_le _,fun j hj=>absurd hj (by omega)⟩) (fun i hi=>ae (ae (aa (ai rfl rfl (aj dO rfl rfl (ak gu N1 rfl rfl rfl (aX Tryz.underlying31 rfl rfl (cR rfl rfl rfl (triL_nilN (av rfl (fun q1=>?_) (fun q1=>?_))))))))))))))))))
   · skip
     have hil:i < a.items.length:=by omega
     refine ao (ag (ae (ay (ae ?_))))
     obtain ⟨ya,hca,hya⟩:=nY hIa i hil
     obtain ⟨yb,hcb,hyb⟩:=nY hIb i (by omega)
     by_cases hs:(a.items.getD i ItemX.zero).s=(b.items.getD i ItemX.zero).s
     · skip
       have hd:decide ((a.items.getD i ItemX.zero).s≠(b.items.getD i ItemX.zero).s)=false:=decide_eq_false (fun h=>h hs)
       refine tri_slo [(2,_),(3,_),(5,_)] rfl (bj (_) [(0,true),(1,true),(2,true),(3,true),(4,true),(5,true),(6,true),(7,true),(8,true),(9,true),(10,true),(11,true),(12,true),(13,true),(14,true),(15,true),(16,true),(17,true),(18,true),(19,true),(20,true),(21,true),(22,true),(23,true),(24,true),(25,true),(26,false),(27,false),(28,false)] [26,27,28] (by kernel_rfl) (by kernel_rfl) (fun _ h=>h) (ah rfl (aj dO rfl rfl (ab ⟨rfl,ah rfl (ak gu N1 rfl rfl rfl (ab ⟨rfl,ah rfl (ai rfl rfl (ab ⟨rfl,ah rfl (aU Tryz.underlying31 mH rfl rfl rfl (hIa.rd0 _ _ rfl rfl) (by (try simp only [List.length_append,List.length_cons,List.length_nil]); omega) (by (try simp only [List.length_append,List.length_cons,List.length_nil]); omega) hIa.len (by decide) (ab ⟨rfl,ah rfl (aV lc rfl rfl (hIa.rd0 _ _ rfl rfl) (aR hca (j:=0) rfl) (ab ⟨rfl,ah rfl (aL bB rfl rfl (hIa.rd0 _ _ rfl rfl) (aR hca (j:=8) rfl) (ab ⟨rfl,ah rfl (aj dO rfl rfl (ab ⟨rfl,ah rfl (ak gu N0 rfl rfl rfl (ab ⟨rfl,ah rfl (ai rfl rfl (ab ⟨rfl,ah rfl (aU Tryz.underlying31 mH rfl rfl rfl (hIb.rd0 _ _ rfl rfl) (by (try simp only [List.length_append,List.length_cons,List.length_nil]); omega) (by (try simp only [List.length_append,List.length_cons,List.length_nil]); omega) hIb.len (by decide) (ab ⟨rfl,ah rfl (aV lc rfl rfl (hIb.rd0 _ _ rfl rfl) (aR hcb (j:=0) rfl) (ab ⟨rfl,ah rfl (aL bB rfl rfl (hIb.rd0 _ _ rfl rfl) (aR hcb (j:=8) rfl) (ab ⟨rfl,ah rfl (dX rfl rfl rfl ?_)⟩))⟩))⟩))⟩))⟩))⟩))⟩))⟩))⟩))⟩))⟩))⟩))))
       rw [hd]
       refine ab ⟨rfl,ah rfl (ai rfl rfl (ab ⟨rfl,ah rfl (aj dO rfl rfl (ab ⟨rfl,ah rfl (ak gu N1 rfl rfl rfl (ab ⟨rfl,ah rfl (ai rfl rfl (ab ⟨rfl,ah rfl (aU Tryz.underlying31 mH rfl rfl rfl (hIa.rd0 _ _ rfl rfl) (by (try simp only [List.length_append,List.length_cons,List.length_nil]); omega) (by (try simp only [List.length_append,List.length_cons,List.length_nil]); omega) hIa.len (by decide) (ab ⟨rfl,ah rfl (aV sh rfl rfl (hIa.rd0 _ _ rfl rfl) (aR hca (j:=0) rfl) (ab ⟨rfl,ah rfl (bF bh aY rfl rfl (hIa.rd0 _ _ rfl rfl) (vs:=bU ((a.items.getD i ItemX.zero).e) ya) (gV (p:=[]) (cs:=bU ((a.items.getD i ItemX.zero).e) ya) (r:=[_]) hca) rfl (by decide) (ab ⟨rfl,ah rfl (aj dO rfl rfl (ab ⟨rfl,ah rfl (ak gu N0 rfl rfl rfl (ab ⟨rfl,ah rfl (ai rfl rfl (ab ⟨rfl,ah rfl (aU Tryz.underlying31 mH rfl rfl rfl (hIb.rd0 _ _ rfl rfl) (by (try simp only [List.length_append,List.length_cons,List.length_nil]); omega) (by (try simp only [List.length_append,List.length_cons,List.length_nil]); omega) hIb.len (by decide) (ab ⟨rfl,ah rfl (aV sh rfl rfl (hIb.rd0 _ _ rfl rfl) (aR hcb (j:=0) rfl) (ab ⟨rfl,ah rfl (bF bh aY rfl rfl (hIb.rd0 _ _ rfl rfl) (vs:=bU ((b.items.getD i ItemX.zero).e) yb) (gV (p:=[]) (cs:=bU ((b.items.getD i ItemX.zero).e) yb) (r:=[_]) hcb) rfl (by decide) (ab ⟨rfl,(bM [26,27,28] [_,_,_] rfl rfl (aF (first:=[]) (cap:=[]) rfl rfl rfl Tryz.call17 (fun w1 h1=>qZ _ _ _ _ w1 (ExC.chg h1.chg _ _ (ExK.c _ _ hya)) (ExC.chg h1.chg _ _ (ExK.c _ _ hyb)) (hbd.items i hil).1) (dV rfl rfl (jc rfl rfl rfl rfl (ab ⟨rfl,(ag (aG rfl (fun q2=>?_) (fun q2=>?_)))⟩)))))⟩))⟩))⟩))⟩))⟩))⟩))⟩))⟩))⟩))⟩))⟩))⟩))⟩))⟩
       · skip
         refine ae (au [] (.nil _) (aa (o_assignN rfl rfl (aq (ap (an (an (ap (an (ba rfl rfl ?_)))))))))); exact fun w1 hw1=>⟨congrArg (fun b=>Ending.returned (.bool b)) (by exact (decide_eq_false (te (wt (.inr (of_decide_eq_false (cJ q2)))))).symm),hw1.chg⟩
       · skip
         exact ao (am (ag (tri_slo [(2,_),(3,_),(5,_)] rfl (aa (ai rfl rfl (bJ rfl rfl rfl (by (try simp only [List.length_append,List.length_cons,List.length_nil]); omega) (o_assignN rfl rfl (⟨i+1,(.cons rfl (.cons rfl (.cons rfl (.nil _)))),fun _ h=>h,⟨by omega,upd hi.2 (item_eq hs (of_decide_eq_true (cp q2)))⟩,by omega⟩))))))))
     · skip
       have hd:decide ((a.items.getD i ItemX.zero).s≠(b.items.getD i ItemX.zero).s)=true:=decide_eq_true hs
       refine tri_slo [(2,_),(3,_),(5,_)] rfl (bj (_) [(0,true),(1,true),(2,true),(3,true),(4,true),(5,true),(6,true),(7,true),(8,true),(9,true),(10,true),(11,true),(12,true),(13,true),(14,true),(15,true),(16,true),(17,true),(18,true),(19,true),(20,true),(21,true),(22,true),(23,true),(24,true),(25,true),(26,false),(27,false),(28,false)] [26,27,28] (by kernel_rfl) (by kernel_rfl) (fun _ h=>h) (ah rfl (aj dO rfl rfl (ab ⟨rfl,ah rfl (ak gu N1 rfl rfl rfl (ab ⟨rfl,ah rfl (ai rfl rfl (ab ⟨rfl,ah rfl (aU Tryz.underlying31 mH rfl rfl rfl (hIa.rd0 _ _ rfl rfl) (by (try simp only [List.length_append,List.length_cons,List.length_nil]); omega) (by (try simp only [List.length_append,List.length_cons,List.length_nil]); omega) hIa.len (by decide) (ab ⟨rfl,ah rfl (aV lc rfl rfl (hIa.rd0 _ _ rfl rfl) (aR hca (j:=0) rfl) (ab ⟨rfl,ah rfl (aL bB rfl rfl (hIa.rd0 _ _ rfl rfl) (aR hca (j:=8) rfl) (ab ⟨rfl,ah rfl (aj dO rfl rfl (ab ⟨rfl,ah rfl (ak gu N0 rfl rfl rfl (ab ⟨rfl,ah rfl (ai rfl rfl (ab ⟨rfl,ah rfl (aU Tryz.underlying31 mH rfl rfl rfl (hIb.rd0 _ _ rfl rfl) (by (try simp only [List.length_append,List.length_cons,List.length_nil]); omega) (by (try simp only [List.length_append,List.length_cons,List.length_nil]); omega) hIb.len (by decide) (ab ⟨rfl,ah rfl (aV lc rfl rfl (hIb.rd0 _ _ rfl rfl) (aR hcb (j:=0) rfl) (ab ⟨rfl,ah rfl (aL bB rfl rfl (hIb.rd0 _ _ rfl rfl) (aR hcb (j:=8) rfl) (ab ⟨rfl,ah rfl (dX rfl rfl rfl ?_)⟩))⟩))⟩))⟩))⟩))⟩))⟩))⟩))⟩))⟩))⟩))⟩))))
       rw [hd]
       refine ab ⟨rfl,ah rfl (ai rfl rfl (ab ⟨rfl,ah rfl (bG rfl rfl (ab ⟨rfl,ah rfl (bG rfl rfl (ab ⟨rfl,ah rfl (bG rfl rfl (ab ⟨rfl,ah rfl (bG rfl rfl (ab ⟨rfl,ah rfl (bG rfl rfl (ab ⟨rfl,ah rfl (bG rfl rfl (ab ⟨rfl,ah rfl (bG rfl rfl (ab ⟨rfl,ah rfl (bG rfl rfl (ab ⟨rfl,ah rfl (bG rfl rfl (ab ⟨rfl,ah rfl (bG rfl rfl (ab ⟨rfl,ah rfl (bG rfl rfl (ab ⟨rfl,ah rfl (bG rfl rfl (ab ⟨rfl,(bM [26,27,28] [_,_,_] rfl rfl (bG rfl rfl (bG rfl rfl (fq rfl rfl rfl rfl (ab ⟨rfl,(ag (cn rfl (ae (au [] (.nil _) (aa (o_assignN rfl rfl (aq (ap ?_))))))))⟩)))))⟩))⟩))⟩))⟩))⟩))⟩))⟩))⟩))⟩))⟩))⟩))⟩))⟩))⟩; refine an (an (ap (an (ba rfl rfl ?_)))); exact fun w1 hw1=>⟨congrArg (fun b=>Ending.returned (.bool b)) (by exact (decide_eq_false (te (wt (.inl hs)))).symm),hw1.chg⟩
   · skip
     have hxi:∀ j,j < a.items.length→_=_:=fun j hj=>hi.2 j (by omega)
     refine bu (ax (ax (aP (ag (ae (ae (tri_slo [(2,_),(3,_)] rfl (aa (o_assignN rfl rfl (ay (bI (ι:=Nat) (F:=fun i=>[(2,.pointer (some ⟨b2,0,none⟩)),(3,.pointer (some ⟨b3,0,none⟩)),(6,.int .i64 (i:Int))]) (HH:=fun i=>[box b3 35 (eQ b z),box b2 35 (eQ a y)]) (Pu:=fun i=>i≤a.from_.length∧∀ j,j < i→a.from_.getD j SrcX.zero=b.from_.getD j SrcX.zero) (μ:=fun i=>a.from_.length - i) (0) (.cons rfl (.cons rfl (.cons rfl (.nil _)))) (fun _ h=>h) (⟨Nat.zero_le _,fun j hj=>absurd hj (by omega)⟩) (fun i hi=>ae (ae (aa (ai rfl rfl (aj cZ rfl rfl (ak eI N1 rfl rfl rfl (aX Tryz.underlying32 rfl rfl (cR rfl rfl rfl (triL_nilN (av rfl (fun q4=>?_) (fun q4=>?_))))))))))))))))))))))
     · skip
       have hil:i < a.from_.length:=by omega
       refine ao (ag (ae (ay (ae ?_))))
       obtain ⟨ya,hca,hya⟩:=rs hFa i hil
       obtain ⟨yb,hcb,hyb⟩:=rs hFb i (by omega)
       have h3c:((a.from_.getD i SrcX.zero).t≠(b.from_.getD i SrcX.zero).t)∨((a.from_.getD i SrcX.zero).t=(b.from_.getD i SrcX.zero).t∧(a.from_.getD i SrcX.zero).s≠(b.from_.getD i SrcX.zero).s)∨((a.from_.getD i SrcX.zero).t=(b.from_.getD i SrcX.zero).t∧(a.from_.getD i SrcX.zero).s=(b.from_.getD i SrcX.zero).s):=by
        by_cases h1:(a.from_.getD i SrcX.zero).t=(b.from_.getD i SrcX.zero).t
        · by_cases h2:(a.from_.getD i SrcX.zero).s=(b.from_.getD i SrcX.zero).s
          · exact .inr (.inr ⟨h1,h2⟩)
          · exact .inr (.inl ⟨h1,h2⟩)
        · exact .inl h1
       rcases h3c with hs | ⟨ht,hs⟩ | ⟨ht,hs⟩
       · skip
         have hd:decide ((a.from_.getD i SrcX.zero).t≠(b.from_.getD i SrcX.zero).t)=true:=decide_eq_true hs
         refine tri_slo [(2,_),(3,_),(6,_)] rfl (bj (_) [(0,true),(1,true),(2,true),(3,true),(4,true),(5,true),(6,true),(7,true),(8,true),(9,true),(10,true),(11,true),(12,true),(13,true),(14,true),(15,true),(16,true),(17,true),(18,true),(19,true),(20,true),(21,true),(22,true),(23,true),(24,true),(25,true),(26,true),(27,true),(28,true),(29,true),(30,true),(31,true),(32,true),(33,true),(34,true),(35,true),(36,true),(37,true),(38,true),(39,true),(40,true),(41,false),(42,false),(43,false)] [41,42,43] (by kernel_rfl) (by kernel_rfl) (fun _ h=>h) (ah rfl (aj cZ rfl rfl (ab ⟨rfl,ah rfl (ak eI N1 rfl rfl rfl (ab ⟨rfl,ah rfl (ai rfl rfl (ab ⟨rfl,ah rfl (aU Tryz.underlying32 gH rfl rfl rfl (hFa.rd0 _ _ rfl rfl) (by (try simp only [List.length_append,List.length_cons,List.length_nil]); omega) (by (try simp only [List.length_append,List.length_cons,List.length_nil]); omega) hFa.len (by decide) (ab ⟨rfl,ah rfl (aV lg rfl rfl (hFa.rd0 _ _ rfl rfl) (aR hca (j:=0) rfl) (ab ⟨rfl,ah rfl (aL bB rfl rfl (hFa.rd0 _ _ rfl rfl) (aR hca (j:=0) rfl) (ab ⟨rfl,ah rfl (aj cZ rfl rfl (ab ⟨rfl,ah rfl (ak eI N0 rfl rfl rfl (ab ⟨rfl,ah rfl (ai rfl rfl (ab ⟨rfl,ah rfl (aU Tryz.underlying32 gH rfl rfl rfl (hFb.rd0 _ _ rfl rfl) (by (try simp only [List.length_append,List.length_cons,List.length_nil]); omega) (by (try simp only [List.length_append,List.length_cons,List.length_nil]); omega) hFb.len (by decide) (ab ⟨rfl,ah rfl (aV lg rfl rfl (hFb.rd0 _ _ rfl rfl) (aR hcb (j:=0) rfl) (ab ⟨rfl,ah rfl (aL bB rfl rfl (hFb.rd0 _ _ rfl rfl) (aR hcb (j:=0) rfl) (ab ⟨rfl,ah rfl (dX rfl rfl rfl ?_)⟩))⟩))⟩))⟩))⟩))⟩))⟩))⟩))⟩))⟩))⟩))⟩))))
         rw [hd]
         refine ab ⟨rfl,ah rfl (ai rfl rfl (ab ⟨rfl,ah rfl (bG rfl rfl (ab ⟨rfl,ah rfl (bG rfl rfl (ab ⟨rfl,ah rfl (bG rfl rfl (ab ⟨rfl,ah rfl (bG rfl rfl (ab ⟨rfl,ah rfl (bG rfl rfl (ab ⟨rfl,ah rfl (bG rfl rfl (ab ⟨rfl,ah rfl (bG rfl rfl (ab ⟨rfl,ah rfl (bG rfl rfl (ab ⟨rfl,ah rfl (bG rfl rfl (ab ⟨rfl,ah rfl (bG rfl rfl (ab ⟨rfl,ah rfl (bG rfl rfl (ab ⟨rfl,ah rfl (bG rfl rfl (ab ⟨rfl,ah rfl (bG rfl rfl ?_)⟩))⟩))⟩))⟩))⟩))⟩))⟩))⟩))⟩))⟩))⟩))⟩))⟩))⟩
         try rw [he]
         refine ab ⟨rfl,ah rfl (fq rfl rfl rfl rfl (ab ⟨rfl,ah rfl (ai rfl rfl (ab ⟨rfl,ah rfl (bG rfl rfl (ab ⟨rfl,ah rfl (bG rfl rfl (ab ⟨rfl,ah rfl (bG rfl rfl (ab ⟨rfl,ah rfl (bG rfl rfl (ab ⟨rfl,ah rfl (bG rfl rfl (ab ⟨rfl,ah rfl (bG rfl rfl (ab ⟨rfl,ah rfl (bG rfl rfl (ab ⟨rfl,ah rfl (bG rfl rfl (ab ⟨rfl,ah rfl (bG rfl rfl (ab ⟨rfl,ah rfl (bG rfl rfl (ab ⟨rfl,ah rfl (bG rfl rfl (ab ⟨rfl,ah rfl (bG rfl rfl (ab ⟨rfl,(bM [41,42,43] [_,_,_] rfl rfl (bG rfl rfl (bG rfl rfl (fq rfl rfl rfl rfl (ab ⟨rfl,(ag (cn rfl (ae (au [] (.nil _) (aa (o_assignN rfl rfl ?_))))))⟩)))))⟩))⟩))⟩))⟩))⟩))⟩))⟩))⟩))⟩))⟩))⟩))⟩))⟩))⟩))⟩; refine aq (ap (an (an (ap (an (ba rfl rfl ?_)))))); exact fun w1 hw1=>⟨congrArg (fun b=>Ending.returned (.bool b)) (by exact (decide_eq_false (rA (uQ (.inl hs)))).symm),hw1.chg⟩
       · skip
         have hd:decide ((a.from_.getD i SrcX.zero).t≠(b.from_.getD i SrcX.zero).t)=false:=decide_eq_false (fun h=>h ht)
         have he:decide ((a.from_.getD i SrcX.zero).s≠(b.from_.getD i SrcX.zero).s)=true:=decide_eq_true hs
         refine tri_slo [(2,_),(3,_),(6,_)] rfl (bj (_) [(0,true),(1,true),(2,true),(3,true),(4,true),(5,true),(6,true),(7,true),(8,true),(9,true),(10,true),(11,true),(12,true),(13,true),(14,true),(15,true),(16,true),(17,true),(18,true),(19,true),(20,true),(21,true),(22,true),(23,true),(24,true),(25,true),(26,true),(27,true),(28,true),(29,true),(30,true),(31,true),(32,true),(33,true),(34,true),(35,true),(36,true),(37,true),(38,true),(39,true),(40,true),(41,false),(42,false),(43,false)] [41,42,43] (by kernel_rfl) (by kernel_rfl) (fun _ h=>h) (ah rfl (aj cZ rfl rfl (ab ⟨rfl,ah rfl (ak eI N1 rfl rfl rfl (ab ⟨rfl,ah rfl (ai rfl rfl (ab ⟨rfl,ah rfl (aU Tryz.underlying32 gH rfl rfl rfl (hFa.rd0 _ _ rfl rfl) (by (try simp only [List.length_append,List.length_cons,List.length_nil]); omega) (by (try simp only [List.length_append,List.length_cons,List.length_nil]); omega) hFa.len (by decide) (ab ⟨rfl,ah rfl (aV lg rfl rfl (hFa.rd0 _ _ rfl rfl) (aR hca (j:=0) rfl) (ab ⟨rfl,ah rfl (aL bB rfl rfl (hFa.rd0 _ _ rfl rfl) (aR hca (j:=0) rfl) (ab ⟨rfl,ah rfl (aj cZ rfl rfl (ab ⟨rfl,ah rfl (ak eI N0 rfl rfl rfl (ab ⟨rfl,ah rfl (ai rfl rfl (ab ⟨rfl,ah rfl (aU Tryz.underlying32 gH rfl rfl rfl (hFb.rd0 _ _ rfl rfl) (by (try simp only [List.length_append,List.length_cons,List.length_nil]); omega) (by (try simp only [List.length_append,List.length_cons,List.length_nil]); omega) hFb.len (by decide) (ab ⟨rfl,ah rfl (aV lg rfl rfl (hFb.rd0 _ _ rfl rfl) (aR hcb (j:=0) rfl) (ab ⟨rfl,ah rfl (aL bB rfl rfl (hFb.rd0 _ _ rfl rfl) (aR hcb (j:=0) rfl) (ab ⟨rfl,ah rfl (dX rfl rfl rfl ?_)⟩))⟩))⟩))⟩))⟩))⟩))⟩))⟩))⟩))⟩))⟩))⟩))))
         rw [hd]
         refine ab ⟨rfl,ah rfl (ai rfl rfl (ab ⟨rfl,ah rfl (aj cZ rfl rfl (ab ⟨rfl,ah rfl (ak eI N1 rfl rfl rfl (ab ⟨rfl,ah rfl (ai rfl rfl (ab ⟨rfl,ah rfl (aU Tryz.underlying32 gH rfl rfl rfl (hFa.rd0 _ _ rfl rfl) (by (try simp only [List.length_append,List.length_cons,List.length_nil]); omega) (by (try simp only [List.length_append,List.length_cons,List.length_nil]); omega) hFa.len (by decide) (ab ⟨rfl,ah rfl (aV la rfl rfl (hFa.rd0 _ _ rfl rfl) (aR hca (j:=0) rfl) (ab ⟨rfl,ah rfl (aL bB rfl rfl (hFa.rd0 _ _ rfl rfl) (aR hca (j:=1) rfl) (ab ⟨rfl,ah rfl (aj cZ rfl rfl (ab ⟨rfl,ah rfl (ak eI N0 rfl rfl rfl (ab ⟨rfl,ah rfl (ai rfl rfl (ab ⟨rfl,ah rfl (aU Tryz.underlying32 gH rfl rfl rfl (hFb.rd0 _ _ rfl rfl) (by (try simp only [List.length_append,List.length_cons,List.length_nil]); omega) (by (try simp only [List.length_append,List.length_cons,List.length_nil]); omega) hFb.len (by decide) (ab ⟨rfl,ah rfl (aV la rfl rfl (hFb.rd0 _ _ rfl rfl) (aR hcb (j:=0) rfl) (ab ⟨rfl,ah rfl (aL bB rfl rfl (hFb.rd0 _ _ rfl rfl) (aR hcb (j:=1) rfl) (ab ⟨rfl,ah rfl (dX rfl rfl rfl ?_)⟩))⟩))⟩))⟩))⟩))⟩))⟩))⟩))⟩))⟩))⟩))⟩))⟩))⟩
         try rw [he]
         refine ab ⟨rfl,ah rfl (jc rfl rfl rfl rfl (ab ⟨rfl,ah rfl (ai rfl rfl (ab ⟨rfl,ah rfl (bG rfl rfl (ab ⟨rfl,ah rfl (bG rfl rfl (ab ⟨rfl,ah rfl (bG rfl rfl (ab ⟨rfl,ah rfl (bG rfl rfl (ab ⟨rfl,ah rfl (bG rfl rfl (ab ⟨rfl,ah rfl (bG rfl rfl (ab ⟨rfl,ah rfl (bG rfl rfl (ab ⟨rfl,ah rfl (bG rfl rfl (ab ⟨rfl,ah rfl (bG rfl rfl (ab ⟨rfl,ah rfl (bG rfl rfl (ab ⟨rfl,ah rfl (bG rfl rfl (ab ⟨rfl,ah rfl (bG rfl rfl (ab ⟨rfl,(bM [41,42,43] [_,_,_] rfl rfl (bG rfl rfl (bG rfl rfl (fq rfl rfl rfl rfl (ab ⟨rfl,(ag (cn rfl (ae (au [] (.nil _) (aa (o_assignN rfl rfl ?_))))))⟩)))))⟩))⟩))⟩))⟩))⟩))⟩))⟩))⟩))⟩))⟩))⟩))⟩))⟩))⟩))⟩; refine aq (ap (an (an (ap (an (ba rfl rfl ?_)))))); exact fun w1 hw1=>⟨congrArg (fun b=>Ending.returned (.bool b)) (by exact (decide_eq_false (rA (uQ (.inr (.inl hs))))).symm),hw1.chg⟩
       · skip
         have hd:decide ((a.from_.getD i SrcX.zero).t≠(b.from_.getD i SrcX.zero).t)=false:=decide_eq_false (fun h=>h ht)
         have he:decide ((a.from_.getD i SrcX.zero).s≠(b.from_.getD i SrcX.zero).s)=false:=decide_eq_false (fun h=>h hs)
         refine tri_slo [(2,_),(3,_),(6,_)] rfl (bj (_) [(0,true),(1,true),(2,true),(3,true),(4,true),(5,true),(6,true),(7,true),(8,true),(9,true),(10,true),(11,true),(12,true),(13,true),(14,true),(15,true),(16,true),(17,true),(18,true),(19,true),(20,true),(21,true),(22,true),(23,true),(24,true),(25,true),(26,true),(27,true),(28,true),(29,true),(30,true),(31,true),(32,true),(33,true),(34,true),(35,true),(36,true),(37,true),(38,true),(39,true),(40,true),(41,false),(42,false),(43,false)] [41,42,43] (by kernel_rfl) (by kernel_rfl) (fun _ h=>h) (ah rfl (aj cZ rfl rfl (ab ⟨rfl,ah rfl (ak eI N1 rfl rfl rfl (ab ⟨rfl,ah rfl (ai rfl rfl (ab ⟨rfl,ah rfl (aU Tryz.underlying32 gH rfl rfl rfl (hFa.rd0 _ _ rfl rfl) (by (try simp only [List.length_append,List.length_cons,List.length_nil]); omega) (by (try simp only [List.length_append,List.length_cons,List.length_nil]); omega) hFa.len (by decide) (ab ⟨rfl,ah rfl (aV lg rfl rfl (hFa.rd0 _ _ rfl rfl) (aR hca (j:=0) rfl) (ab ⟨rfl,ah rfl (aL bB rfl rfl (hFa.rd0 _ _ rfl rfl) (aR hca (j:=0) rfl) (ab ⟨rfl,ah rfl (aj cZ rfl rfl (ab ⟨rfl,ah rfl (ak eI N0 rfl rfl rfl (ab ⟨rfl,ah rfl (ai rfl rfl (ab ⟨rfl,ah rfl (aU Tryz.underlying32 gH rfl rfl rfl (hFb.rd0 _ _ rfl rfl) (by (try simp only [List.length_append,List.length_cons,List.length_nil]); omega) (by (try simp only [List.length_append,List.length_cons,List.length_nil]); omega) hFb.len (by decide) (ab ⟨rfl,ah rfl (aV lg rfl rfl (hFb.rd0 _ _ rfl rfl) (aR hcb (j:=0) rfl) (ab ⟨rfl,ah rfl (aL bB rfl rfl (hFb.rd0 _ _ rfl rfl) (aR hcb (j:=0) rfl) (ab ⟨rfl,ah rfl (dX rfl rfl rfl ?_)⟩))⟩))⟩))⟩))⟩))⟩))⟩))⟩))⟩))⟩))⟩))⟩))))
         rw [hd]
         refine ab ⟨rfl,ah rfl (ai rfl rfl (ab ⟨rfl,ah rfl (aj cZ rfl rfl (ab ⟨rfl,ah rfl (ak eI N1 rfl rfl rfl (ab ⟨rfl,ah rfl (ai rfl rfl (ab ⟨rfl,ah rfl (aU Tryz.underlying32 gH rfl rfl rfl (hFa.rd0 _ _ rfl rfl) (by (try simp only [List.length_append,List.length_cons,List.length_nil]); omega) (by (try simp only [List.length_append,List.length_cons,List.length_nil]); omega) hFa.len (by decide) (ab ⟨rfl,ah rfl (aV la rfl rfl (hFa.rd0 _ _ rfl rfl) (aR hca (j:=0) rfl) (ab ⟨rfl,ah rfl (aL bB rfl rfl (hFa.rd0 _ _ rfl rfl) (aR hca (j:=1) rfl) (ab ⟨rfl,ah rfl (aj cZ rfl rfl (ab ⟨rfl,ah rfl (ak eI N0 rfl rfl rfl (ab ⟨rfl,ah rfl (ai rfl rfl (ab ⟨rfl,ah rfl (aU Tryz.underlying32 gH rfl rfl rfl (hFb.rd0 _ _ rfl rfl) (by (try simp only [List.length_append,List.length_cons,List.length_nil]); omega) (by (try simp only [List.length_append,List.length_cons,List.length_nil]); omega) hFb.len (by decide) (ab ⟨rfl,ah rfl (aV la rfl rfl (hFb.rd0 _ _ rfl rfl) (aR hcb (j:=0) rfl) (ab ⟨rfl,ah rfl (aL bB rfl rfl (hFb.rd0 _ _ rfl rfl) (aR hcb (j:=1) rfl) (ab ⟨rfl,ah rfl (dX rfl rfl rfl ?_)⟩))⟩))⟩))⟩))⟩))⟩))⟩))⟩))⟩))⟩))⟩))⟩))⟩))⟩
         try rw [he]
         refine ab ⟨rfl,ah rfl (jc rfl rfl rfl rfl (ab ⟨rfl,ah rfl (ai rfl rfl (ab ⟨rfl,ah rfl (aj cZ rfl rfl (ab ⟨rfl,ah rfl (ak eI N1 rfl rfl rfl (ab ⟨rfl,ah rfl (ai rfl rfl (ab ⟨rfl,ah rfl (aU Tryz.underlying32 gH rfl rfl rfl (hFa.rd0 _ _ rfl rfl) (by (try simp only [List.length_append,List.length_cons,List.length_nil]); omega) (by (try simp only [List.length_append,List.length_cons,List.length_nil]); omega) hFa.len (by decide) (ab ⟨rfl,ah rfl (aV nk rfl rfl (hFa.rd0 _ _ rfl rfl) (aR hca (j:=0) rfl) (ab ⟨rfl,ah rfl (bF bh aY rfl rfl (hFa.rd0 _ _ rfl rfl) (vs:=bU ((a.from_.getD i SrcX.zero).e) ya) (gV (p:=[.string (B (a.from_.getD i SrcX.zero).t),.string (B (a.from_.getD i SrcX.zero).s)]) (cs:=bU ((a.from_.getD i SrcX.zero).e) ya) (r:=[]) hca) rfl (by decide) (ab ⟨rfl,ah rfl (aj cZ rfl rfl (ab ⟨rfl,ah rfl (ak eI N0 rfl rfl rfl (ab ⟨rfl,ah rfl (ai rfl rfl (ab ⟨rfl,ah rfl (aU Tryz.underlying32 gH rfl rfl rfl (hFb.rd0 _ _ rfl rfl) (by (try simp only [List.length_append,List.length_cons,List.length_nil]); omega) (by (try simp only [List.length_append,List.length_cons,List.length_nil]); omega) hFb.len (by decide) (ab ⟨rfl,ah rfl (aV nk rfl rfl (hFb.rd0 _ _ rfl rfl) (aR hcb (j:=0) rfl) (ab ⟨rfl,ah rfl (bF bh aY rfl rfl (hFb.rd0 _ _ rfl rfl) (vs:=bU ((b.from_.getD i SrcX.zero).e) yb) (gV (p:=[.string (B (b.from_.getD i SrcX.zero).t),.string (B (b.from_.getD i SrcX.zero).s)]) (cs:=bU ((b.from_.getD i SrcX.zero).e) yb) (r:=[]) hcb) rfl (by decide) (ab ⟨rfl,(bM [41,42,43] [_,_,_] rfl rfl (aF (first:=[]) (cap:=[]) rfl rfl rfl Tryz.call17 (fun w1 h1=>qZ _ _ _ _ w1 (ExC.chg h1.chg _ _ (ExK.c _ _ hya)) (ExC.chg h1.chg _ _ (ExK.c _ _ hyb)) (hbd.from_ i hil).1) (dV rfl rfl (jc rfl rfl rfl rfl (ab ⟨rfl,(ag (aG rfl (fun q7=>?_) (fun q7=>?_)))⟩)))))⟩))⟩))⟩))⟩))⟩))⟩))⟩))⟩))⟩))⟩))⟩))⟩))⟩))⟩))⟩
         · skip
           refine ae (au [] (.nil _) (aa (o_assignN rfl rfl (aq (ap (an (an (ap (an (ba rfl rfl ?_)))))))))); exact fun w1 hw1=>⟨congrArg (fun b=>Ending.returned (.bool b)) (by exact (decide_eq_false (rA (uQ (.inr (.inr (of_decide_eq_false (cJ q7))))))).symm),hw1.chg⟩
         · skip
           exact ao (am (ag (tri_slo [(2,_),(3,_),(6,_)] rfl (aa (ai rfl rfl (bJ rfl rfl rfl (by (try simp only [List.length_append,List.length_cons,List.length_nil]); omega) (o_assignN rfl rfl (⟨i+1,(.cons rfl (.cons rfl (.cons rfl (.nil _)))),fun _ h=>h,⟨by omega,upd hi.2 (src_eq ht hs (of_decide_eq_true (cp q7)))⟩,by omega⟩))))))))
     · skip
       have hxf:∀ j,j < a.from_.length→_=_:=fun j hj=>hi.2 j (by omega)
       refine bu (ax (ax (aP (ag (ae (ae (tri_slo [(2,_),(3,_)] rfl (aa (o_assignN rfl rfl (ay (bI (ι:=Nat) (F:=fun i=>[(2,.pointer (some ⟨b2,0,none⟩)),(3,.pointer (some ⟨b3,0,none⟩)),(7,.int .i64 (i:Int))]) (HH:=fun i=>[box b3 35 (eQ b z),box b2 35 (eQ a y)]) (Pu:=fun i=>i≤a.ord.length∧∀ j,j < i→a.ord.getD j OrdX.zero=b.ord.getD j OrdX.zero) (μ:=fun i=>a.ord.length - i) (0) (.cons rfl (.cons rfl (.cons rfl (.nil _)))) (fun _ h=>h) (⟨Nat.zero_le _,fun j hj=>absurd hj (by omega)⟩) (fun i hi=>ae (ae (aa (ai rfl rfl (aj fB rfl rfl (ak ji N1 rfl rfl rfl (aX Tryz.underlying33 rfl rfl (cR rfl rfl rfl (triL_nilN (av rfl (fun q8=>?_) (fun q8=>?_))))))))))))))))))))))
       · skip
         have hil:i < a.ord.length:=by omega
         refine ao (ag (ae (ay (ae (tri_slo [(2,_),(3,_),(7,_)] rfl ?_)))))
         have hca:=rv hOa i hil
         have hcb:=rv hOb i (by omega)
         refine bj (_) [(0,true),(1,true),(2,true),(3,true),(4,true),(5,true),(6,true),(7,true),(8,true),(9,true),(10,false)] [10] (by kernel_rfl) (by kernel_rfl) (fun _ h=>h) (ah rfl (aj fB rfl rfl (ab ⟨rfl,ah rfl (ak ji N1 rfl rfl rfl (ab ⟨rfl,ah rfl (ai rfl rfl (ab ⟨rfl,ah rfl (aU Tryz.underlying33 ld rfl rfl rfl (hOa.rd0 _ _ rfl rfl) (by (try simp only [List.length_append,List.length_cons,List.length_nil]); omega) (by (try simp only [List.length_append,List.length_cons,List.length_nil]); omega) hOa.len (by decide) (ab ⟨rfl,ah rfl (bF r5 ld rfl rfl (hOa.rd0 _ _ rfl rfl) (vs:=OrdX.cs (a.ord.getD i OrdX.zero)) hca rfl (by decide) (ab ⟨rfl,ah rfl (aj fB rfl rfl (ab ⟨rfl,ah rfl (ak ji N0 rfl rfl rfl (ab ⟨rfl,ah rfl (ai rfl rfl (ab ⟨rfl,ah rfl (aU Tryz.underlying33 ld rfl rfl rfl (hOb.rd0 _ _ rfl rfl) (by (try simp only [List.length_append,List.length_cons,List.length_nil]); omega) (by (try simp only [List.length_append,List.length_cons,List.length_nil]); omega) hOb.len (by decide) (ab ⟨rfl,ah rfl (bF r5 ld rfl rfl (hOb.rd0 _ _ rfl rfl) (vs:=OrdX.cs (b.ord.getD i OrdX.zero)) hcb rfl (by decide) (ab ⟨rfl,(bM [10] [_] rfl rfl (o_neqOrd flat121 rfl rfl rfl (ab ⟨rfl,(ag (aG rfl (fun q9=>?_) (fun q9=>?_)))⟩)))⟩))⟩))⟩))⟩))⟩))⟩))⟩))⟩))⟩))⟩)))
         · skip
           refine ae (au [] (.nil _) (aa (o_assignN rfl rfl (aq (ap (an (an (ap (an (ba rfl rfl ?_)))))))))); exact fun w1 hw1=>⟨congrArg (fun b=>Ending.returned (.bool b)) (by exact (decide_eq_false (ords_ne (of_decide_eq_false (cJ q9)))).symm),hw1.chg⟩
         · skip
           exact ao (am (ag (tri_slo [(2,_),(3,_),(7,_)] rfl (aa (ai rfl rfl (bJ rfl rfl rfl (by (try simp only [List.length_append,List.length_cons,List.length_nil]); omega) (o_assignN rfl rfl (⟨i+1,(.cons rfl (.cons rfl (.cons rfl (.nil _)))),fun _ h=>h,⟨by omega,upd hi.2 (of_decide_eq_true (cp q9))⟩,by omega⟩))))))))
       · skip
         have hxo:∀ j,j < a.ord.length→_=_:=fun j hj=>hi.2 j (by omega)
         refine bu (ax (ax (aP (ag (ae (au [] (.nil _) (aa (o_assignN rfl rfl (aq (ba rfl rfl ?_)))))))))); exact fun w1 hw1=>⟨congrArg (fun b=>Ending.returned (.bool b)) (by exact (decide_eq_true (sq_eq q0 hxi hxf hxo)).symm),hw1.chg⟩
end Go.Proofs.YtjbpkcbefmpfgaaGreatDoor
namespace Go.Proofs.YtjbpkcbefmpfgaaGreatDoor
open Go.WK Go.RowKit 
set_option maxRecDepth 100000 in
set_option maxHeartbeats 2000000 in
theorem sk (a b:StmtX) (y z:Lay) (bl bm:List Nat) (w:World) (hA:SAt bl w a y) (hB:SAt bm w b z) (hbl:∀ k ∈ bl,k < w.heap.size) (hbm:∀ k ∈ bm,k < w.heap.size) (hbd:SBd a):Calls Tryz.prog 16 #[.agg (bL a y).toArray,.agg (bL b z).toArray] w (cG w (.bool (decide (a=b)))):=by
 refine az (args:=[.agg (bL a y).toArray,.agg (bL b z).toArray]) (lent:=[]) (H:=[]) Tryz.func16 rfl Tryz.ntmps16 rfl (Sat.start _ _ _ _) ((show Tri _ [(0,_),(1,_)] _ _ _ from ?_))
 obtain ⟨xCa,xNa,xRa,xSa,xIa,xFa,xOa,hCa,hNa,hRa,hSa,hWa,hQa⟩:=id hA
 obtain ⟨xCb,xNb,xRb,xSb,xIb,xFb,xOb,hCb,hNb,hRb,hSb,hWb,hQb⟩:=id hB
 have n1:a.rows.length≤70368744177664:=hbd.nr
 have n2:a.sets.length≤70368744177664:=hbd.ns
 refine ae (aa (cD _ rfl rfl rfl (fun b2=>cD _ rfl rfl rfl (fun b3=>o_assignN rfl rfl (ae (ae (aa (aj eJ rfl rfl (ak bR N1 rfl rfl rfl (aj eJ rfl rfl (ak bR N0 rfl rfl rfl (cX rfl rfl rfl (ai rfl rfl ?_)))))))))))))
 refine' bv [_,_,_,_,_] [(3,_),(2,_)] (dj:=12) (dr:=17) rfl rfl (fun g1=>?_) ⟨_,rfl,rfl,rfl,(.cons rfl (.cons rfl (.nil _)))⟩ rfl ?_
 rotate_left
 · skip
   exact aj cL rfl rfl (ak bB N1 rfl rfl rfl (aj cL rfl rfl (ak bB N0 rfl rfl rfl (dX rfl rfl rfl (ab (Piece.mk rfl rfl (.cons rfl (.cons rfl (.nil _))) (fun _ h=>h)))))))
 refine ai rfl rfl ?_
 refine' bv [_,_,_,_,_] [(3,_),(2,_)] (dj:=19) (dr:=24) rfl rfl (fun g2=>?_) ⟨_,rfl,rfl,rfl,(.cons rfl (.cons rfl (.nil _)))⟩ rfl ?_
 rotate_left
 · skip
   exact aj gI rfl rfl (ak bB N1 rfl rfl rfl (aj gI rfl rfl (ak bB N0 rfl rfl rfl (dX rfl rfl rfl (ab (Piece.mk rfl rfl (.cons rfl (.cons rfl (.nil _))) (fun _ h=>h)))))))
 refine ai rfl rfl ?_
 refine' bv [_,_,_,_,_] [(3,_),(2,_)] (dj:=26) (dr:=31) rfl rfl (fun g3=>?_) ⟨_,rfl,rfl,rfl,(.cons rfl (.cons rfl (.nil _)))⟩ rfl ?_
 rotate_left
 · skip
   exact aj mg rfl rfl (ak ij N1 rfl rfl rfl (aj mg rfl rfl (ak ij N0 rfl rfl rfl (rc rfl Tryz.underlying4 rfl rfl (ab (Piece.mk rfl rfl (.cons rfl (.cons rfl (.nil _))) (fun _ h=>h)))))))
 refine ai rfl rfl ?_
 refine' bv [_,_,_,_,_,_] [(3,_),(2,_)] (dj:=33) (dr:=39) rfl rfl (fun g4=>?_) ⟨_,rfl,rfl,rfl,(.cons rfl (.cons rfl (.nil _)))⟩ rfl ?_
 rotate_left
 · skip
   exact aj jv rfl rfl (ak mI N1 rfl rfl rfl (aj jv rfl rfl (ak mI N0 rfl rfl rfl (aF (first:=[]) (cap:=[]) rfl rfl rfl Tryz.call48 (fun w1 h1=>yQ a.cols b.cols y.C z.C bl bm xCa xCb w1 (hCa.stab (fun k hk=>h1.chg.block k (hbl k hk) (by simp))) (hCb.stab (fun k hk=>h1.chg.block k (hbm k hk) (by simp))) hbd.nc) (dV rfl rfl (ab (Piece.mk rfl rfl (.cons rfl (.cons rfl (.nil _))) (fun _ h=>h))))))))
 refine ai rfl rfl ?_
 refine' bv [_,_,_,_,_,_] [(3,_),(2,_)] (dj:=41) (dr:=47) rfl rfl (fun g5=>?_) ⟨_,rfl,rfl,rfl,(.cons rfl (.cons rfl (.nil _)))⟩ rfl ?_
 rotate_left
 · skip
   exact aj iW rfl rfl (ak lP N1 rfl rfl rfl (aj iW rfl rfl (ak lP N0 rfl rfl rfl (aF (first:=[]) (cap:=[]) rfl rfl rfl Tryz.call49 (fun w1 h1=>vz a.on b.on y.N z.N bl bm xNa xNb w1 (hNa.stab (fun k hk=>h1.chg.block k (hbl k hk) (by simp))) (hNb.stab (fun k hk=>h1.chg.block k (hbm k hk) (by simp))) hbd.nn) (dV rfl rfl (ab (Piece.mk rfl rfl (.cons rfl (.cons rfl (.nil _))) (fun _ h=>h))))))))
 refine ai rfl rfl ?_
 refine' bv [_,_,_,_,_,_] [(3,_),(2,_)] (dj:=49) (dr:=55) rfl rfl (fun g6=>?_) ⟨_,rfl,rfl,rfl,(.cons rfl (.cons rfl (.nil _)))⟩ rfl ?_
 rotate_left
 · skip
   exact aj gw rfl rfl (aS bh aY (.s .z) rfl rfl (vs:=bU a.wh y.W) rfl rfl (aj gw rfl rfl (aS bh aY .z rfl rfl (vs:=bU b.wh z.W) rfl rfl (aF (first:=[]) (cap:=[]) rfl rfl rfl Tryz.call17 (fun w1 h1=>qZ _ _ _ _ w1 (ExC.chg h1.chg _ _ (ExK.c _ _ hWa)) (ExC.chg h1.chg _ _ (ExK.c _ _ hWb)) hbd.wh) (dV rfl rfl (ab (Piece.mk rfl rfl (.cons rfl (.cons rfl (.nil _))) (fun _ h=>h))))))))
 refine ai rfl rfl ?_
 refine' bv [_,_,_,_,_,_] [(3,_),(2,_)] (dj:=57) (dr:=63) rfl rfl (fun g7=>?_) ⟨_,rfl,rfl,rfl,(.cons rfl (.cons rfl (.nil _)))⟩ rfl ?_
 rotate_left
 · skip
   exact aj kn rfl rfl (aS pG nQ (.s .z) rfl rfl (vs:=eQ a.q y.q) rfl rfl (aj kn rfl rfl (aS pG nQ .z rfl rfl (vs:=eQ b.q z.q) rfl rfl (aF (first:=[]) (cap:=[]) rfl rfl rfl Tryz.call50 (fun w1 h1=>sameQK a.q b.q y.q z.q bl bm w1 (hA.q.stab (fun k hk=>h1.chg.block k (hbl k hk) (by simp))) (hB.q.stab (fun k hk=>h1.chg.block k (hbm k hk) (by simp))) hbd.q) (dV rfl rfl (ab (Piece.mk rfl rfl (.cons rfl (.cons rfl (.nil _))) (fun _ h=>h))))))))
 refine ai rfl rfl ?_
 refine' bv [_,_,_,_,_,_,_] [(3,_),(2,_)] (dj:=65) (dr:=72) rfl rfl (fun g8=>?_) ⟨_,rfl,rfl,rfl,(.cons rfl (.cons rfl (.nil _)))⟩ rfl ?_
 rotate_left
 · skip
   exact aj gv rfl rfl (ak jS N1 rfl rfl rfl (aX Tryz.underlying24 rfl rfl (aj gv rfl rfl (ak jS N0 rfl rfl rfl (aX Tryz.underlying24 rfl rfl (cX rfl rfl rfl (ab (Piece.mk rfl rfl (.cons rfl (.cons rfl (.nil _))) (fun _ h=>h)))))))))
 refine ai rfl rfl ?_
 refine' bv [_,_,_,_,_,_,_] [(3,_),(2,_)] (dj:=74) (dr:=81) rfl rfl (fun g9=>?_) ⟨_,rfl,rfl,rfl,(.cons rfl (.cons rfl (.nil _)))⟩ rfl ?_
 rotate_left
 · skip
   exact aj ei rfl rfl (ak hJ N1 rfl rfl rfl (aX Tryz.underlying25 rfl rfl (aj ei rfl rfl (ak hJ N0 rfl rfl rfl (aX Tryz.underlying25 rfl rfl (cX rfl rfl rfl (ab (Piece.mk rfl rfl (.cons rfl (.cons rfl (.nil _))) (fun _ h=>h)))))))))
 refine triL_nilN (aG rfl (fun q0=>?_) (fun q0=>?_))
 · skip
   have q0:ssB a b=true:=q0
   refine ae (aa (o_assignN rfl rfl (aq (an (ba rfl rfl ?_))))); exact fun w1 hw1=>⟨congrArg (fun b=>Ending.returned (.bool b)) (by exact (decide_eq_false (ss_ne q0)).symm),hw1.chg⟩
 · skip
   have q0:ssB a b=false:=q0
   obtain ⟨_,hlr,hls⟩:=ss_no q0
   refine ao (ag (ae (ae (aa (o_assignN rfl rfl (ay (bI (ι:=Nat) (F:=fun i=>[(2,.pointer (some ⟨b2,0,none⟩)),(3,.pointer (some ⟨b3,0,none⟩)),(5,.int .i64 (i:Int))]) (HH:=fun i=>[box b3 37 (bL b z),box b2 37 (bL a y)]) (Pu:=fun i=>i≤a.rows.length∧∀ j,j < i→a.rows.getD j []=b.rows.getD j []) (μ:=fun i=>a.rows.length - i) (0) (.cons rfl (.cons rfl (.cons rfl (.nil _)))) (fun _ h=>h) (⟨Nat.zero_le _,fun j hj=>absurd hj (by omega)⟩) (fun i hi=>ae (ae (aa (ai rfl rfl (aj gv rfl rfl (ak jS N1 rfl rfl rfl (aX Tryz.underlying24 rfl rfl (cR rfl rfl rfl (triL_nilN (av rfl (fun q1=>?_) (fun q1=>?_))))))))))))))))))
   · skip
     have hil:i < a.rows.length:=by omega
     refine ao (ag (ae (ay (ae (tri_slo [(2,_),(3,_),(5,_)] rfl ?_)))))
     obtain ⟨yra,xra,hca,hRa2⟩:=mx hRa i hil
     obtain ⟨yrb,xrb,hcb,hRb2⟩:=mx hRb i (by omega)
     refine bj (_) [(0,true),(1,true),(2,true),(3,true),(4,true),(5,true),(6,true),(7,true),(8,true),(9,true),(10,false),(11,false)] [10,11] (by kernel_rfl) (by kernel_rfl) (fun _ h=>h) (ah rfl (aj gv rfl rfl (ab ⟨rfl,ah rfl (ak jS N1 rfl rfl rfl (ab ⟨rfl,ah rfl (ai rfl rfl (ab ⟨rfl,ah rfl (aU Tryz.underlying24 sz28 rfl rfl rfl (hRa.rd0 _ _ rfl rfl) (by (try simp only [List.length_append,List.length_cons,List.length_nil]); omega) (by (try simp only [List.length_append,List.length_cons,List.length_nil]); omega) hRa.len (by decide) (ab ⟨rfl,ah rfl (aL fm rfl rfl (hRa.rd0 _ _ rfl rfl) (aR hca (j:=0) rfl) (ab ⟨rfl,ah rfl (aj gv rfl rfl (ab ⟨rfl,ah rfl (ak jS N0 rfl rfl rfl (ab ⟨rfl,ah rfl (ai rfl rfl (ab ⟨rfl,ah rfl (aU Tryz.underlying24 sz28 rfl rfl rfl (hRb.rd0 _ _ rfl rfl) (by (try simp only [List.length_append,List.length_cons,List.length_nil]); omega) (by (try simp only [List.length_append,List.length_cons,List.length_nil]); omega) hRb.len (by decide) (ab ⟨rfl,ah rfl (aL fm rfl rfl (hRb.rd0 _ _ rfl rfl) (aR hcb (j:=0) rfl) (ab ⟨rfl,(bM [10,11] [_,_] rfl rfl (aF (first:=[]) (cap:=[]) rfl rfl rfl Tryz.call51 (fun w1 h1=>sameExsK _ _ yra yrb bl bm xra xrb w1 (hRa2.stab (fun k hk=>h1.chg.block k (hbl k hk) (by simp))) (hRb2.stab (fun k hk=>h1.chg.block k (hbm k hk) (by simp))) (hbd.rows i hil).1 (hbd.rows i hil).2) (dV rfl rfl (ab ⟨rfl,(ag (aG rfl (fun q2=>?_) (fun q2=>?_)))⟩))))⟩))⟩))⟩))⟩))⟩))⟩))⟩))⟩))⟩))⟩)))
     · skip
       refine ae (au [] (.nil _) (aa (o_assignN rfl rfl (aq (ap (an (an (ap (an (ba rfl rfl ?_)))))))))); exact fun w1 hw1=>⟨congrArg (fun b=>Ending.returned (.bool b)) (by exact (decide_eq_false (rows_ne (of_decide_eq_false (cJ q2)))).symm),hw1.chg⟩
     · skip
       exact ao (am (ag (tri_slo [(2,_),(3,_),(5,_)] rfl (aa (ai rfl rfl (bJ rfl rfl rfl (by (try simp only [List.length_append,List.length_cons,List.length_nil]); omega) (o_assignN rfl rfl (⟨i+1,(.cons rfl (.cons rfl (.cons rfl (.nil _)))),fun _ h=>h,⟨by omega,upd hi.2 (of_decide_eq_true (cp q2))⟩,by omega⟩))))))))
   · skip
     have hxr:∀ j,j < a.rows.length→_=_:=fun j hj=>hi.2 j (by omega)
     refine bu (ax (ax (aP (ag (ae (ae (tri_slo [(2,_),(3,_)] rfl (aa (o_assignN rfl rfl (ay (bI (ι:=Nat) (F:=fun i=>[(2,.pointer (some ⟨b2,0,none⟩)),(3,.pointer (some ⟨b3,0,none⟩)),(6,.int .i64 (i:Int))]) (HH:=fun i=>[box b3 37 (bL b z),box b2 37 (bL a y)]) (Pu:=fun i=>i≤a.sets.length∧∀ j,j < i→a.sets.getD j SetX.zero=b.sets.getD j SetX.zero) (μ:=fun i=>a.sets.length - i) (0) (.cons rfl (.cons rfl (.cons rfl (.nil _)))) (fun _ h=>h) (⟨Nat.zero_le _,fun j hj=>absurd hj (by omega)⟩) (fun i hi=>ae (ae (aa (ai rfl rfl (aj ei rfl rfl (ak hJ N1 rfl rfl rfl (aX Tryz.underlying25 rfl rfl (cR rfl rfl rfl (triL_nilN (av rfl (fun q3=>?_) (fun q3=>?_))))))))))))))))))))))
     · skip
       have hil:i < a.sets.length:=by omega
       refine ao (ag (ae (ay (ae ?_))))
       obtain ⟨ya,hca,hya⟩:=rt hSa i hil
       obtain ⟨yb,hcb,hyb⟩:=rt hSb i (by omega)
       by_cases hs:(a.sets.getD i SetX.zero).n=(b.sets.getD i SetX.zero).n
       · skip
         have hd:decide ((a.sets.getD i SetX.zero).n≠(b.sets.getD i SetX.zero).n)=false:=decide_eq_false (fun h=>h hs)
         refine tri_slo [(2,_),(3,_),(6,_)] rfl (bj (_) [(0,true),(1,true),(2,true),(3,true),(4,true),(5,true),(6,true),(7,true),(8,true),(9,true),(10,true),(11,true),(12,true),(13,true),(14,true),(15,true),(16,true),(17,true),(18,true),(19,true),(20,true),(21,true),(22,true),(23,true),(24,true),(25,true),(26,false),(27,false),(28,false)] [26,27,28] (by kernel_rfl) (by kernel_rfl) (fun _ h=>h) (ah rfl (aj ei rfl rfl (ab ⟨rfl,ah rfl (ak hJ N1 rfl rfl rfl (ab ⟨rfl,ah rfl (ai rfl rfl (ab ⟨rfl,ah rfl (aU Tryz.underlying25 pF rfl rfl rfl (hSa.rd0 _ _ rfl rfl) (by (try simp only [List.length_append,List.length_cons,List.length_nil]); omega) (by (try simp only [List.length_append,List.length_cons,List.length_nil]); omega) hSa.len (by decide) (ab ⟨rfl,ah rfl (aV nq rfl rfl (hSa.rd0 _ _ rfl rfl) (aR hca (j:=0) rfl) (ab ⟨rfl,ah rfl (aL bB rfl rfl (hSa.rd0 _ _ rfl rfl) (aR hca (j:=0) rfl) (ab ⟨rfl,ah rfl (aj ei rfl rfl (ab ⟨rfl,ah rfl (ak hJ N0 rfl rfl rfl (ab ⟨rfl,ah rfl (ai rfl rfl (ab ⟨rfl,ah rfl (aU Tryz.underlying25 pF rfl rfl rfl (hSb.rd0 _ _ rfl rfl) (by (try simp only [List.length_append,List.length_cons,List.length_nil]); omega) (by (try simp only [List.length_append,List.length_cons,List.length_nil]); omega) hSb.len (by decide) (ab ⟨rfl,ah rfl (aV nq rfl rfl (hSb.rd0 _ _ rfl rfl) (aR hcb (j:=0) rfl) (ab ⟨rfl,ah rfl (aL bB rfl rfl (hSb.rd0 _ _ rfl rfl) (aR hcb (j:=0) rfl) (ab ⟨rfl,ah rfl (dX rfl rfl rfl ?_)⟩))⟩))⟩))⟩))⟩))⟩))⟩))⟩))⟩))⟩))⟩))⟩))))
         rw [hd]
         refine ab ⟨rfl,ah rfl (ai rfl rfl (ab ⟨rfl,ah rfl (aj ei rfl rfl (ab ⟨rfl,ah rfl (ak hJ N1 rfl rfl rfl (ab ⟨rfl,ah rfl (ai rfl rfl (ab ⟨rfl,ah rfl (aU Tryz.underlying25 pF rfl rfl rfl (hSa.rd0 _ _ rfl rfl) (by (try simp only [List.length_append,List.length_cons,List.length_nil]); omega) (by (try simp only [List.length_append,List.length_cons,List.length_nil]); omega) hSa.len (by decide) (ab ⟨rfl,ah rfl (aV si rfl rfl (hSa.rd0 _ _ rfl rfl) (aR hca (j:=0) rfl) (ab ⟨rfl,ah rfl (bF bh aY rfl rfl (hSa.rd0 _ _ rfl rfl) (vs:=bU ((a.sets.getD i SetX.zero).e) ya) (gV (p:=[.string (B (a.sets.getD i SetX.zero).n)]) (cs:=bU ((a.sets.getD i SetX.zero).e) ya) (r:=[]) hca) rfl (by decide) (ab ⟨rfl,ah rfl (aj ei rfl rfl (ab ⟨rfl,ah rfl (ak hJ N0 rfl rfl rfl (ab ⟨rfl,ah rfl (ai rfl rfl (ab ⟨rfl,ah rfl (aU Tryz.underlying25 pF rfl rfl rfl (hSb.rd0 _ _ rfl rfl) (by (try simp only [List.length_append,List.length_cons,List.length_nil]); omega) (by (try simp only [List.length_append,List.length_cons,List.length_nil]); omega) hSb.len (by decide) (ab ⟨rfl,ah rfl (aV si rfl rfl (hSb.rd0 _ _ rfl rfl) (aR hcb (j:=0) rfl) (ab ⟨rfl,ah rfl (bF bh aY rfl rfl (hSb.rd0 _ _ rfl rfl) (vs:=bU ((b.sets.getD i SetX.zero).e) yb) (gV (p:=[.string (B (b.sets.getD i SetX.zero).n)]) (cs:=bU ((b.sets.getD i SetX.zero).e) yb) (r:=[]) hcb) rfl (by decide) (ab ⟨rfl,(bM [26,27,28] [_,_,_] rfl rfl (aF (first:=[]) (cap:=[]) rfl rfl rfl Tryz.call17 (fun w1 h1=>qZ _ _ _ _ w1 (ExC.chg h1.chg _ _ (ExK.c _ _ hya)) (ExC.chg h1.chg _ _ (ExK.c _ _ hyb)) (hbd.sets i hil).1) (dV rfl rfl (jc rfl rfl rfl rfl (ab ⟨rfl,(ag (aG rfl (fun q4=>?_) (fun q4=>?_)))⟩)))))⟩))⟩))⟩))⟩))⟩))⟩))⟩))⟩))⟩))⟩))⟩))⟩))⟩))⟩
         · skip
           refine ae (au [] (.nil _) (aa (o_assignN rfl rfl (aq (ap (an (an (ap (an (ba rfl rfl ?_)))))))))); exact fun w1 hw1=>⟨congrArg (fun b=>Ending.returned (.bool b)) (by exact (decide_eq_false (wu (set_ne (.inr (of_decide_eq_false (cJ q4)))))).symm),hw1.chg⟩
         · skip
           exact ao (am (ag (tri_slo [(2,_),(3,_),(6,_)] rfl (aa (ai rfl rfl (bJ rfl rfl rfl (by (try simp only [List.length_append,List.length_cons,List.length_nil]); omega) (o_assignN rfl rfl (⟨i+1,(.cons rfl (.cons rfl (.cons rfl (.nil _)))),fun _ h=>h,⟨by omega,upd hi.2 (set_eq hs (of_decide_eq_true (cp q4)))⟩,by omega⟩))))))))
       · skip
         have hd:decide ((a.sets.getD i SetX.zero).n≠(b.sets.getD i SetX.zero).n)=true:=decide_eq_true hs
         refine tri_slo [(2,_),(3,_),(6,_)] rfl (bj (_) [(0,true),(1,true),(2,true),(3,true),(4,true),(5,true),(6,true),(7,true),(8,true),(9,true),(10,true),(11,true),(12,true),(13,true),(14,true),(15,true),(16,true),(17,true),(18,true),(19,true),(20,true),(21,true),(22,true),(23,true),(24,true),(25,true),(26,false),(27,false),(28,false)] [26,27,28] (by kernel_rfl) (by kernel_rfl) (fun _ h=>h) (ah rfl (aj ei rfl rfl (ab ⟨rfl,ah rfl (ak hJ N1 rfl rfl rfl (ab ⟨rfl,ah rfl (ai rfl rfl (ab ⟨rfl,ah rfl (aU Tryz.underlying25 pF rfl rfl rfl (hSa.rd0 _ _ rfl rfl) (by (try simp only [List.length_append,List.length_cons,List.length_nil]); omega) (by (try simp only [List.length_append,List.length_cons,List.length_nil]); omega) hSa.len (by decide) (ab ⟨rfl,ah rfl (aV nq rfl rfl (hSa.rd0 _ _ rfl rfl) (aR hca (j:=0) rfl) (ab ⟨rfl,ah rfl (aL bB rfl rfl (hSa.rd0 _ _ rfl rfl) (aR hca (j:=0) rfl) (ab ⟨rfl,ah rfl (aj ei rfl rfl (ab ⟨rfl,ah rfl (ak hJ N0 rfl rfl rfl (ab ⟨rfl,ah rfl (ai rfl rfl (ab ⟨rfl,ah rfl (aU Tryz.underlying25 pF rfl rfl rfl (hSb.rd0 _ _ rfl rfl) (by (try simp only [List.length_append,List.length_cons,List.length_nil]); omega) (by (try simp only [List.length_append,List.length_cons,List.length_nil]); omega) hSb.len (by decide) (ab ⟨rfl,ah rfl (aV nq rfl rfl (hSb.rd0 _ _ rfl rfl) (aR hcb (j:=0) rfl) (ab ⟨rfl,ah rfl (aL bB rfl rfl (hSb.rd0 _ _ rfl rfl) (aR hcb (j:=0) rfl) (ab ⟨rfl,ah rfl (dX rfl rfl rfl ?_)⟩))⟩))⟩))⟩))⟩))⟩))⟩))⟩))⟩))⟩))⟩))⟩))))
         rw [hd]
         refine ab ⟨rfl,ah rfl (ai rfl rfl (ab ⟨rfl,ah rfl (bG rfl rfl (ab ⟨rfl,ah rfl (bG rfl rfl (ab ⟨rfl,ah rfl (bG rfl rfl (ab ⟨rfl,ah rfl (bG rfl rfl (ab ⟨rfl,ah rfl (bG rfl rfl (ab ⟨rfl,ah rfl (bG rfl rfl (ab ⟨rfl,ah rfl (bG rfl rfl (ab ⟨rfl,ah rfl (bG rfl rfl (ab ⟨rfl,ah rfl (bG rfl rfl (ab ⟨rfl,ah rfl (bG rfl rfl (ab ⟨rfl,ah rfl (bG rfl rfl (ab ⟨rfl,ah rfl (bG rfl rfl (ab ⟨rfl,(bM [26,27,28] [_,_,_] rfl rfl (bG rfl rfl (bG rfl rfl (fq rfl rfl rfl rfl (ab ⟨rfl,(ag (cn rfl (ae (au [] (.nil _) (aa (o_assignN rfl rfl (aq (ap ?_))))))))⟩)))))⟩))⟩))⟩))⟩))⟩))⟩))⟩))⟩))⟩))⟩))⟩))⟩))⟩))⟩; refine an (an (ap (an (ba rfl rfl ?_)))); exact fun w1 hw1=>⟨congrArg (fun b=>Ending.returned (.bool b)) (by exact (decide_eq_false (wu (set_ne (.inl hs)))).symm),hw1.chg⟩
     · skip
       have hxs:∀ j,j < a.sets.length→_=_:=fun j hj=>hi.2 j (by omega)
       refine bu (ax (ax (aP (ag (ae (au [] (.nil _) (aa (o_assignN rfl rfl (aq (ba rfl rfl ?_)))))))))); exact fun w1 hw1=>⟨congrArg (fun b=>Ending.returned (.bool b)) (by exact (decide_eq_true (ss_eq q0 hxr hxs)).symm),hw1.chg⟩
end Go.Proofs.YtjbpkcbefmpfgaaGreatDoor
namespace Go.Proofs.YtjbpkcbefmpfgaaGreatDoor
open Go.WK Go.RowKit 
theorem flatF:jb Tryz.prog 55=some fKs:=by kernel_rfl
theorem tY (x0_0:Int) (x0_1:Int) (x0_2:Int) (x0_3:ByteArray) (x0_4:ByteArray) (x0_5:ByteArray) (x0_6:Int) (A0_7:Option Addr) (n0_7 c0_7:Nat) (x1:ByteArray):Tryz.prog.built 53 [(0,.agg (([.int .i64 x0_0,.int .i64 x0_1,.int .i64 x0_2,.string x0_3,.string x0_4,.string x0_5,.int .i64 x0_6,.slice A0_7 n0_7 c0_7]:List Value)).toArray),(1,.string x1)]=some ([.int .i64 x0_0,.int .i64 x0_1,.int .i64 x0_2,.string x0_3,.string x0_4,.string x0_5,.int .i64 x0_6,.slice A0_7 n0_7 c0_7,.string x1]:List Value).toArray:=by kernel_rfl
theorem tZ (A2:Option Addr) (n2 c2:Nat) (A3:Option Addr) (n3 c3:Nat):Tryz.prog.built 35 [(2,.slice A2 n2 c2),(3,.slice A3 n3 c3)]=some ([.bool false,.bool false,.slice A2 n2 c2,.slice A3 n3 c3,.int .i64 0,.int .i64 0,.int .i64 0,.string .empty,.string .empty,.string .empty,.int .i64 0,.slice none 0 0,.slice none 0 0,.bool false,.int .i64 0]:List Value).toArray:=by kernel_rfl
theorem t6 (x0:Int) (x9_0:Bool) (x9_1:Bool) (A9_2:Option Addr) (n9_2 c9_2:Nat) (A9_3:Option Addr) (n9_3 c9_3:Nat) (x9_4:Int) (x9_5:Int) (x9_6:Int) (x9_7:ByteArray) (x9_8:ByteArray) (x9_9:ByteArray) (x9_10:Int) (A9_11:Option Addr) (n9_11 c9_11:Nat) (A9_12:Option Addr) (n9_12 c9_12:Nat) (x9_13:Bool) (x9_14:Int):Tryz.prog.built 37 [(0,.int .i64 x0),(9,.agg (([.bool x9_0,.bool x9_1,.slice A9_2 n9_2 c9_2,.slice A9_3 n9_3 c9_3,.int .i64 x9_4,.int .i64 x9_5,.int .i64 x9_6,.string x9_7,.string x9_8,.string x9_9,.int .i64 x9_10,.slice A9_11 n9_11 c9_11,.slice A9_12 n9_12 c9_12,.bool x9_13,.int .i64 x9_14]:List Value)).toArray)]=some ([.int .i64 x0,.string .empty,.string .empty,.slice none 0 0,.slice none 0 0,.bool false,.slice none 0 0,.slice none 0 0,.int .i64 0,.int .i64 0,.int .i64 0,.string .empty,.string .empty,.string .empty,.int .i64 0,.slice none 0 0,.bool x9_0,.bool x9_1,.slice A9_2 n9_2 c9_2,.slice A9_3 n9_3 c9_3,.int .i64 x9_4,.int .i64 x9_5,.int .i64 x9_6,.string x9_7,.string x9_8,.string x9_9,.int .i64 x9_10,.slice A9_11 n9_11 c9_11,.slice A9_12 n9_12 c9_12,.bool x9_13,.int .i64 x9_14]:List Value).toArray:=by kernel_rfl
theorem nameE (s:List UInt8) (w:World)  : Calls Tryz.prog 41 #[.string (B s)] w (cG w (.agg (bU (nmX s) SL.nil).toArray)):=by
 refine az (args:=[.string (B s)]) (lent:=[]) (H:=[]) Tryz.func41 rfl Tryz.ntmps41 rfl (Sat.start _ _ _ _) ((show Tri _ [(0,_)] _ _ _ from ae (aa (aQ _ rfl dF rfl (fun b2=>triL_nilN (ae (aa (ai rfl rfl (aT (nJ _ _) rfl rfl (dK (us:=[.int .i64 0,.int .i64 0,.int .i64 0,.string .empty,.string .empty,.string .empty,.int .i64 0,.slice none 0 0]) (cs:=bU (nmX s) SL.nil) rfl rfl rfl aY .z rfl rfl rfl (triL_nilN (aq (cS rfl bh aY N0 rfl rfl ?_))))))))))))); exact fun w1 hw1=>⟨rfl,hw1.chg⟩
theorem awPV2 {P:Program} {n:Nat} {w w1:World} {H:List Chunk} {b c:Nat} {e1 z1 n1 e2 z2 n2:Nat} {x1 x2:List Value} {m1 m2 k1 k2:Nat} (hL:LV w) (hg:10≤w.heap.size) (h1:Sat ⟨P,n,[],w,[]⟩ H w1) (hb:row (.slice (some ⟨b,0,none⟩) m1 k1) e1 z1 n1 x1 ∈ H) (hc:row (.slice (some ⟨c,0,none⟩) m2 k2) e2 z2 n2 x2 ∈ H):PV w1 [] [b,c]:=by
 have q1:=h1.lt hb (k:=b) rfl
 have q2:=h1.lt hc (k:=c) rfl
 have q3:=h1.chg.size
 refine ⟨⟨fun k hk=>⟨?_,by simp⟩,fun k hk=>⟨?_,by simp⟩⟩,hL.chg h1.chg⟩
 · simp only [List.mem_cons,List.not_mem_nil,or_false] at hk
   rcases hk with rfl | rfl
   · exact q1
   · exact q2
 · have:w.heap.size≤w1.heap.size:=q3
   omega
theorem awPV1 {P:Program} {n:Nat} {w w1:World} {H:List Chunk} {b:Nat} {e1 z1 n1:Nat} {x1:List Value} {m1 k1:Nat} (hL:LV w) (hg:10≤w.heap.size) (h1:Sat ⟨P,n,[],w,[]⟩ H w1) (hb:row (.slice (some ⟨b,0,none⟩) m1 k1) e1 z1 n1 x1 ∈ H):PV w1 [] [b]:=by
 have q1:=h1.lt hb (k:=b) rfl
 have q3:=h1.chg.size
 refine ⟨⟨fun k hk=>⟨?_,by simp⟩,fun k hk=>⟨?_,by simp⟩⟩,hL.chg h1.chg⟩
 · simp only [List.mem_cons,List.not_mem_nil,or_false] at hk
   subst hk
   exact q1
 · have:w.heap.size≤w1.heap.size:=q3
   omega
set_option maxRecDepth 100000 in
set_option maxHeartbeats 2000000 in
theorem vA  (w:World) (hE:LE w) (hX:LX w) (hL:LV w) (hg:10≤w.heap.size):Calls Tryz.prog 12 #[] w (cG w (.bool true)):=by
 refine az (args:=[]) (lent:=[]) (H:=[]) Tryz.func12 rfl Tryz.ntmps12 rfl (Sat.start _ _ _ _) ((show Tri _ [] _ _ _ from ae (aa (o_assignN rfl rfl (ae (aa (gK (J:=List Nat × List Value) (val:=fun j=>.tuple #[.agg j.2.toArray,errS (cr awT1)]) (D':=fun j=>[stC j.1 (stR (cr awT1)) j.2]) (Pu:=fun j=>j.2.length=31∧allOne j.2=true) [] [] _ [] rfl rfl rfl rfl Tryz.call15 (by simp) (by simp) (fun w1 h1 h2=>tW awT1 w1 (by decide) (hE.chg h1.chg) aw_s1) (fun j hj=>?_))))))))
 rw [aw_1]
 refine ai rfl rfl (aZ rfl rfl rfl (aZ rfl rfl rfl (aQ _ rfl iV rfl (fun b1=>dK (us:=[.int .i64 0,.string .empty,.string .empty,.slice none 0 0,.slice none 0 0,.bool false,.slice none 0 0,.slice none 0 0,.int .i64 0,.int .i64 0,.int .i64 0,.string .empty,.string .empty,.string .empty,.int .i64 0,.slice none 0 0,.bool false,.bool false,.slice none 0 0,.slice none 0 0,.int .i64 0,.int .i64 0,.int .i64 0,.string .empty,.string .empty,.string .empty,.int .i64 0,.slice none 0 0,.slice none 0 0,.bool false,.int .i64 0]) (cs:=j.2) rfl hj.1 hj.2 eU .z rfl rfl rfl (o_assignN rfl rfl (ae (tri_slo [(2,_),(1,_)] rfl ?_)))))))
 obtain ⟨blp,cs⟩:=j
 refine Tri.know (fun w2 hw2=>((fun ⟨y,hy,_⟩=>⟨y,hy⟩:(∃ y,cs=bL go y∧SAt blp w2 go y)→∃ y,cs=bL go y) (s8 (hw2.holds _ (Nth.mem (.s .z))).1))) (fun ⟨y,hy⟩=>?_)
 subst hy
 refine aa (aF (first:=[]) (cap:=[]) rfl rfl rfl Tryz.call41 (fun w1 h1=>nameE [97] w1) (aT (qU _ _ _ _ _ _ _ _ _ _) rfl rfl (aT (pT _ _ _) rfl rfl (aT (tY _ _ _ _ _ _ _ _ _ _ _) rfl rfl (gA (parts:=[_,_]) awI Tryz.underlying31 zs53 rfl rfl rfl rfl (by decide) (by decide) (fun b18=>aT (qT _) rfl rfl (bk Tryz.underlying32 zs87 rfl rfl rfl rfl rfl (by decide) (by decide) (fun b20=>aT (tZ _ _ _ _ _ _) rfl rfl (aT (t6 _ _ _ _ _ _ _ _ _ _ _ _ _ _ _ _ _ _ _ _ _ _ _ _) rfl rfl (aQ _ rfl iV rfl (fun b3=>dK (us:=[.int .i64 0,.string .empty,.string .empty,.slice none 0 0,.slice none 0 0,.bool false,.slice none 0 0,.slice none 0 0,.int .i64 0,.int .i64 0,.int .i64 0,.string .empty,.string .empty,.string .empty,.int .i64 0,.slice none 0 0,.bool false,.bool false,.slice none 0 0,.slice none 0 0,.int .i64 0,.int .i64 0,.int .i64 0,.string .empty,.string .empty,.string .empty,.int .i64 0,.slice none 0 0,.slice none 0 0,.bool false,.int .i64 0]) (cs:=bL go (awY b18 b20)) rfl rfl rfl eU .z rfl rfl rfl (triL_nilN (ae (tri_slo [(3,_),(2,_),(1,_)] rfl (aa (aS fk eU .z rfl rfl (vs:=bL go (awY b18 b20)) rfl rfl (aF (first:=[]) (cap:=[]) rfl rfl rfl Tryz.call8 (fun w1 h1=>mJ go (awY b18 b20) [b18,b20] w1 (awPV2 hL hg h1 (Nth.mem (.s (.s .z))) (Nth.mem (.s .z))) (aw_at (RdS.row (.s (.s .z)) w1 h1) (RdS.row (.s .z) w1 h1)) aw_ok aw_bd (fun _=>by rw [aw_6]; decide)) ?_)))))))))))))))))
 rw [aw_3]
 refine ai rfl rfl (aZ rfl rfl rfl (aZ rfl rfl rfl (aO rfl rfl (o_assignN rfl rfl (ae (tri_slo [(5,_),(4,_),(3,_),(2,_),(1,_)] rfl (aa (aF (first:=[]) (cap:=[]) rfl rfl rfl Tryz.call41 (fun w1 h1=>nameE [97] w1) (bk Tryz.underlying28 zs30 rfl rfl rfl rfl rfl (by decide) (by decide) (fun b30=>aT (eH _ _ _ _) rfl rfl (aF (first:=[]) (cap:=[]) rfl rfl rfl Tryz.call13 (fun w1 h1=>vw notA ⟨some ⟨b30,0,none⟩,1⟩ [b30] w1 (awPV1 hL hg h1 (Nth.mem .z)) (nota_at (RdS.row .z w1 h1)) nota_ok (by rw [aw_8]; decide) (fun _=>by rw [aw_7]; decide)) ?_)))))))))))
 rw [aw_4]
 refine ai rfl rfl (aZ rfl rfl rfl (aZ rfl rfl rfl (aO rfl rfl (o_assignN rfl rfl (ae (tri_slo [(7,_),(6,_),(5,_),(4,_),(3,_),(2,_),(1,_)] rfl (aa (gK (J:=List Nat × List Value) (val:=fun j=>.tuple #[.agg j.2.toArray,errS (cr awT2)]) (D':=fun j=>[stC j.1 (stR (cr awT2)) j.2]) (Pu:=fun j=>j.2.length=31∧allOne j.2=true) [] [] _ [] rfl rfl rfl rfl Tryz.call15 (by simp) (by simp) (fun w1 h1 h2=>tW awT2 w1 (by decide) (hE.chg h1.chg) aw_s2) (fun k hk=>?_)))))))))
 rw [aw_2]
 refine ai rfl rfl (aZ rfl rfl rfl (aZ rfl rfl rfl (aQ _ rfl iV rfl (fun b8=>dK (us:=[.int .i64 0,.string .empty,.string .empty,.slice none 0 0,.slice none 0 0,.bool false,.slice none 0 0,.slice none 0 0,.int .i64 0,.int .i64 0,.int .i64 0,.string .empty,.string .empty,.string .empty,.int .i64 0,.slice none 0 0,.bool false,.bool false,.slice none 0 0,.slice none 0 0,.int .i64 0,.int .i64 0,.int .i64 0,.string .empty,.string .empty,.string .empty,.int .i64 0,.slice none 0 0,.slice none 0 0,.bool false,.int .i64 0]) (cs:=k.2) rfl hk.1 hk.2 eU .z rfl rfl rfl (o_assignN rfl rfl (ae (tri_slo [(9,_),(7,_),(6,_),(5,_),(4,_),(3,_),(2,_),(1,_)] rfl (aa (ai rfl rfl (ow ifE (.inl ⟨rfl,rfl⟩) rfl rfl (ai rfl rfl ?_)))))))))))
 refine' aJ [_,_,_] [(9,_),(7,_),(6,_),(5,_),(4,_),(3,_)] (dj:=41) (dr:=44) rfl rfl (fun g1=>?_) ⟨_,rfl,rfl,rfl,(.cons rfl (.cons rfl (.cons rfl (.cons rfl (.cons rfl (.cons rfl (.nil _)))))))⟩ rfl ?_
 rotate_left
 · skip
   exact aS fk eU (.s (.s (.s (.s (.s (.s .z)))))) rfl rfl (vs:=bL go y) rfl rfl (aS fk eU (.s (.s (.s .z))) rfl rfl (vs:=bL go (awY b18 b20)) rfl rfl (aF (first:=[]) (cap:=[]) rfl rfl rfl Tryz.call16 (fun w1 h1=>sk go go y (awY b18 b20) blp [b18,b20] w1 (m8 (h1.holds _ (Nth.mem (.s (.s (.s (.s (.s (.s (.s .z))))))))).1) (aw_at (RdS.row (.s (.s (.s (.s (.s .z))))) w1 h1) (RdS.row (.s (.s (.s (.s .z)))) w1 h1)) (h1.holds _ (Nth.mem (.s (.s (.s (.s (.s (.s (.s .z))))))))).2 (fun k hk=>((awPV2 hL hg h1 (Nth.mem (.s (.s (.s (.s (.s .z)))))) (Nth.mem (.s (.s (.s (.s .z)))))).pe.lt k hk).1) aw_bd) (ab (Piece.mk rfl rfl (.cons rfl (.cons rfl (.cons rfl (.cons rfl (.cons rfl (.cons rfl (.nil _))))))) (fun _ h=>h)))))
 refine ai rfl rfl ?_
 refine' aJ [_,_] [(9,_),(7,_),(6,_),(5,_),(3,_)] (dj:=46) (dr:=48) rfl rfl (fun g2=>?_) ⟨_,rfl,rfl,rfl,(.cons rfl (.cons rfl (.cons rfl (.cons rfl (.cons rfl (.nil _))))))⟩ rfl ?_
 rotate_left
 · skip
   exact ai rfl rfl (bE rfl rfl rfl (ab (Piece.mk rfl rfl (.cons rfl (.cons rfl (.cons rfl (.cons rfl (.cons rfl (.nil _)))))) (fun _ h=>h))))
 refine ai rfl rfl ?_
 refine' aJ [_,_] [(9,_),(7,_),(6,_),(3,_)] (dj:=50) (dr:=52) rfl rfl (fun g3=>?_) ⟨_,rfl,rfl,rfl,(.cons rfl (.cons rfl (.cons rfl (.cons rfl (.nil _)))))⟩ rfl ?_
 rotate_left
 · skip
   exact ai rfl rfl (aD rfl rfl rfl (ab (Piece.mk rfl rfl (.cons rfl (.cons rfl (.cons rfl (.cons rfl (.nil _))))) (fun _ h=>h))))
 refine ai rfl rfl ?_
 refine' aJ [_,_] [(9,_),(7,_),(3,_)] (dj:=54) (dr:=56) rfl rfl (fun g4=>?_) ⟨_,rfl,rfl,rfl,(.cons rfl (.cons rfl (.cons rfl (.nil _))))⟩ rfl ?_
 rotate_left
 · skip
   exact ai rfl rfl (bE rfl rfl rfl (ab (Piece.mk rfl rfl (.cons rfl (.cons rfl (.cons rfl (.nil _)))) (fun _ h=>h))))
 refine ai rfl rfl ?_
 refine' aJ [_,_] [(9,_),(3,_)] (dj:=58) (dr:=60) rfl rfl (fun g5=>?_) ⟨_,rfl,rfl,rfl,(.cons rfl (.cons rfl (.nil _)))⟩ rfl ?_
 rotate_left
 · skip
   exact ai rfl rfl (aD rfl rfl rfl (ab (Piece.mk rfl rfl (.cons rfl (.cons rfl (.nil _))) (fun _ h=>h))))
 refine ai rfl rfl ?_
 refine' aJ [_,_,_,_] [(3,_)] (dj:=62) (dr:=66) rfl rfl (fun g6=>?_) ⟨_,rfl,rfl,rfl,(.cons rfl (.nil _))⟩ rfl ?_
 rotate_left
 · skip
   exact ai rfl rfl (aF (first:=[]) (cap:=[]) rfl rfl rfl Tryz.call18 (fun w1 h1=>faultK (.error (190,13)) w1 (hX.chg h1.chg)) (aT (jh _ _) rfl rfl (o_eqlAT (ks:=fKs) (vs:=[.int .i64 190,.int .i64 13]) flatF rfl rfl rfl rfl rfl (ab (Piece.mk rfl rfl (.cons rfl (.nil _)) (fun _ h=>h))))))
 refine ai rfl rfl ?_
 refine' aJ [_,_] [] (dj:=68) (dr:=70) rfl rfl (fun g7=>?_) ⟨_,rfl,rfl,rfl,(.nil _)⟩ rfl ?_
 rotate_left
 · skip
   exact aS fk eU (.s (.s (.s .z))) rfl rfl (vs:=bL go (awY b18 b20)) rfl rfl (aF (first:=[]) (cap:=[]) rfl rfl rfl Tryz.call10 (fun w1 h1=>mayStK go (awY b18 b20) [b18,b20] w1 (aw_at (RdS.row (.s (.s (.s (.s (.s .z))))) w1 h1) (RdS.row (.s (.s (.s (.s .z)))) w1 h1)) (fun k hk=>((awPV2 hL hg h1 (Nth.mem (.s (.s (.s (.s (.s .z)))))) (Nth.mem (.s (.s (.s (.s .z)))))).pe.lt k hk).1) aw_ok aw_bd) (ab (Piece.mk rfl rfl (.nil _) (fun _ h=>h))))
 refine o_assignN rfl rfl (aq (ba rfl rfl ?_)); exact fun w1 hw1=>⟨congrArg (fun b=>Ending.returned (.bool b)) (by rw [decide_eq_true (rfl:go=go),aw_5]; rfl),hw1.chg⟩
end Go.Proofs.YtjbpkcbefmpfgaaGreatDoor
namespace Go.Proofs.YtjbpkcbefmpfgaaGreatDoor
open Go.WK Go.RowKit 
set_option maxRecDepth 100000 in
set_option maxHeartbeats 2000000 in
theorem yT (s:StmtX) (y:Lay) (bl:List Nat) (q:List UInt8) (w:World) (hE:LE w) (hX:LX w) (hL:LV w) (hg:10≤w.heap.size) (hV:PV w [] bl) (hA:SAt bl w s y) (hok:SOk s) (hbd:SBd s) (hT:fK s=true→(stmT s).1.length≤70368744177664) (hq:q.length≤140737488355328):Calls Tryz.prog 5 #[.agg (bL s y).toArray,.string (B q)] w (cG w (.bool true)):=by
 refine az (args:=[.agg (bL s y).toArray,.string (B q)]) (lent:=[]) (H:=[]) Tryz.func5 rfl Tryz.ntmps5 rfl (Sat.start _ _ _ _) ((show Tri _ [(0,_),(1,_)] _ _ _ from ?_))
 have hbl:∀ k ∈ bl,k < w.heap.size:=fun k hk=>(hV.pe.lt k hk).1
 refine ae (aa (cD _ rfl rfl rfl (fun b2=>o_assignN rfl rfl (ae (aa (aS fk eU .z rfl rfl (vs:=bL s y) rfl rfl (aF (first:=[]) (cap:=[]) rfl rfl rfl Tryz.call8 (fun w1 h1=>mJ s y bl w1 (hV.sub ⟨h1.chg,fun k _ h=>h⟩) (hA.stab (fun k hk=>h1.chg.block k (hbl k hk) (by simp))) hok hbd hT) (ai rfl rfl (aZ rfl rfl rfl (aZ rfl rfl rfl (aO rfl rfl (o_assignN rfl rfl (cz (ι:=Unit) (fun u=>[(1,.string (B q))]) (fun u=>[]) (fun u=>True) ?_ (fun u hj=>?_))))))))))))))
 · skip
   refine ae (tri_slo [(6,_),(5,_),(2,_),(1,_)] rfl (aa (ai rfl rfl (aD rfl rfl rfl (triL_nilN (av rfl (fun q0=>?_) (fun q0=>?_)))))))
   · skip
     obtain ⟨hp1,hp2⟩:=yE hok q0
     refine ae (aa (ai rfl rfl (gK (J:=List Nat × List Value) (val:=fun j=>.tuple #[.agg j.2.toArray,errS (cr (prS s).1)]) (D':=fun j=>[stC j.1 (stR (cr (prS s).1)) j.2]) (Pu:=fun j=>j.2.length=31∧allOne j.2=true) [] [] _ [] rfl rfl rfl rfl Tryz.call15 (by simp) (by simp) (fun w1 h1 h2=>lf (prS s).1 w1 (by omega) (hE.chg h1.chg)) (fun j hj=>?_))))
     rw [hp1]
     refine ai rfl rfl (aZ rfl rfl rfl (aZ rfl rfl rfl (aQ _ rfl iV rfl (fun b7=>dK (us:=[.int .i64 0,.string .empty,.string .empty,.slice none 0 0,.slice none 0 0,.bool false,.slice none 0 0,.slice none 0 0,.int .i64 0,.int .i64 0,.int .i64 0,.string .empty,.string .empty,.string .empty,.int .i64 0,.slice none 0 0,.bool false,.bool false,.slice none 0 0,.slice none 0 0,.int .i64 0,.int .i64 0,.int .i64 0,.string .empty,.string .empty,.string .empty,.int .i64 0,.slice none 0 0,.slice none 0 0,.bool false,.int .i64 0]) (cs:=j.2) rfl hj.1 hj.2 eU .z rfl rfl rfl (o_assignN rfl rfl (ae (tri_slo [(8,_),(7,_),(2,_),(1,_)] rfl ?_)))))))
     obtain ⟨blp,cs⟩:=j
     refine Tri.know (fun w2 hw2=>((fun ⟨y,hy,_⟩=>⟨y,hy⟩:(∃ y,cs=bL s y∧SAt blp w2 s y)→∃ y,cs=bL s y) (s8 (hw2.holds _ (Nth.mem (.s .z))).1))) (fun ⟨ya,hy⟩=>?_)
     subst hy
     refine aa (ai rfl rfl (kG ifE (.inl ⟨rfl,rfl⟩) rfl rfl (ai rfl rfl (aS fk eU .z rfl rfl (vs:=bL s ya) rfl rfl (aS fk eU (.s (.s .z)) rfl rfl (vs:=bL s y) rfl rfl (aF (first:=[]) (cap:=[]) rfl rfl rfl Tryz.call16 (fun w1 h1=>sk s s ya y blp bl w1 (m8 (h1.holds _ (Nth.mem (.s .z))).1) (hA.stab (fun k hk=>h1.chg.block k (hbl k hk) (by simp))) (h1.holds _ (Nth.mem (.s .z))).2 (fun k hk=>Nat.lt_of_lt_of_le (hbl k hk) h1.chg.size) hbd) ?_))))))
     rw [decide_eq_true (rfl:s=s)]
     refine dV rfl rfl (jc rfl rfl rfl rfl (triL_nilN (aG rfl (fun q1=>?_) (fun q1=>?_))))
     · skip
       simp at q1
     · skip
       exact ao (ag (⟨(),(.cons rfl (.nil _)),(fun w2 hw2=>hw2.sel [] (by decide)),trivial⟩))
   · skip
     exact ao (ag (⟨(),(.cons rfl (.nil _)),(fun w2 hw2=>hw2.sel [] (by decide)),trivial⟩))
 refine ae ?_
 rcases hpq:cr q with x | st
 · skip
   skip
   refine aa (ai rfl rfl (gK (J:=List Nat × List Value) (val:=fun j=>.tuple #[.agg j.2.toArray,errS (cr q)]) (D':=fun j=>[stC j.1 (stR (cr q)) j.2]) (Pu:=fun j=>j.2.length=31∧allOne j.2=true) [] [] _ [] rfl rfl rfl rfl Tryz.call15 (by simp) (by simp) (fun w1 h1 h2=>lf q w1 hq (hE.chg h1.chg)) (fun j hj=>?_)))
   rw [hpq]
   refine ai rfl rfl (aZ rfl rfl rfl (aZ rfl rfl rfl (aQ _ rfl iV rfl (fun b9=>dK (us:=[.int .i64 0,.string .empty,.string .empty,.slice none 0 0,.slice none 0 0,.bool false,.slice none 0 0,.slice none 0 0,.int .i64 0,.int .i64 0,.int .i64 0,.string .empty,.string .empty,.string .empty,.int .i64 0,.slice none 0 0,.bool false,.bool false,.slice none 0 0,.slice none 0 0,.int .i64 0,.int .i64 0,.int .i64 0,.string .empty,.string .empty,.string .empty,.int .i64 0,.slice none 0 0,.slice none 0 0,.bool false,.int .i64 0]) (cs:=j.2) rfl hj.1 hj.2 eU .z rfl rfl rfl (o_assignN rfl rfl (ae (ae (tri_slo [(10,_),(9,_)] rfl (aa (ai rfl rfl (kG ifE (.inr ⟨rfl,_,_,rfl⟩) rfl rfl (triL_nilN (cn rfl (ae (au [] (.nil _) (aa (aF (first:=[]) (cap:=[]) rfl rfl rfl Tryz.call12 (fun w1 h1=>vA w1 (hE.chg h1.chg) (hX.chg h1.chg) (hL.chg h1.chg) (by have:w.heap.size≤w1.heap.size:=h1.chg.size; omega)) (o_assignN rfl rfl (aq (an (ba rfl rfl ?_))))))))))))))))))))); exact fun w1 hw1=>⟨congrArg (fun b=>Ending.returned (.bool b)) (by rfl),hw1.chg⟩
 · skip
   have hfx:=pw hpq
   have hokx:=hfx.ok
   have hbdx:=stm_bd (Nat.le_trans hfx.sz (by decide))
   have hTx:fK st=true→(stmT st).1.length≤70368744177664:=fun hm=>by have:=tt hm hokx; have:=hfx.sz; omega
   refine aa (ai rfl rfl (gK (J:=List Nat × List Value) (val:=fun j=>.tuple #[.agg j.2.toArray,errS (cr q)]) (D':=fun j=>[stC j.1 (stR (cr q)) j.2]) (Pu:=fun j=>j.2.length=31∧allOne j.2=true) [] [] _ [] rfl rfl rfl rfl Tryz.call15 (by simp) (by simp) (fun w1 h1 h2=>lf q w1 hq (hE.chg h1.chg)) (fun j hj=>?_)))
   rw [hpq]
   refine ai rfl rfl (aZ rfl rfl rfl (aZ rfl rfl rfl (aQ _ rfl iV rfl (fun b9=>dK (us:=[.int .i64 0,.string .empty,.string .empty,.slice none 0 0,.slice none 0 0,.bool false,.slice none 0 0,.slice none 0 0,.int .i64 0,.int .i64 0,.int .i64 0,.string .empty,.string .empty,.string .empty,.int .i64 0,.slice none 0 0,.bool false,.bool false,.slice none 0 0,.slice none 0 0,.int .i64 0,.int .i64 0,.int .i64 0,.string .empty,.string .empty,.string .empty,.int .i64 0,.slice none 0 0,.slice none 0 0,.bool false,.int .i64 0]) (cs:=j.2) rfl hj.1 hj.2 eU .z rfl rfl rfl (o_assignN rfl rfl (ae (ae (tri_slo [(10,_),(9,_)] rfl (aa (ai rfl rfl (kG ifE (.inl ⟨rfl,rfl⟩) rfl rfl (triL_nilN (kA rfl (ao (ag (ae ?_))))))))))))))))
   obtain ⟨blx,csx⟩:=j
   refine Tri.know (fun w2 hw2=>((fun ⟨y,hy,_⟩=>⟨y,hy⟩:(∃ y,csx=bL st y∧SAt blx w2 st y)→∃ y,csx=bL st y) (s8 (hw2.holds _ (Nth.mem (.s .z))).1))) (fun ⟨yx,hy⟩=>?_)
   subst hy
   refine aa (aS fk eU .z rfl rfl (vs:=bL st yx) rfl rfl (aF (first:=[]) (cap:=[]) rfl rfl rfl Tryz.call8 (fun w1 h1=>mJ st yx blx w1 ⟨⟨fun k hk=>⟨(h1.holds _ (Nth.mem (.s .z))).2 k hk,by simp⟩,fun k hk=>⟨by have:w.heap.size≤w1.heap.size:=h1.chg.size; omega,by simp⟩⟩,hL.chg h1.chg⟩ (m8 (h1.holds _ (Nth.mem (.s .z))).1) hokx hbdx hTx) (ai rfl rfl (aZ rfl rfl rfl (aZ rfl rfl rfl (aO rfl rfl (o_assignN rfl rfl (ae (ae (tri_slo [(6,_),(5,_),(9,_)] rfl (aa (ai rfl rfl (cX rfl rfl rfl (triL_nilN (av rfl (fun q4=>?_) (fun q4=>?_))))))))))))))))
   · skip
     have hp:prS st=([],3):=by
      rcases nG hpq with ⟨_,hp,_⟩ | ⟨_,hp⟩
      · rw [hp] at q4; exact absurd rfl q4
      · exact hp
     rw [hp]
     refine ae (tri_slo [(6,_)] rfl (aa (ai rfl rfl (aD rfl rfl rfl ?_))))
     rw [decide_eq_true (rfl:(3:Int)=(3:Int))]
     refine ai rfl rfl (aF (first:=[]) (cap:=[]) rfl rfl rfl Tryz.call12 (fun w1 h1=>vA w1 (hE.chg h1.chg) (hX.chg h1.chg) (hL.chg h1.chg) (by have:w.heap.size≤w1.heap.size:=h1.chg.size; omega)) (fq rfl rfl rfl rfl (o_assignN rfl rfl (aq (an (ba rfl rfl ?_)))))); exact fun w1 hw1=>⟨congrArg (fun b=>Ending.returned (.bool b)) (by rfl),hw1.chg⟩
   · skip
     have hp3:(stmT st).1.length≤4096∧prS st=((stmT st).1,0)∧cr (stmT st).1=.ok st:=by
      rcases nG hpq with hp | ⟨_,hp⟩
      · exact hp
      · rw [hp] at q4; exact absurd (show ¬ (3:Int)=0 by decide) q4
     obtain ⟨hl,hp,hpp⟩:=hp3
     rw [hp]
     refine ao (ag (ae (aa (ai rfl rfl (gK (J:=List Nat × List Value) (val:=fun j=>.tuple #[.agg j.2.toArray,errS (cr (stmT st).1)]) (D':=fun j=>[stC j.1 (stR (cr (stmT st).1)) j.2]) (Pu:=fun j=>j.2.length=31∧allOne j.2=true) [] [] _ [] rfl rfl rfl rfl Tryz.call15 (by simp) (by simp) (fun w1 h1 h2=>lf (stmT st).1 w1 (by omega) (hE.chg h1.chg)) (fun k hk=>?_))))))
     rw [hpp]
     refine ai rfl rfl (aZ rfl rfl rfl (aZ rfl rfl rfl (aQ _ rfl iV rfl (fun b11=>dK (us:=[.int .i64 0,.string .empty,.string .empty,.slice none 0 0,.slice none 0 0,.bool false,.slice none 0 0,.slice none 0 0,.int .i64 0,.int .i64 0,.int .i64 0,.string .empty,.string .empty,.string .empty,.int .i64 0,.slice none 0 0,.bool false,.bool false,.slice none 0 0,.slice none 0 0,.int .i64 0,.int .i64 0,.int .i64 0,.string .empty,.string .empty,.string .empty,.int .i64 0,.slice none 0 0,.slice none 0 0,.bool false,.int .i64 0]) (cs:=k.2) rfl hk.1 hk.2 eU .z rfl rfl rfl (o_assignN rfl rfl (ae (tri_slo [(12,_),(11,_),(5,_),(9,_)] rfl ?_)))))))
     obtain ⟨blz,csz⟩:=k
     refine Tri.know (fun w2 hw2=>((fun ⟨y,hy,_⟩=>⟨y,hy⟩:(∃ y,csz=bL st y∧SAt blz w2 st y)→∃ y,csz=bL st y) (s8 (hw2.holds _ (Nth.mem (.s .z))).1))) (fun ⟨yz,hy⟩=>?_)
     subst hy
     refine aa (aS fk eU .z rfl rfl (vs:=bL st yz) rfl rfl (aF (first:=[]) (cap:=[]) rfl rfl rfl Tryz.call8 (fun w1 h1=>mJ st yz blz w1 ⟨⟨fun k hk=>⟨(h1.holds _ (Nth.mem (.s .z))).2 k hk,by simp⟩,fun k hk=>⟨by have:w.heap.size≤w1.heap.size:=h1.chg.size; omega,by simp⟩⟩,hL.chg h1.chg⟩ (m8 (h1.holds _ (Nth.mem (.s .z))).1) hokx hbdx hTx) ?_))
     rw [hp]
     refine ai rfl rfl (aZ rfl rfl rfl (aZ rfl rfl rfl (aO rfl rfl (o_assignN rfl rfl (ae (tri_slo [(14,_),(13,_),(12,_),(11,_),(5,_),(9,_)] rfl (aa (ai rfl rfl (ow ifE (.inl ⟨rfl,rfl⟩) rfl rfl (ai rfl rfl (aS fk eU .z rfl rfl (vs:=bL st yz) rfl rfl (aS fk eU (.s (.s .z)) rfl rfl (vs:=bL st yx) rfl rfl (aF (first:=[]) (cap:=[]) rfl rfl rfl Tryz.call16 (fun w1 h1=>sk st st yz yx blz blx w1 (m8 (h1.holds _ (Nth.mem (.s .z))).1) (m8 (h1.holds _ (Nth.mem (.s (.s (.s .z))))).1) (h1.holds _ (Nth.mem (.s .z))).2 (h1.holds _ (Nth.mem (.s (.s (.s .z))))).2 hbdx) ?_)))))))))))))
     rw [decide_eq_true (rfl:st=st)]
     refine fq rfl rfl rfl rfl (ai rfl rfl (ai rfl rfl (aD rfl rfl rfl ?_)))
     rw [decide_eq_true (rfl:(0:Int)=(0:Int))]
     refine fq rfl rfl rfl rfl (ai rfl rfl (ai rfl rfl (ai rfl rfl (bE rfl rfl rfl ?_))))
     rw [decide_eq_true (rfl:(stmT st).1=(stmT st).1)]
     refine fq rfl rfl rfl rfl (ai rfl rfl (aF (first:=[]) (cap:=[]) rfl rfl rfl Tryz.call12 (fun w1 h1=>vA w1 (hE.chg h1.chg) (hX.chg h1.chg) (hL.chg h1.chg) (by have:w.heap.size≤w1.heap.size:=h1.chg.size; omega)) (fq rfl rfl rfl rfl (o_assignN rfl rfl (aq (ba rfl rfl ?_)))))); exact fun w1 hw1=>⟨congrArg (fun b=>Ending.returned (.bool b)) (by rfl),hw1.chg⟩
end Go.Proofs.YtjbpkcbefmpfgaaGreatDoor
namespace Go.Proofs.YtjbpkcbefmpfgaaGreatDoor
open Go.WK Go.RowKit
theorem tySyn:(Tryz.prog.globals[6]?).map (·.type)=some 46:=by kernel_rfl
theorem tyRng:(Tryz.prog.globals[7]?).map (·.type)=some 46:=by kernel_rfl
theorem w9:Tryz.prog.cellsOf 254=1:=by kernel_rfl
theorem t7:Tryz.prog.cellsOf 9=1:=by kernel_rfl
theorem star : "*" ++ "errors.errorString" = "*errors.errorString" := by decide
theorem rowEs (u : TypeId) (h : Tryz.prog.typeName? 3 u = some "*errors.errorString") : u = 252 :=
 typeName_ptr_named (nm := "errors.errorString") (by rw [star]; kernel_rfl) (by kernel_rfl) (by decide) u (by rw [star]; exact h)
theorem synIs {W : World} {rest : List (String × DataW Unit)} (h : laidMet Tryz.prog (("strconv.ErrSyntax", Rows.laid_strconv_ErrSyntax) :: rest) W) : ∃ tp p, W.var? Tryz.prog "strconv.ErrSyntax" = some #[.iface tp p] := by
 obtain ⟨a,s,hv,_⟩:=laid_sentinel h gSyn tySyn Tryz.underlying46 rowEs Tryz.underlying252 Tryz.underlying254 rfl rfl Tryz.underlying9 w9 t7
 exact ⟨_,_,hv⟩
theorem rngIs {W : World} {rest : List (String × DataW Unit)} (h : laidMet Tryz.prog (("strconv.ErrRange", Rows.laid_strconv_ErrRange) :: rest) W) : ∃ tp p, W.var? Tryz.prog "strconv.ErrRange" = some #[.iface tp p] := by
 obtain ⟨a,s,hv,_⟩:=laid_sentinel h gRng tyRng Tryz.underlying46 rowEs Tryz.underlying252 Tryz.underlying254 rfl rfl Tryz.underlying9 w9 t7
 exact ⟨_,_,hv⟩
theorem tyTab:(Tryz.prog.globals[2]?).map (·.type)=some 231:=by kernel_rfl
theorem cellsU:Tryz.prog.cellsOf 200=1:=by kernel_rfl
theorem cellsTab:Tryz.prog.cellsOf 231=20:=by kernel_rfl
theorem rtIs : (Tryz.prog.cutTypes.find? (·.1 == "internal/reflectlite.rtype")).map (·.2) = some 180 := by kernel_rfl
theorem oneRow:((List.range 286).filter fun t=>Tryz.prog.rowNamed t [101,114,114,111,114])=[46]:=by kernel_rfl
theorem tsize:Tryz.prog.types.size=286:=by kernel_rfl
abbrev plainL : List (String × DataW Unit) := [("math/bits.deBruijn32tab", Rows.laid_math_bits_deBruijn32tab), ("math/bits.deBruijn64tab", Rows.laid_math_bits_deBruijn64tab), ("internal/strconv.uint64pow10", Rows.laid_internal_strconv_uint64pow10), ("unicode/utf8.acceptRanges", Rows.laid_unicode_utf8_acceptRanges), ("strconv.ErrRange", Rows.laid_strconv_ErrRange), ("strconv.ErrSyntax", Rows.laid_strconv_ErrSyntax), ("unicode.CaseRanges", Rows.laid_unicode_CaseRanges), ("unicode/utf8.first", Rows.laid_unicode_utf8_first)]
abbrev t8:List (String × DataW Unit):=Rows.parsePrintsUptoRow.laid
theorem xd : (t8.filter fun x => x.2.handleName?.isSome) = [("errors.errorType", Rows.laid_errors_errorType)] := by kernel_rfl
theorem restL:(t8.filter fun x=>x.2.handleName?.isNone)=plainL:=by kernel_rfl
theorem errTyIs {W : World} (h : handlesMet Tryz.prog [("errors.errorType", Rows.laid_errors_errorType)] W) : W.cell? ⟨0, 0, none⟩ = some (.iface 180 (.agg #[.pointer (some ⟨10, 46, none⟩)])) := by
 obtain ⟨name,u,ty,e1,e2,e3,e4,e5⟩:=h _ (List.mem_singleton.2 rfl)
 have en:name=[101,114,114,111,114]:=(Option.some.inj e1).symm
 subst en
 obtain rfl:=Option.some.inj (rtIs.symm.trans e2)
 have hm:ty ∈ (List.range 286).filter fun t=>Tryz.prog.rowNamed t [101,114,114,111,114]:=List.mem_filter.2 ⟨List.mem_range.2 (by rw [← tsize]; exact e3),e4⟩
 rw [oneRow] at hm
 obtain rfl:=List.mem_singleton.1 hm
 have hh:typeHandle Tryz.prog 46=.pointer (some ⟨10,46,none⟩):=by kernel_rfl
 rw [hh] at e5
 simpa using World.var?_cell vd e5 0
noncomputable def base0 (os:Os):World :=
 let w0:=World.holding Tryz.prog os ⟨#[], #[],[]⟩
 { w0 with heap:=w0.heap.modify 0 fun
   | .cells _ t frozen=>.cells #[.iface 180 (.agg #[.pointer (some ⟨10,46,none⟩)])] t frozen
   | o=>o }
noncomputable def laidW (os:Os):World:=(base0 os).layVars Tryz.prog plainL
theorem laidW_os (os:Os):(laidW os).os=os:=World.layVars_os _ _ _
theorem yU (os:Os) (args:Array Value):laidMetH Tryz.prog t8 ((laidW os).forCall (fun _ _=>0) ⟨#[],args,[]⟩).memory :=
 pR xd restL (pQ args (by kernel_rfl) (by kernel_rfl)) (handlesMet_of_B (by kernel_rfl))
theorem maxIs {W:World} (h:W.ShapedOpen Tryz.prog):∃ m,W.cell? ⟨3,0,none⟩=some (.int .i64 m) :=
 cell_of_shapedOpen_int (P:=Tryz.prog) (g:=3) (t:=3) (zero:=#[.int .i64 0]) h (of_decide_eq_true (by kernel_rfl)) (by kernel_rfl) rfl (by kernel_rfl) (by kernel_rfl) Tryz.underlying3
theorem size10 {W:World} (h:W.ShapedOpen Tryz.prog):10≤W.heap.size:=by
 have e:(((begin Tryz.prog (fun _ _=>0) default).world.heap[9]?).bind Obj.row?).isSome=true:=by kernel_rfl
 obtain ⟨⟨zero,t⟩,e⟩:=Option.isSome_iff_exists.1 e
 obtain ⟨cs,hc,_⟩:=h.1 9 zero t (of_decide_eq_true (by kernel_rfl)) e
 rcases Nat.lt_or_ge 9 W.heap.size with hl | hl
 · exact hl
 · rw [Array.getElem?_eq_none hl] at hc; cases hc
structure Known (W:World):Prop where
 E:LE W
 X:LX W
 V:LV W
 g:10≤W.heap.size
theorem known {W:World} (h:laidMetH Tryz.prog t8 W) (hs:W.ShapedOpen Tryz.prog):Known W:=by
 have hsp:=pi (laid:=t8) h xd
 rw [restL] at hsp
 obtain ⟨hpl,hha⟩:=hsp
 exact ⟨⟨synIs hpl.tail.tail.tail.tail.tail,rngIs hpl.tail.tail.tail.tail⟩,⟨errTyIs hha⟩,⟨maxIs hs,Lib.tabIs_of_head gTab tyTab Tryz.underlying231 Tryz.underlying200 cellsU cellsTab hpl.tail.tail⟩,size10 hs⟩
def uptoLe {H:Type} (l:List (DataW H)):Prop:=Rows.uptoSmall H l=true
theorem vB {H:Type} {l:List (DataW H)}:uptoLe l↔Rows.uptoBulkAll l≤1048576:=⟨fun h=>of_decide_eq_true h,fun h=>decide_eq_true h⟩
mutual
theorem like_bulk {H:Type}:∀ (e:Ex) (d:DataW H),Like e d→e.size≤Rows.uptoBulk d
 | .mk o v t n c al,d,h=>by
  obtain ⟨da,rfl,h⟩:=h
  simp only [Rows.uptoBulk,Rows.uptoBulkAll,Val.data,Ex.size]
  rcases h with ⟨rfl,rfl⟩ | ⟨elems,spare,rfl,h⟩
  · simp only [Rows.uptoBulk,Exs.size]; omega
  · have:=likes_bulk al elems h
    simp only [Rows.uptoBulk]; omega
theorem likes_bulk {H:Type}:∀ (l:List Ex) (ds:List (DataW H)),Likes l ds→Exs.size l≤Rows.uptoBulkAll ds
 | [],_,h=>by simp only [Exs.size]; omega
 | e::es,_,h=>by
  obtain ⟨d,ds,rfl,h1,h2⟩:=h
  have a:=like_bulk e d h1
  have b:=likes_bulk es ds h2
  simp only [Exs.size,Rows.uptoBulkAll]; omega
end
end Go.Proofs.YtjbpkcbefmpfgaaGreatDoor
namespace Go.Proofs.YtjbpkcbefmpfgaaGreatDoor
open Go.WK Go.RowKit Go.ChangeShapes Go.WideShapes Go.ChangeAt Go.ChangeMaps
section
variable {H:Type} {enc:TypeId × Value→H} {w:World} {n:Nat} {cs:List Value} {d:DataW H} {p:List MemPlace}
theorem ua:∀ l:List (DataW H),Rows.uptoBulkAll l=dS Rows.uptoBulk l
 | []=>by simp only [Rows.uptoBulkAll,dS]
 | d::l=>by simp only [Rows.uptoBulkAll,dS,ua l]
theorem jk:1≤Rows.uptoBulk (DataW.nil:DataW H):=by simp only [Rows.uptoBulk]; omega
theorem lh (l sp:List (DataW H)):dS Rows.uptoBulk l+1≤Rows.uptoBulk (.slice l sp):=by
 simp only [Rows.uptoBulk,ua]; omega
abbrev TR (enc:TypeId × Value→H) (w:World) (n t:Nat) (cs:List Value) (d:DataW H) (p:List MemPlace):Prop:=DataW.trod enc Tryz.prog w 0 (fun _=>true) true n t cs=some (d,p)
theorem cel2:Tryz.prog.cellsOf 2=1:=by kernel_rfl
theorem cel3:Tryz.prog.cellsOf 3=1:=by kernel_rfl
theorem cel4:Tryz.prog.cellsOf 4=1:=by kernel_rfl
theorem pH:Tryz.prog.cellsOf 9=1:=by kernel_rfl
theorem cel22:Tryz.prog.cellsOf 22=1:=by kernel_rfl
theorem cel23:Tryz.prog.cellsOf 23=1:=by kernel_rfl
theorem cel24:Tryz.prog.cellsOf 24=1:=by kernel_rfl
theorem cel25:Tryz.prog.cellsOf 25=1:=by kernel_rfl
theorem cel27:Tryz.prog.cellsOf 27=3:=by kernel_rfl
theorem cel28:Tryz.prog.cellsOf 28=1:=by kernel_rfl
theorem pI:Tryz.prog.cellsOf 30=8:=by kernel_rfl
theorem cel31:Tryz.prog.cellsOf 31=1:=by kernel_rfl
theorem cel32:Tryz.prog.cellsOf 32=1:=by kernel_rfl
theorem cel33:Tryz.prog.cellsOf 33=1:=by kernel_rfl
theorem cel35:Tryz.prog.cellsOf 35=15:=by kernel_rfl
theorem cel37:Tryz.prog.cellsOf 37=31:=by kernel_rfl
theorem cel53:Tryz.prog.cellsOf 53=9:=by kernel_rfl
theorem cel71:Tryz.prog.cellsOf 71=3:=by kernel_rfl
theorem cel82:Tryz.prog.cellsOf 82=9:=by kernel_rfl
theorem cel87:Tryz.prog.cellsOf 87=10:=by kernel_rfl
theorem cel121:Tryz.prog.cellsOf 121=2:=by kernel_rfl
theorem exO (h:TR enc w n 30 cs d p):∃ (x:Ex) (bl:List Nat),ExK bl w x cs∧(∀ k ∈ bl,k < w.heap.size)∧x.ok∧x.size≤Rows.uptoBulk d:=by
 obtain ⟨x,k1,k2,k3⟩:=open_ex Tryz.underlying30 Tryz.underlying27 Tryz.underlying3 Tryz.underlying9 Tryz.underlying28 Tryz.underlying3 Tryz.underlying2 Tryz.underlying9 cel3 pH cel28 cel27 cel3 cel2 pH pI _ n cs d p (Nat.lt_succ_self _) h
 obtain ⟨bl,hb,hk⟩:=ExC.k x _ k1
 exact ⟨x,bl,hk,hb,k2,like_bulk x d k3⟩
theorem strO (h:TR enc w n 9 cs d p):∃ s:List UInt8,cs=[.string (B s)]∧s.length+1≤Rows.uptoBulk d:=by
 obtain ⟨st,rfl,hx,_⟩:=DataW.trod_string Tryz.underlying9 h
 simp only [Prod.mk.injEq] at hx
 obtain ⟨rfl,_⟩:=hx
 exact ⟨st.data.toList,by rw [sH],by simp only [Rows.uptoBulk]; omega⟩
theorem intO (h:TR enc w n 3 cs d p):∃ i:Int,cs=[.int .i64 i]∧(-9223372036854775808≤i∧i≤9223372036854775807):=by
 obtain ⟨i,rfl,_,hw⟩:=DataW.trod_int Tryz.underlying3 h
 exact ⟨i,rfl,jD hw⟩
theorem ra (h:TR enc w n 4 cs d p):∃ b:Bool,cs=[.bool b]:=by
 obtain ⟨b,rfl,_⟩:=DataW.trod_bool Tryz.underlying4 h
 exact ⟨b,rfl⟩
theorem nameO (h:TR enc w n 9 cs d p):∃ (x:List UInt8) (bl:List Nat),nameKd.rel bl w x cs∧(∀ k ∈ bl,k < w.heap.size)∧True∧fN x≤Rows.uptoBulk d:=by
 obtain ⟨s,e,z⟩:=strO h
 exact ⟨s,[],e,fun k hk=>by simp at hk,trivial,z⟩
theorem rowO (h:TR enc w n 28 cs d p):∃ (x:List Ex) (bl:List Nat),rowKd.rel bl w x cs∧(∀ k ∈ bl,k < w.heap.size)∧(∀ j,j < x.length→(x.getD j Ex.zero).ok)∧fR x≤Rows.uptoBulk d:=by
 obtain ⟨l,y,bl,xs,e,k,b,q,z⟩:=jg dU Ex.zero Rows.uptoBulk Ex.size (fun x=>x.ok) jk lh Tryz.underlying28 pI (fun n cs d p h=>exO h) h
 exact ⟨l,bl,⟨_,e,sl_of_R k⟩,b,q,z⟩
theorem itemO (h:TR enc w n 53 cs d p):∃ (x:ItemX) (bl:List Nat),itemKd.rel bl w x cs∧(∀ k ∈ bl,k < w.heap.size)∧x.e.ok∧fI x≤Rows.uptoBulk d:=by
 obtain ⟨xs,m,_,hx,hl,hxs,hf⟩:=DataW.trod_struct Tryz.underlying53 h
 simp only [Prod.mk.injEq] at hx
 obtain ⟨rfl,_⟩:=hx
 rw [cel53] at hl
 match xs,hxs with
 | [v0,v1],_ =>
  have f0:TR enc w m 30 ((cs.drop 0).take (Tryz.prog.cellsOf 30)) v0.1 v0.2:=hf 0 _ rfl
  rw [pI] at f0
  have f1:TR enc w m 9 ((cs.drop 8).take (Tryz.prog.cellsOf 9)) v1.1 v1.2:=hf 1 _ rfl
  rw [pH] at f1
  obtain ⟨x0,bl0,k0,b0,o0,z0⟩:=exO f0
  obtain ⟨y0,e0,k0⟩:=oV k0
  obtain ⟨s1,e1,z1⟩:=strO f1
  have hbk:Rows.uptoBulk (.agg ([v0,v1].map (·.1)))=Rows.uptoBulk v0.1+Rows.uptoBulk v1.1+1:=by simp only [List.map_cons,List.map_nil,Rows.uptoBulk,Rows.uptoBulkAll]; omega
  have hcs:=(dB cs 0 8 8 rfl e0 (dB cs 8 1 9 rfl e1 (List.drop_eq_nil_of_le (by omega))))
  exact ⟨⟨x0,s1⟩,bl0,⟨_,hcs,k0⟩,b0,o0,by unfold fI; dsimp only; omega⟩
theorem srcO (h:TR enc w n 87 cs d p):∃ (x:SrcX) (bl:List Nat),srcKd.rel bl w x cs∧(∀ k ∈ bl,k < w.heap.size)∧x.e.ok∧fF x≤Rows.uptoBulk d:=by
 obtain ⟨xs,m,_,hx,hl,hxs,hf⟩:=DataW.trod_struct Tryz.underlying87 h
 simp only [Prod.mk.injEq] at hx
 obtain ⟨rfl,_⟩:=hx
 rw [cel87] at hl
 match xs,hxs with
 | [v0,v1,v2],_ =>
  have f0:TR enc w m 9 ((cs.drop 0).take (Tryz.prog.cellsOf 9)) v0.1 v0.2:=hf 0 _ rfl
  rw [pH] at f0
  have f1:TR enc w m 9 ((cs.drop 1).take (Tryz.prog.cellsOf 9)) v1.1 v1.2:=hf 1 _ rfl
  rw [pH] at f1
  have f2:TR enc w m 30 ((cs.drop 2).take (Tryz.prog.cellsOf 30)) v2.1 v2.2:=hf 2 _ rfl
  rw [pI] at f2
  obtain ⟨s0,e0,z0⟩:=strO f0
  obtain ⟨s1,e1,z1⟩:=strO f1
  obtain ⟨x2,bl2,k2,b2,o2,z2⟩:=exO f2
  obtain ⟨y2,e2,k2⟩:=oV k2
  have hbk:Rows.uptoBulk (.agg ([v0,v1,v2].map (·.1)))=Rows.uptoBulk v0.1+Rows.uptoBulk v1.1+Rows.uptoBulk v2.1+1:=by simp only [List.map_cons,List.map_nil,Rows.uptoBulk,Rows.uptoBulkAll]; omega
  have hcs:=(dB cs 0 1 1 rfl e0 (dB cs 1 1 2 rfl e1 (dB cs 2 8 10 rfl e2 (List.drop_eq_nil_of_le (by omega)))))
  exact ⟨⟨s0,s1,x2⟩,bl2,⟨_,by rw [List.append_nil] at hcs; exact hcs,k2⟩,b2,o2,by unfold fF; dsimp only; omega⟩
theorem setO (h:TR enc w n 82 cs d p):∃ (x:SetX) (bl:List Nat),setKd.rel bl w x cs∧(∀ k ∈ bl,k < w.heap.size)∧x.e.ok∧fT x≤Rows.uptoBulk d:=by
 obtain ⟨xs,m,_,hx,hl,hxs,hf⟩:=DataW.trod_struct Tryz.underlying82 h
 simp only [Prod.mk.injEq] at hx
 obtain ⟨rfl,_⟩:=hx
 rw [cel82] at hl
 match xs,hxs with
 | [v0,v1],_ =>
  have f0:TR enc w m 9 ((cs.drop 0).take (Tryz.prog.cellsOf 9)) v0.1 v0.2:=hf 0 _ rfl
  rw [pH] at f0
  have f1:TR enc w m 30 ((cs.drop 1).take (Tryz.prog.cellsOf 30)) v1.1 v1.2:=hf 1 _ rfl
  rw [pI] at f1
  obtain ⟨s0,e0,z0⟩:=strO f0
  obtain ⟨x1,bl1,k1,b1,o1,z1⟩:=exO f1
  obtain ⟨y1,e1,k1⟩:=oV k1
  have hbk:Rows.uptoBulk (.agg ([v0,v1].map (·.1)))=Rows.uptoBulk v0.1+Rows.uptoBulk v1.1+1:=by simp only [List.map_cons,List.map_nil,Rows.uptoBulk,Rows.uptoBulkAll]; omega
  have hcs:=(dB cs 0 1 1 rfl e0 (dB cs 1 8 9 rfl e1 (List.drop_eq_nil_of_le (by omega))))
  exact ⟨⟨s0,x1⟩,bl1,⟨_,by rw [List.append_nil] at hcs; exact hcs,k1⟩,b1,o1,by unfold fT; dsimp only; omega⟩
theorem colO (h:TR enc w n 71 cs d p):∃ (x:ColX) (bl:List Nat),colKd.rel bl w x cs∧(∀ k ∈ bl,k < w.heap.size)∧(-9223372036854775808≤x.k∧x.k≤9223372036854775807)∧fC x≤Rows.uptoBulk d:=by
 obtain ⟨xs,m,_,hx,hl,hxs,hf⟩:=DataW.trod_struct Tryz.underlying71 h
 simp only [Prod.mk.injEq] at hx
 obtain ⟨rfl,_⟩:=hx
 rw [cel71] at hl
 match xs,hxs with
 | [v0,v1,v2],_ =>
  have f0:TR enc w m 9 ((cs.drop 0).take (Tryz.prog.cellsOf 9)) v0.1 v0.2:=hf 0 _ rfl
  rw [pH] at f0
  have f1:TR enc w m 3 ((cs.drop 1).take (Tryz.prog.cellsOf 3)) v1.1 v1.2:=hf 1 _ rfl
  rw [cel3] at f1
  have f2:TR enc w m 4 ((cs.drop 2).take (Tryz.prog.cellsOf 4)) v2.1 v2.2:=hf 2 _ rfl
  rw [cel4] at f2
  obtain ⟨s0,e0,z0⟩:=strO f0
  obtain ⟨i1,e1,w1⟩:=intO f1
  obtain ⟨c2,e2⟩:=ra f2
  have hbk:Rows.uptoBulk (.agg ([v0,v1,v2].map (·.1)))=Rows.uptoBulk v0.1+Rows.uptoBulk v1.1+Rows.uptoBulk v2.1+1:=by simp only [List.map_cons,List.map_nil,Rows.uptoBulk,Rows.uptoBulkAll]; omega
  have hcs:=(dB cs 0 1 1 rfl e0 (dB cs 1 1 2 rfl e1 (dB cs 2 1 3 rfl e2 (List.drop_eq_nil_of_le (by omega)))))
  exact ⟨⟨s0,i1,c2⟩,[],hcs,fun k hk=>by simp at hk,w1,by unfold fC; dsimp only; omega⟩
theorem ordO (h:TR enc w n 121 cs d p):∃ (x:OrdX) (bl:List Nat),ordKd.rel bl w x cs∧(∀ k ∈ bl,k < w.heap.size)∧True∧fO x≤Rows.uptoBulk d:=by
 obtain ⟨xs,m,_,hx,hl,hxs,hf⟩:=DataW.trod_struct Tryz.underlying121 h
 simp only [Prod.mk.injEq] at hx
 obtain ⟨rfl,_⟩:=hx
 rw [cel121] at hl
 match xs,hxs with
 | [v0,v1],_ =>
  have f0:TR enc w m 9 ((cs.drop 0).take (Tryz.prog.cellsOf 9)) v0.1 v0.2:=hf 0 _ rfl
  rw [pH] at f0
  have f1:TR enc w m 4 ((cs.drop 1).take (Tryz.prog.cellsOf 4)) v1.1 v1.2:=hf 1 _ rfl
  rw [cel4] at f1
  obtain ⟨s0,e0,z0⟩:=strO f0
  obtain ⟨c1,e1⟩:=ra f1
  have hbk:Rows.uptoBulk (.agg ([v0,v1].map (·.1)))=Rows.uptoBulk v0.1+Rows.uptoBulk v1.1+1:=by simp only [List.map_cons,List.map_nil,Rows.uptoBulk,Rows.uptoBulkAll]; omega
  have hcs:=(dB cs 0 1 1 rfl e0 (dB cs 1 1 2 rfl e1 (List.drop_eq_nil_of_le (by omega))))
  exact ⟨⟨s0,c1⟩,[],hcs,fun k hk=>by simp at hk,trivial,by unfold fO; dsimp only; omega⟩
theorem quO (h:TR enc w n 35 cs d p):∃ (q:QryX) (y:QLay) (bl:List Nat),cs=eQ q y∧QAt bl w q y∧(∀ k ∈ bl,k < w.heap.size)∧QOk q∧fQ q≤Rows.uptoBulk d:=by
 obtain ⟨xs,m,_,hx,hl,hxs,hf⟩:=DataW.trod_struct Tryz.underlying35 h
 simp only [Prod.mk.injEq] at hx
 obtain ⟨rfl,_⟩:=hx
 rw [cel35] at hl
 match xs,hxs with
 | [v0,v1,v2,v3,v4,v5,v6,v7],_ =>
  have f0:TR enc w m 4 ((cs.drop 0).take (Tryz.prog.cellsOf 4)) v0.1 v0.2:=hf 0 _ rfl
  rw [cel4] at f0
  have f1:TR enc w m 4 ((cs.drop 1).take (Tryz.prog.cellsOf 4)) v1.1 v1.2:=hf 1 _ rfl
  rw [cel4] at f1
  have f2:TR enc w m 31 ((cs.drop 2).take (Tryz.prog.cellsOf 31)) v2.1 v2.2:=hf 2 _ rfl
  rw [cel31] at f2
  have f3:TR enc w m 32 ((cs.drop 3).take (Tryz.prog.cellsOf 32)) v3.1 v3.2:=hf 3 _ rfl
  rw [cel32] at f3
  have f4:TR enc w m 30 ((cs.drop 4).take (Tryz.prog.cellsOf 30)) v4.1 v4.2:=hf 4 _ rfl
  rw [pI] at f4
  have f5:TR enc w m 33 ((cs.drop 12).take (Tryz.prog.cellsOf 33)) v5.1 v5.2:=hf 5 _ rfl
  rw [cel33] at f5
  have f6:TR enc w m 4 ((cs.drop 13).take (Tryz.prog.cellsOf 4)) v6.1 v6.2:=hf 6 _ rfl
  rw [cel4] at f6
  have f7:TR enc w m 3 ((cs.drop 14).take (Tryz.prog.cellsOf 3)) v7.1 v7.2:=hf 7 _ rfl
  rw [cel3] at f7
  obtain ⟨c0,e0⟩:=ra f0
  obtain ⟨c1,e1⟩:=ra f1
  obtain ⟨l2,y2,bl2,xs2,e2,k2,b2,q2,z2⟩:=jg itemKd ItemX.zero Rows.uptoBulk fI (fun x=>x.e.ok) jk lh Tryz.underlying31 cel53 (fun n cs d p h=>itemO h) f2
  obtain ⟨l3,y3,bl3,xs3,e3,k3,b3,q3,z3⟩:=jg srcKd SrcX.zero Rows.uptoBulk fF (fun x=>x.e.ok) jk lh Tryz.underlying32 cel87 (fun n cs d p h=>srcO h) f3
  obtain ⟨x4,bl4,k4,b4,o4,z4⟩:=exO f4
  obtain ⟨y4,e4,k4⟩:=oV k4
  obtain ⟨l5,y5,bl5,xs5,e5,k5,b5,q5,z5⟩:=jg ordKd OrdX.zero Rows.uptoBulk fO (fun _=>True) jk lh Tryz.underlying33 cel121 (fun n cs d p h=>ordO h) f5
  obtain ⟨c6,e6⟩:=ra f6
  obtain ⟨i7,e7,w7⟩:=intO f7
  have hbk:Rows.uptoBulk (.agg ([v0,v1,v2,v3,v4,v5,v6,v7].map (·.1)))=Rows.uptoBulk v0.1+Rows.uptoBulk v1.1+Rows.uptoBulk v2.1+Rows.uptoBulk v3.1+Rows.uptoBulk v4.1+Rows.uptoBulk v5.1+Rows.uptoBulk v6.1+Rows.uptoBulk v7.1+1:=by simp only [List.map_cons,List.map_nil,Rows.uptoBulk,Rows.uptoBulkAll]; omega
  have hcs:=(dB cs 0 1 1 rfl e0 (dB cs 1 1 2 rfl e1 (dB cs 2 1 3 rfl e2 (dB cs 3 1 4 rfl e3 (dB cs 4 8 12 rfl e4 (dB cs 12 1 13 rfl e5 (dB cs 13 1 14 rfl e6 (dB cs 14 1 15 rfl e7 (List.drop_eq_nil_of_le (by omega))))))))))
  refine ⟨⟨c0,c1,l2,l3,x4,l5,c6,i7⟩,⟨y2,y3,y4,y5⟩,bl2++(bl3++(bl4++(bl5))),hcs,⟨xs2,xs3,xs5,k2.mono (fun k hk=>List.mem_append_left _ hk),k3.mono (fun k hk=>List.mem_append_right _ (List.mem_append_left _ hk)),k4.mono (fun k hk=>List.mem_append_right _ (List.mem_append_right _ (List.mem_append_left _ hk))),k5.mono (fun k hk=>List.mem_append_right _ (List.mem_append_right _ (List.mem_append_right _ (hk))))⟩,fun k hk=>(List.mem_append.1 hk).elim (fun hk=>b2 k hk) (fun hk=>(List.mem_append.1 hk).elim (fun hk=>b3 k hk) (fun hk=>(List.mem_append.1 hk).elim (fun hk=>b4 k hk) (fun hk=>b5 k hk))),⟨q2,q3,o4,gL.2 w7⟩, ?_⟩
  rw [hbk]
  unfold fQ
  dsimp only
  omega
theorem stO (h:TR enc w n 37 cs d p):∃ (s:StmtX) (y:Lay) (bl:List Nat),cs=bL s y∧SAt bl w s y∧(∀ k ∈ bl,k < w.heap.size)∧SOk s∧fS s≤Rows.uptoBulk d:=by
 obtain ⟨xs,m,_,hx,hl,hxs,hf⟩:=DataW.trod_struct Tryz.underlying37 h
 simp only [Prod.mk.injEq] at hx
 obtain ⟨rfl,_⟩:=hx
 rw [cel37] at hl
 match xs,hxs with
 | [v0,v1,v2,v3,v4,v5,v6,v7,v8,v9],_ =>
  have f0:TR enc w m 3 ((cs.drop 0).take (Tryz.prog.cellsOf 3)) v0.1 v0.2:=hf 0 _ rfl
  rw [cel3] at f0
  have f1:TR enc w m 9 ((cs.drop 1).take (Tryz.prog.cellsOf 9)) v1.1 v1.2:=hf 1 _ rfl
  rw [pH] at f1
  have f2:TR enc w m 9 ((cs.drop 2).take (Tryz.prog.cellsOf 9)) v2.1 v2.2:=hf 2 _ rfl
  rw [pH] at f2
  have f3:TR enc w m 22 ((cs.drop 3).take (Tryz.prog.cellsOf 22)) v3.1 v3.2:=hf 3 _ rfl
  rw [cel22] at f3
  have f4:TR enc w m 23 ((cs.drop 4).take (Tryz.prog.cellsOf 23)) v4.1 v4.2:=hf 4 _ rfl
  rw [cel23] at f4
  have f5:TR enc w m 4 ((cs.drop 5).take (Tryz.prog.cellsOf 4)) v5.1 v5.2:=hf 5 _ rfl
  rw [cel4] at f5
  have f6:TR enc w m 24 ((cs.drop 6).take (Tryz.prog.cellsOf 24)) v6.1 v6.2:=hf 6 _ rfl
  rw [cel24] at f6
  have f7:TR enc w m 25 ((cs.drop 7).take (Tryz.prog.cellsOf 25)) v7.1 v7.2:=hf 7 _ rfl
  rw [cel25] at f7
  have f8:TR enc w m 30 ((cs.drop 8).take (Tryz.prog.cellsOf 30)) v8.1 v8.2:=hf 8 _ rfl
  rw [pI] at f8
  have f9:TR enc w m 35 ((cs.drop 16).take (Tryz.prog.cellsOf 35)) v9.1 v9.2:=hf 9 _ rfl
  rw [cel35] at f9
  obtain ⟨i0,e0,w0⟩:=intO f0
  obtain ⟨s1,e1,z1⟩:=strO f1
  obtain ⟨s2,e2,z2⟩:=strO f2
  obtain ⟨l3,y3,bl3,xs3,e3,k3,b3,q3,z3⟩:=jg colKd ColX.zero Rows.uptoBulk fC (fun x=>-9223372036854775808≤x.k∧x.k≤9223372036854775807) jk lh Tryz.underlying22 cel71 (fun n cs d p h=>colO h) f3
  obtain ⟨l4,y4,bl4,xs4,e4,k4,b4,q4,z4⟩:=jg nameKd ([]:List UInt8) Rows.uptoBulk fN (fun _=>True) jk lh Tryz.underlying23 pH (fun n cs d p h=>nameO h) f4
  obtain ⟨c5,e5⟩:=ra f5
  obtain ⟨l6,y6,bl6,xs6,e6,k6,b6,q6,z6⟩:=jg rowKd ([]:List Ex) Rows.uptoBulk fR (fun l=>∀ j,j < l.length→(l.getD j Ex.zero).ok) jk lh Tryz.underlying24 cel28 (fun n cs d p h=>rowO h) f6
  obtain ⟨l7,y7,bl7,xs7,e7,k7,b7,q7,z7⟩:=jg setKd SetX.zero Rows.uptoBulk fT (fun x=>x.e.ok) jk lh Tryz.underlying25 cel82 (fun n cs d p h=>setO h) f7
  obtain ⟨x8,bl8,k8,b8,o8,z8⟩:=exO f8
  obtain ⟨y8,e8,k8⟩:=oV k8
  obtain ⟨x9,y9,bl9,e9,k9,b9,o9,z9⟩:=quO f9
  have hbk:Rows.uptoBulk (.agg ([v0,v1,v2,v3,v4,v5,v6,v7,v8,v9].map (·.1)))=Rows.uptoBulk v0.1+Rows.uptoBulk v1.1+Rows.uptoBulk v2.1+Rows.uptoBulk v3.1+Rows.uptoBulk v4.1+Rows.uptoBulk v5.1+Rows.uptoBulk v6.1+Rows.uptoBulk v7.1+Rows.uptoBulk v8.1+Rows.uptoBulk v9.1+1:=by simp only [List.map_cons,List.map_nil,Rows.uptoBulk,Rows.uptoBulkAll]; omega
  have hcs:=(dB cs 0 1 1 rfl e0 (dB cs 1 1 2 rfl e1 (dB cs 2 1 3 rfl e2 (dB cs 3 1 4 rfl e3 (dB cs 4 1 5 rfl e4 (dB cs 5 1 6 rfl e5 (dB cs 6 1 7 rfl e6 (dB cs 7 1 8 rfl e7 (dB cs 8 8 16 rfl e8 (dB cs 16 15 31 rfl e9 (List.drop_eq_nil_of_le (by omega))))))))))))
  obtain ⟨xI,xF,xO,hI,hF,hV,hO⟩:=k9.mono (fun k hk=>List.mem_append_right _ (List.mem_append_right _ (List.mem_append_right _ (List.mem_append_right _ (List.mem_append_right _ (hk))))))
  skip
  refine ⟨⟨i0,s1,s2,l3,l4,c5,l6,l7,x8,x9⟩,⟨y3,y4,y6,y7,y8,y9⟩,bl3++(bl4++(bl6++(bl7++(bl8++(bl9))))),hcs,⟨xs3,xs4,xs6,xs7,xI,xF,xO,k3.mono (fun k hk=>List.mem_append_left _ hk),k4.mono (fun k hk=>List.mem_append_right _ (List.mem_append_left _ hk)),k6.mono (fun k hk=>List.mem_append_right _ (List.mem_append_right _ (List.mem_append_left _ hk))),k7.mono (fun k hk=>List.mem_append_right _ (List.mem_append_right _ (List.mem_append_right _ (List.mem_append_left _ hk)))),k8.mono (fun k hk=>List.mem_append_right _ (List.mem_append_right _ (List.mem_append_right _ (List.mem_append_right _ (List.mem_append_left _ hk))))),hI,hF,hV,hO⟩,fun k hk=>(List.mem_append.1 hk).elim (fun hk=>b3 k hk) (fun hk=>(List.mem_append.1 hk).elim (fun hk=>b4 k hk) (fun hk=>(List.mem_append.1 hk).elim (fun hk=>b6 k hk) (fun hk=>(List.mem_append.1 hk).elim (fun hk=>b7 k hk) (fun hk=>(List.mem_append.1 hk).elim (fun hk=>b8 k hk) (fun hk=>b9 k hk))))),⟨w0,q3,q6,q7,o8,o9⟩, ?_⟩
  rw [hbk]
  unfold fS
  dsimp only
  omega
set_option maxRecDepth 100000 in
theorem open_stA {r:Reach} {bb:Nat} {vv:Value} (hv:Value.okWide Tryz.prog w r bb 37 vv) (h:DataW.Trod enc Tryz.prog w 0 (fun _=>true) true 37 vv d p) :
  ∃ (s:StmtX) (y:Lay) (bl:List Nat),vv=.agg (bL s y).toArray∧SAt bl w s y∧(∀ k ∈ bl,k < w.heap.size)∧SOk s∧fS s≤Rows.uptoBulk d:=by
 obtain ⟨cs,rfl,_⟩:=okWide_struct Tryz.underlying37 hv
 obtain ⟨fuel,hf⟩:=h
 have hf:TR enc w fuel 37 cs.toList d p:=hf
 obtain ⟨s,y,bl,e,k,b,o,z⟩:=stO hf
 exact ⟨s,y,bl,by rw [← e],k,b,o,z⟩
end
end Go.Proofs.YtjbpkcbefmpfgaaGreatDoor
