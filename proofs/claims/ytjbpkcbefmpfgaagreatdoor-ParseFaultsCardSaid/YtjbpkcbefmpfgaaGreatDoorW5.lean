/- Parts of the proof, joined and made shorter by a program: Rk3, Rk4, Rk5, Rk6, Rk7, Rk8, Rk9, Rk10, Rk11, Dk1, Dk2, Dk3, Dk4, Dk5, Lw1, Lw2, Lw5, PSent. -/
import Derived.Test.YtjbpkcbefmpfgaaGreatDoorW4
import Derived.Test.YtjbpkcbefmpfgaaGreatDoorRows
import Derived.Stop.LaidErr
import Derived.HandedShaped
import Derived.KernelRfl
namespace Go.Proofs.YtjbpkcbefmpfgaaGreatDoor
open Go.WK Go.RowKit 
theorem pE : br Tryz.prog 30 4 = some 6 := by kernel_rfl
theorem zero27 : (Tryz.prog.info? 27).map (·.zero) = some (some (.agg #[.int .i64 0,.int .i64 0,.string .empty])) := by kernel_rfl
theorem wrapK_ (o cc : Int) (v : Val) (t n : List UInt8) (al : List Ex) (Ax : Option Addr) (kx : Nat) (_ : List Value) (low : Int) (bl : List Nat) (pb : Nat) (A : Option Addr) (c : Nat) (l : List UInt8) (d m : Int) (w : World) (hP : gq w pb A c l d m) (hV : PV w (prL pb A) bl) (hK : ExK bl w (.mk o v t n cc al) ([.int .i64 o,.int .i64 v.k,.int .i64 v.n,.string (B v.s),.string (B t),.string (B n),.int .i64 cc,.slice Ax al.length kx] : List Value)) (hdm : 0 ≤ d ∧ d ≤ m) (hd : d + ((Ex.txt (.mk o v t n cc al) low).2 : Int) ≤ 140737488355328) (hb : l.length + (Ex.txt (.mk o v t n cc al) low).1.length ≤ 70368744177664) (hlow : lvl o < low) (ih : ∀ (cs : List Value) (pb : Nat) (A : Option Addr) (c : Nat) (l : List UInt8) (d m : Int) (w : World),gq w pb A c l d m → PV w (prL pb A) bl → ExK bl w (.mk o v t n cc al) cs → 0 ≤ d ∧ d ≤ m → d + ((Ex.txt (.mk o v t n cc al) 1).2 : Int) ≤ 140737488355328 → l.length + (Ex.txt (.mk o v t n cc al) 1).1.length ≤ 70368744177664 → Calls Tryz.prog 26 #[.pointer (some ⟨pb,0,none⟩),.agg cs.toArray,.int .i64 1] w (PrT w pb A (l ++ (Ex.txt (.mk o v t n cc al) 1).1) d (max m (d + ((Ex.txt (.mk o v t n cc al) 1).2 : Int))))) : Calls Tryz.prog 26 #[.pointer (some ⟨pb,0,none⟩),.agg ([.int .i64 o,.int .i64 v.k,.int .i64 v.n,.string (B v.s),.string (B t),.string (B n),.int .i64 cc,.slice Ax al.length kx] : List Value).toArray,.int .i64 low] w (PrT w pb A (l ++ (Ex.txt (.mk o v t n cc al) low).1) (d) (max m (d + ((Ex.txt (.mk o v t n cc al) low).2 : Int)))) := by
 refine az (args := [.pointer (some ⟨pb,0,none⟩),.agg ([.int .i64 o,.int .i64 v.k,.int .i64 v.n,.string (B v.s),.string (B t),.string (B n),.int .i64 cc,.slice Ax al.length kx] : List Value).toArray,.int .i64 low]) (lent := prL pb A) (H := prD pb A c l d m) Tryz.func26 rfl Tryz.ntmps26 rfl (Sat.cx hP) ((show Tri _ [(0,_),(1,_),(2,_)] _ _ _ from ?_))
 have hl8 := o5 o
 have e1 : Ex.txt (.mk o v t n cc al) 1 = Ex.core (.mk o v t n cc al) := gr (by show ¬ lvl o < 1; omega)
 rw [qj hlow, ← e1] at hd hb ⊢
 simp only at hd hb ⊢
 refine ae (aa (cA _ rfl rfl rfl (fun b4 => triL_nilN (ae (aa (aj cW rfl rfl (ak bL N0 rfl rfl rfl (aF (first := []) (cap := []) rfl rfl rfl Tryz.call56 (fun w1 h1 => levelK o w1) (o_assignN rfl rfl (ae (ae (tri_slo [(6,_),(4,_),(0,_),(2,_)] rfl (aa (ah rfl rfl (ah rfl rfl (cg rfl rfl rfl (triL_nilN (av rfl (fun q0 => ?_) (fun q0 => ?_)))))))))))))))))))
 · skip
   exact ae (tri_slo [(4,_),(0,_)] rfl (aa (ah rfl rfl (aJ [_] rfl rfl rfl rfl Tryz.call57 (fun w1 h1 h2 h3 => nv (1) pb _ _ _ _ _ w1 h2 (by omega) (by omega)) (fun A16 c16 => triL_nilN (ae (aa (ah rfl rfl (bf Tryz.underlying23 zs9 rfl rfl rfl rfl rfl (by decide) (by decide) (fun b18 => aJ [_,_] rfl rfl rfl rfl Tryz.call20 (fun w1 h1 h2 h3 => dm [[40]] _ _ pb _ _ _ _ _ w1 h2 (RdS.row .z w1 h1) (fun a ha => by cases ha; exact bk h1 (fun x hx => (List.mem_cons_of_mem _ hx)) rfl) (by simp only [List.length_append,List.length_cons,List.length_nil,List.flatten_cons,List.flatten_nil] at hb ⊢; omega) (by simp)) (fun A19 c19 => triL_nilN (ae (tri_slo [(4,_),(0,_)] rfl (aa (ah rfl rfl (aW bo ba (.s .z) rfl rfl (vs := ([.int .i64 o,.int .i64 v.k,.int .i64 v.n,.string (B v.s),.string (B t),.string (B n),.int .i64 cc,.slice Ax al.length kx] : List Value)) rfl rfl (aJ [_,_] rfl rfl rfl rfl Tryz.call26 (fun w1 h1 h2 h3 => ih _ pb _ _ _ _ _ w1 h2 (hV.sub (PSub.of h1 h3)) (hK.psub hV.pe (PSub.of h1 h3)) (by omega) (by omega) (by simp only [List.length_append,List.length_cons,List.length_nil,List.flatten_cons,List.flatten_nil] at hb ⊢; omega)) (fun A22 c22 => triL_nilN (ae (tri_slo [(0,_)] rfl (aa (ah rfl rfl (bf Tryz.underlying23 zs9 rfl rfl rfl rfl rfl (by decide) (by decide) (fun b24 => aJ [_,_,_] rfl rfl rfl rfl Tryz.call20 (fun w1 h1 h2 h3 => dm [[41]] _ _ pb _ _ _ _ _ w1 h2 (RdS.row .z w1 h1) (fun a ha => by cases ha; exact bk h1 (fun x hx => (List.mem_cons_of_mem _ (List.mem_cons_of_mem _ hx))) rfl) (by simp only [List.length_append,List.length_cons,List.length_nil,List.flatten_cons,List.flatten_nil] at hb ⊢; omega) (by simp)) (fun A25 c25 => triL_nilN (ae (aa (ah rfl rfl (aJ [_,_,_] rfl rfl rfl rfl Tryz.call57 (fun w1 h1 h2 h3 => nv (-1) pb _ _ _ _ _ w1 h2 (by omega) (by omega)) (fun A27 c27 => triL_nilN (aq (am (end0 rfl (bC (J := Option Addr × Nat) (A27,c27) rfl trivial (fun w2 hw2 => bX (by simp) (by omega) (by omega) (hw2.sel [3,4] (by decide)))))))))))))))))))))))))))))))))))))
 · skip
   exact absurd hlow q0
theorem exprK : ∀ (n : Nat) (e : Ex),e.size < n → e.may = true → e.ok → PX e := by
 intro n
 induction n with
 | zero => intro e h; omega
 | succ n ih =>
  intro e hs hm ho
  obtain ⟨o,v,t,nn,cc,al⟩ := e
  obtain ⟨m1,m2,m3,m4,m5⟩ := ob hm
  have ih2 : ∀ i,i < al.length → PX (al.getD i Ex.zero) := fun i hi => ih _ (by have := Ex.size_at (o := o) (c := cc) (v := v) (t := t) (n := nn) hi; omega) (m5 i hi) (Ex.ok_at ho hi)
  have hof : o = 1 → fit v := fun h => fit_of (m2 h) ho.2.1
  have core : ∀ low : Int,¬ lvl o < low → ∀ (bl : List Nat) (cs : List Value) (pb : Nat) (A : Option Addr) (c : Nat) (l : List UInt8) (d m : Int) (w : World),gq w pb A c l d m → PV w (prL pb A) bl → ExK bl w (.mk o v t nn cc al) cs → 0 ≤ d ∧ d ≤ m → d + ((Ex.txt (.mk o v t nn cc al) low).2 : Int) ≤ 140737488355328 → l.length + (Ex.txt (.mk o v t nn cc al) low).1.length ≤ 70368744177664 →
    Calls Tryz.prog 26 #[.pointer (some ⟨pb,0,none⟩),.agg cs.toArray,.int .i64 low] w (PrT w pb A (l ++ (Ex.txt (.mk o v t nn cc al) low).1) d (max m (d + ((Ex.txt (.mk o v t nn cc al) low).2 : Int)))) := by
   intro low hl bl cs pb A c l d m w h1 h2 h3 h4 h5 h6
   obtain ⟨Ax,kx,xs,rfl,a1,a2,a3,a4⟩ := h3
   exact coreK_ o cc v t nn al Ax kx xs low bl pb A c l d m w h1 h2 a1 a2 a3 a4 h4 h5 h6 hl hof m3 m4 m1 ih2
  intro low bl cs pb A c l d m w h1 h2 h3 h4 h5 h6
  by_cases hl : lvl o < low
  · have hk := h3
    obtain ⟨Ax,kx,xs,rfl,_⟩ := h3
    have hl8 := o5 o
    exact wrapK_ o cc v t nn al Ax kx xs low bl pb A c l d m w h1 h2 hk h4 h5 h6 hl (fun cs pb A c l d m w => core 1 (by omega) bl cs pb A c l d m w)
  · exact core low hl bl cs pb A c l d m w h1 h2 h3 h4 h5 h6
theorem eo (s : List UInt8) (w : World) (hs : s.length ≤ 70368744177664) : Calls Tryz.prog 30 #[.string (B s)] w (cp w (.bool (nameOk s))) := by
 refine az (args := [.string (B s)]) (lent := []) (H := []) Tryz.func30 rfl Tryz.ntmps30 rfl (Sat.start _ _ _ _) ((show Tri _ [(0,_)] _ _ _ from ae (aa (o_assignN rfl rfl (ae (aa (ah rfl rfl (aF (first := []) (cap := []) rfl rfl rfl Tryz.call68 (fun w1 h1 => nameRk s w1 (by omega)) (ah rfl rfl ?_)))))))))
 refine' aI [_,_,_] [(2,_)] (dj := 5) (dr := 8) rfl rfl (fun g1 => ?_) ⟨_,rfl,rfl,rfl,(.cons rfl (.nil _))⟩ rfl ?_
 rotate_left
 · skip
   exact ah rfl rfl (aF (first := []) (cap := []) rfl rfl rfl Tryz.call69 (fun w1 h1 => wordK s w1) (dB rfl rfl (ab (Piece.mk rfl rfl (.cons rfl (.nil _)) (fun _ h => h)))))
 refine o_assignN rfl rfl (aq (bb rfl rfl ?_)); exact fun w1 hw1 => ⟨congrArg (fun b => Ending.returned (.bool b)) (by unfold nameOk; rw [qO]),hw1.chg⟩
theorem qU (n k : Nat) (w : World)  : Calls Tryz.prog 31 #[.int .i64 (n : Int),.int .i64 (k : Int)] w (cp w (.bool (gL n k))) := by
 refine az (args := [.int .i64 (n : Int),.int .i64 (k : Int)]) (lent := []) (H := []) Tryz.func31 rfl Tryz.ntmps31 rfl (Sat.start _ _ _ _) ((show Tri _ [(0,_),(1,_)] _ _ _ from ae (aa (o_assignN rfl rfl (ae (aa (ah rfl rfl (fO rfl rfl rfl (ah rfl rfl ?_)))))))))
 refine' aI [_,_,_] [(4,_)] (dj := 7) (dr := 10) rfl rfl (fun g1 => ?_) ⟨_,rfl,rfl,rfl,(.cons rfl (.nil _))⟩ rfl ?_
 rotate_left
 · skip
   exact ah rfl rfl (ah rfl rfl (gW rfl rfl rfl (ab (Piece.mk rfl rfl (.cons rfl (.nil _)) (fun _ h => h)))))
 refine o_assignN rfl rfl (aq (bb rfl rfl ?_)); exact fun w1 hw1 => ⟨congrArg (fun b => Ending.returned (.bool b)) (by unfold gL; congr 1 <;> exact decide_eq_decide.2 (by omega)),hw1.chg⟩
theorem bareK (o cc : Int) (v : Val) (t n : List UInt8) (al : List Ex) (Ax : Option Addr) (kx : Nat) (op : Int) (w : World)  : Calls Tryz.prog 70 #[.agg ([.int .i64 o,.int .i64 v.k,.int .i64 v.n,.string (B v.s),.string (B t),.string (B n),.int .i64 cc,.slice Ax al.length kx] : List Value).toArray,.int .i64 op] w (cp w (.bool (bareX (.mk o v t n cc al) op))) := by
 refine az (args := [.agg ([.int .i64 o,.int .i64 v.k,.int .i64 v.n,.string (B v.s),.string (B t),.string (B n),.int .i64 cc,.slice Ax al.length kx] : List Value).toArray,.int .i64 op]) (lent := []) (H := []) Tryz.func70 rfl Tryz.ntmps70 rfl (Sat.start _ _ _ _) ((show Tri _ [(0,_),(1,_)] _ _ _ from ae (aa (cA _ rfl rfl rfl (fun b2 => o_assignN rfl rfl (ae (aa (aj cW rfl rfl (ak bL N0 rfl rfl rfl (ah rfl rfl (aE rfl rfl rfl (ah rfl rfl ?_))))))))))))
 refine' aI [_,_,_,_] [(4,_),(2,_)] (dj := 9) (dr := 13) rfl rfl (fun g1 => ?_) ⟨_,rfl,rfl,rfl,(.cons rfl (.cons rfl (.nil _)))⟩ rfl ?_
 rotate_left
 · skip
   exact aj km rfl rfl (aW j5 ma .z rfl rfl (vs := Val.cs v) rfl rfl (aQ nj rfl rfl (o_eqlV pA rfl rfl rfl (ab (Piece.mk rfl rfl (.cons rfl (.cons rfl (.nil _))) (fun _ h => h))))))
 refine ah rfl rfl ?_
 refine' aI [_,_,_] [(4,_),(2,_)] (dj := 15) (dr := 18) rfl rfl (fun g2 => ?_) ⟨_,rfl,rfl,rfl,(.cons rfl (.cons rfl (.nil _)))⟩ rfl ?_
 rotate_left
 · skip
   exact aj ig rfl rfl (ak bB N0 rfl rfl rfl (bE rfl rfl rfl (ab (Piece.mk rfl rfl (.cons rfl (.cons rfl (.nil _))) (fun _ h => h)))))
 refine ah rfl rfl ?_
 refine' aI [_,_,_] [(4,_),(2,_)] (dj := 20) (dr := 23) rfl rfl (fun g3 => ?_) ⟨_,rfl,rfl,rfl,(.cons rfl (.cons rfl (.nil _)))⟩ rfl ?_
 rotate_left
 · skip
   exact aj ie rfl rfl (ak bB N0 rfl rfl rfl (bE rfl rfl rfl (ab (Piece.mk rfl rfl (.cons rfl (.cons rfl (.nil _))) (fun _ h => h)))))
 refine ah rfl rfl ?_
 refine' aI [_,_,_] [(4,_),(2,_)] (dj := 25) (dr := 28) rfl rfl (fun g4 => ?_) ⟨_,rfl,rfl,rfl,(.cons rfl (.cons rfl (.nil _)))⟩ rfl ?_
 rotate_left
 · skip
   exact aj pE rfl rfl (ak bL N0 rfl rfl rfl (aE rfl rfl rfl (ab (Piece.mk rfl rfl (.cons rfl (.cons rfl (.nil _))) (fun _ h => h)))))
 refine ah rfl rfl ?_
 refine' aI [_,_,_,_] [(4,_)] (dj := 30) (dr := 34) rfl rfl (fun g5 => ?_) ⟨_,rfl,rfl,rfl,(.cons rfl (.nil _))⟩ rfl ?_
 rotate_left
 · skip
   exact aj eA rfl rfl (ak eJ N0 rfl rfl rfl (aY Tryz.underlying28 rfl rfl (aE rfl rfl rfl (ab (Piece.mk rfl rfl (.cons rfl (.nil _)) (fun _ h => h))))))
 refine o_assignN rfl rfl (aq (bb rfl rfl ?_)); exact fun w1 hw1 => ⟨congrArg (fun b => Ending.returned (.bool b)) (by exact bareX_eq o v t n cc al op),hw1.chg⟩
theorem lacksK (o cc : Int) (v : Val) (t n : List UInt8) (al : List Ex) (Ax : Option Addr) (kx : Nat) (w : World)  : Calls Tryz.prog 72 #[.agg ([.int .i64 o,.int .i64 v.k,.int .i64 v.n,.string (B v.s),.string (B t),.string (B n),.int .i64 cc,.slice Ax al.length kx] : List Value).toArray] w (cp w (.bool (gi (.mk o v t n cc al)))) := by
 refine az (args := [.agg ([.int .i64 o,.int .i64 v.k,.int .i64 v.n,.string (B v.s),.string (B t),.string (B n),.int .i64 cc,.slice Ax al.length kx] : List Value).toArray]) (lent := []) (H := []) Tryz.func72 rfl Tryz.ntmps72 rfl (Sat.start _ _ _ _) ((show Tri _ [(0,_)] _ _ _ from ae (aa (cA _ rfl rfl rfl (fun b1 => o_assignN rfl rfl (ae (aa (aW bo ba N0 rfl rfl rfl rfl (aF (first := []) (cap := []) rfl rfl rfl Tryz.call70 (fun w1 h1 => bareK o cc v t n al Ax kx 0 w1) (o_assignN rfl rfl (aq (bb rfl rfl ?_)))))))))))); exact fun w1 hw1 => ⟨rfl,hw1.chg⟩
def MX (e : Ex) : Prop := ∀ (cs : List Value) (w : World),ExC w e cs → e.ok → e.size ≤ 70368744177664 → Calls Tryz.prog 32 #[.agg cs.toArray] w (cp w (.bool e.may))
theorem ar1 {o : Int} (h : (((decide (o = 4) || decide (o = 5)) || decide (o = 6)) || decide (o = 7)) = true) : arity o = 1 := by
 simp only [Bool.or_eq_true,decide_eq_true_eq] at h
 unfold arity; rw [if_pos (by omega)]
theorem ar2 {o : Int} (h : (((decide (o = 4) || decide (o = 5)) || decide (o = 6)) || decide (o = 7)) = false) : arity o = 2 := by
 simp only [Bool.or_eq_false_iff,decide_eq_false_iff_not] at h
 unfold arity; rw [if_neg (by omega)]
set_option maxHeartbeats 1000000 in
theorem mayStep (o cc : Int) (v : Val) (t n : List UInt8) (al : List Ex) (Ax : Option Addr) (kx : Nat) (xs : List Value) (w : World) (_ : al.length ≤ kx) (hxr : Rd w Ax xs) (hxs : ExsC w al xs) (ho : Ex.ok (.mk o v t n cc al)) (hz : Ex.size (.mk o v t n cc al) ≤ 70368744177664) (ih : ∀ i,i < al.length → MX (al.getD i Ex.zero)) : Calls Tryz.prog 32 #[.agg ([.int .i64 o,.int .i64 v.k,.int .i64 v.n,.string (B v.s),.string (B t),.string (B n),.int .i64 cc,.slice Ax al.length kx] : List Value).toArray] w (cp w (.bool (Ex.may (.mk o v t n cc al)))) := by
 refine az (args := [.agg ([.int .i64 o,.int .i64 v.k,.int .i64 v.n,.string (B v.s),.string (B t),.string (B n),.int .i64 cc,.slice Ax al.length kx] : List Value).toArray]) (lent := []) (H := []) Tryz.func32 rfl Tryz.ntmps32 rfl (Sat.start _ _ _ _) ((show Tri _ [(0,_)] _ _ _ from ?_))
 have hR : ∀ cx H,cx.w0 = w → cx.lent = [] → RdS cx H Ax xs := fun cx H q1 q2 => RdS.lent (by rw [q1]; exact hxr) (fun b hb => by rw [q2]; simp)
 have hxl := hxs.len
 have hz2 : v.s.length + t.length + n.length ≤ 70368744177664 ∧ al.length ≤ 70368744177664 := by have := Exs.len_size al; simp only [Ex.size] at hz; omega
 refine ae (aa (cA _ rfl rfl rfl (fun b1 => o_assignN rfl rfl (ae (aa (o_assignN rfl rfl (co (ι := Nat) (fun i => [(1,.pointer (some ⟨b1,0,none⟩)),(3,.int .i64 (arity o : Int))]) (fun i => [box b1 30 ([.int .i64 o,.int .i64 v.k,.int .i64 v.n,.string (B v.s),.string (B t),.string (B n),.int .i64 cc,.slice Ax al.length kx] : List Value)]) (fun i => (4 ≤ o ∧ o ≤ 21)) ?_ (fun i hj => ?_))))))))
 · skip
   refine ay (ae (aa (aj cW rfl rfl (ak bL N0 rfl rfl rfl (aE rfl rfl rfl (o_assignN rfl rfl (av rfl (fun q0 => ?_) (fun q0 => ?_))))))))
   · skip
     subst q0
     refine ae (tri_slo [(1,_)] rfl (aa (aj km rfl rfl (aW j5 ma .z rfl rfl (vs := Val.cs v) rfl rfl (aP (Val.cs Val.zero) rfl zero27 rfl (fun b4 => ui ma N0 rfl rfl rfl (triL_nilN (ae (aa (aQ nj rfl rfl (aj km rfl rfl (aB ma (.s .z) rfl rfl rfl (vs := Val.cs Val.zero) rfl rfl (Nat.le_of_ble_eq_true rfl) rfl (triL_nilN (ae (tri_slo [(4,_),(1,_)] rfl (aa (aW bo ba (.s .z) rfl rfl (vs := ([.int .i64 1,.int .i64 (Val.zero).k,.int .i64 (Val.zero).n,.string (B (Val.zero).s),.string (B t),.string (B n),.int .i64 cc,.slice Ax al.length kx] : List Value)) rfl rfl (aF (first := []) (cap := []) rfl rfl rfl Tryz.call70 (fun w1 h1 => bareK 1 cc Val.zero t n al Ax kx 1 w1) (ah rfl rfl ?_)))))))))))))))))))
     refine' aI [_,_] [(4,_)] (dj := 18) (dr := 20) rfl rfl (fun g1 => ?_) ⟨_,rfl,rfl,rfl,(.cons rfl (.nil _))⟩ rfl ?_
     rotate_left
     · skip
       exact kD j5 ma N0 rfl rfl (aF (first := []) (cap := []) rfl rfl rfl Tryz.call71 (fun w1 h1 => mayK v w1 ⟨ho.2.1,by omega⟩) (ab (Piece.mk rfl rfl (.cons rfl (.nil _)) (fun _ h => h))))
     refine ah rfl rfl ?_
     refine' aI [_,_,_,_,_,_,_,_] [] (dj := 22) (dr := 30) rfl rfl (fun g2 => ?_) ⟨_,rfl,rfl,rfl,(.nil _)⟩ rfl ?_
     rotate_left
     · skip
       refine aj sA rfl rfl (ak bL N0 rfl rfl rfl (cK rfl rfl rfl (ah rfl rfl ?_)))
       refine' aX [_,_,_] [(22,_)] (dj := 26) (dr := 29) rfl rfl (fun g3 => ?_) ⟨_,rfl,rfl,rfl,(.cons rfl (.nil _))⟩ rfl ?_
       rotate_left
       · skip
         exact aj lA rfl rfl (ak agg2 N0 rfl rfl rfl (fO rfl rfl rfl (ab (Piece.mk rfl rfl (.cons rfl (.nil _)) (fun _ h => h)))))
       exact ab (Piece.mk rfl rfl (.nil _) (fun _ h => h))
     refine o_assignN rfl rfl (aq (ap (am (bb rfl rfl ?_)))); exact fun w1 hw1 => ⟨congrArg (fun b => Ending.returned (.bool b)) (by rw [may_1]),hw1.chg⟩
   · skip
     refine ae (tri_slo [(3,_),(1,_)] rfl (aa (aj cW rfl rfl (ak bL N0 rfl rfl rfl (aE rfl rfl rfl (o_assignN rfl rfl (av rfl (fun q1 => ?_) (fun q1 => ?_))))))))
     · skip
       subst q1
       refine ae (tri_slo [(1,_)] rfl (aa (aj ie rfl rfl (ak bB N0 rfl rfl rfl (aF (first := []) (cap := []) rfl rfl rfl Tryz.call30 (fun w1 h1 => eo n w1 (by omega)) (ah rfl rfl ?_))))))
       refine' aI [_,_,_,_,_,_,_,_] [(1,_)] (dj := 39) (dr := 47) rfl rfl (fun g4 => ?_) ⟨_,rfl,rfl,rfl,(.cons rfl (.nil _))⟩ rfl ?_
       rotate_left
       · skip
         refine aj ig rfl rfl (ak bB N0 rfl rfl rfl (bE rfl rfl rfl (ah rfl rfl ?_)))
         refine' aX [_,_,_] [(39,_),(1,_)] (dj := 43) (dr := 46) rfl rfl (fun g5 => ?_) ⟨_,rfl,rfl,rfl,(.cons rfl (.cons rfl (.nil _)))⟩ rfl ?_
         rotate_left
         · skip
           exact aj ig rfl rfl (ak bB N0 rfl rfl rfl (aF (first := []) (cap := []) rfl rfl rfl Tryz.call30 (fun w1 h1 => eo t w1 (by omega)) (ab (Piece.mk rfl rfl (.cons rfl (.cons rfl (.nil _))) (fun _ h => h)))))
         exact ab (Piece.mk rfl rfl (.cons rfl (.nil _)) (fun _ h => h))
       refine o_assignN rfl rfl (ae (aa (aj ie rfl rfl (aB sz9 N0 rfl rfl rfl rfl rfl (Nat.le_of_ble_eq_true rfl) rfl (aj ig rfl rfl (aB sz9 N0 rfl rfl rfl rfl rfl (Nat.le_of_ble_eq_true rfl) rfl (triL_nilN (ae (aa (ah rfl rfl (ah rfl rfl ?_)))))))))))
       refine' aI [_,_] [] (dj := 52) (dr := 54) rfl rfl (fun g6 => ?_) ⟨_,rfl,rfl,rfl,(.nil _)⟩ rfl ?_
       rotate_left
       · skip
         exact aW bo ba .z rfl rfl (vs := ([.int .i64 2,.int .i64 (v).k,.int .i64 (v).n,.string (B (v).s),.string (B []),.string (B []),.int .i64 cc,.slice Ax al.length kx] : List Value)) rfl rfl (aF (first := []) (cap := []) rfl rfl rfl Tryz.call70 (fun w1 h1 => bareK 2 cc v [] [] al Ax kx 2 w1) (ab (Piece.mk rfl rfl (.nil _) (fun _ h => h))))
       refine o_assignN rfl rfl (aq (ap (am (bb rfl rfl ?_)))); exact fun w1 hw1 => ⟨congrArg (fun b => Ending.returned (.bool b)) (by rw [may_2]),hw1.chg⟩
     · skip
       refine ae (tri_slo [(3,_),(1,_)] rfl (aa (aj cW rfl rfl (ak bL N0 rfl rfl rfl (aE rfl rfl rfl (ah rfl rfl ?_))))))
       refine' aX [_,_,_] [(3,_),(1,_)] (dj := 60) (dr := 63) rfl rfl (fun g7 => ?_) ⟨_,rfl,rfl,rfl,(.cons rfl (.cons rfl (.nil _)))⟩ rfl ?_
       rotate_left
       · skip
         exact aj cW rfl rfl (ak bL N0 rfl rfl rfl (aE rfl rfl rfl (ab (Piece.mk rfl rfl (.cons rfl (.cons rfl (.nil _))) (fun _ h => h)))))
       refine ah rfl rfl ?_
       refine' aX [_,_,_] [(3,_),(1,_)] (dj := 65) (dr := 68) rfl rfl (fun g8 => ?_) ⟨_,rfl,rfl,rfl,(.cons rfl (.cons rfl (.nil _)))⟩ rfl ?_
       rotate_left
       · skip
         exact aj cW rfl rfl (ak bL N0 rfl rfl rfl (aE rfl rfl rfl (ab (Piece.mk rfl rfl (.cons rfl (.cons rfl (.nil _))) (fun _ h => h)))))
       refine ah rfl rfl ?_
       refine' aX [_,_,_] [(3,_),(1,_)] (dj := 70) (dr := 73) rfl rfl (fun g9 => ?_) ⟨_,rfl,rfl,rfl,(.cons rfl (.cons rfl (.nil _)))⟩ rfl ?_
       rotate_left
       · skip
         exact aj cW rfl rfl (ak bL N0 rfl rfl rfl (aE rfl rfl rfl (ab (Piece.mk rfl rfl (.cons rfl (.cons rfl (.nil _))) (fun _ h => h)))))
       refine o_assignN rfl rfl (aD rfl (fun q2 => ?_) (fun q2 => ?_))
       · skip
         exact aa (aH rfl rfl (ab (an (ag (⟨0,(.cons rfl (.cons (by rw [ar1 q2]; rfl) (.nil _))),fun _ h => h,by simp only [Bool.or_eq_true,decide_eq_true_eq] at q2; omega⟩)))))
       · skip
         refine ae (aa (aj cW rfl rfl (ak bL N0 rfl rfl rfl (cg rfl rfl rfl (ah rfl rfl ?_)))))
         refine' aX [_,_,_] [(3,_),(1,_)] (dj := 79) (dr := 82) rfl rfl (fun g10 => ?_) ⟨_,rfl,rfl,rfl,(.cons rfl (.cons rfl (.nil _)))⟩ rfl ?_
         rotate_left
         · skip
           exact aj cW rfl rfl (ak bL N0 rfl rfl rfl (eV rfl rfl rfl (ab (Piece.mk rfl rfl (.cons rfl (.cons rfl (.nil _))) (fun _ h => h)))))
         refine o_assignN rfl rfl (aD rfl (fun q3 => ?_) (fun q3 => ?_))
         · skip
           refine ae (ar [] (.nil _) (aa (o_assignN rfl rfl (aq (ap (am (bb rfl rfl ?_))))))); exact fun w1 hw1 => ⟨congrArg (fun b => Ending.returned (.bool b)) (by exact (may_no v t n cc al q0 q1 (by simp only [Bool.or_eq_true,decide_eq_true_eq] at q3; simp only [Bool.or_eq_false_iff,decide_eq_false_iff_not] at q2; omega)).symm),hw1.chg⟩
         · skip
           exact ao (an (ag (⟨0,(.cons rfl (.cons (by rw [ar2 q2]; rfl) (.nil _))),fun _ h => h,by simp only [Bool.or_eq_false_iff,decide_eq_false_iff_not] at q3; omega⟩)))
 have hn1 : o ≠ 1 := by omega
 have hn2 : o ≠ 2 := by omega
 refine ae (ae (aa (aj eA rfl rfl (ak eJ N0 rfl rfl rfl (aY Tryz.underlying28 rfl rfl (ah rfl rfl (cK rfl rfl rfl (ah rfl rfl ?_))))))))
 refine' aX [_,_,_,_] [(1,_)] (dj := 89) (dr := 93) rfl rfl (fun g11 => ?_) ⟨_,rfl,rfl,rfl,(.cons rfl (.nil _))⟩ rfl ?_
 rotate_left
 · skip
   exact aj km rfl rfl (aW j5 ma .z rfl rfl (vs := Val.cs v) rfl rfl (aQ nj rfl rfl (o_neqV pA rfl rfl rfl (ab (Piece.mk rfl rfl (.cons rfl (.nil _)) (fun _ h => h))))))
 refine ah rfl rfl ?_
 refine' aX [_,_,_] [(1,_)] (dj := 95) (dr := 98) rfl rfl (fun g12 => ?_) ⟨_,rfl,rfl,rfl,(.cons rfl (.nil _))⟩ rfl ?_
 rotate_left
 · skip
   exact aj ig rfl rfl (ak bB N0 rfl rfl rfl (dE rfl rfl rfl (ab (Piece.mk rfl rfl (.cons rfl (.nil _)) (fun _ h => h)))))
 refine ah rfl rfl ?_
 refine' aX [_,_,_] [(1,_)] (dj := 100) (dr := 103) rfl rfl (fun g13 => ?_) ⟨_,rfl,rfl,rfl,(.cons rfl (.nil _))⟩ rfl ?_
 rotate_left
 · skip
   exact aj ie rfl rfl (ak bB N0 rfl rfl rfl (dE rfl rfl rfl (ab (Piece.mk rfl rfl (.cons rfl (.nil _)) (fun _ h => h)))))
 refine ah rfl rfl ?_
 refine' aX [_,_,_] [(1,_)] (dj := 105) (dr := 108) rfl rfl (fun g14 => ?_) ⟨_,rfl,rfl,rfl,(.cons rfl (.nil _))⟩ rfl ?_
 rotate_left
 · skip
   exact aj pE rfl rfl (ak bL N0 rfl rfl rfl (cK rfl rfl rfl (ab (Piece.mk rfl rfl (.cons rfl (.nil _)) (fun _ h => h)))))
 refine triL_nilN (aD rfl (fun q4 => ?_) (fun q4 => ?_))
 · skip
   refine ae (aa (o_assignN rfl rfl (aq (am (bb rfl rfl ?_))))); exact fun w1 hw1 => ⟨congrArg (fun b => Ending.returned (.bool b)) (by exact (may_bad v t n cc al hn1 hn2 q4).symm),hw1.chg⟩
 · skip
   refine ao (ag (ae (ae (aa (aj eA rfl rfl (ak eJ N0 rfl rfl rfl (aY Tryz.underlying28 rfl rfl (ah rfl rfl (triL_nilN (ay (bz (ι := Nat) (F := fun i => [(111,.slice Ax al.length kx),(112,.int .i64 (al.length : Int)),(113,.int .i64 (i : Int))]) (HH := fun i => [box b1 30 ([.int .i64 o,.int .i64 v.k,.int .i64 v.n,.string (B v.s),.string (B t),.string (B n),.int .i64 cc,.slice Ax al.length kx] : List Value)]) (Pu := fun i => i ≤ al.length ∧ (al.take i).all Ex.may = true) (μ := fun i => al.length - i) (0) (.cons rfl (.cons rfl (.cons rfl (.nil _)))) (fun _ h => h) (⟨Nat.zero_le _,rfl⟩) (fun i hi => ae (aa (cg rfl rfl rfl (triL_nilN (ae (av rfl (fun q5 => ?_) (fun q5 => ?_))))))))))))))))))
   · skip
     refine ao (ag (ae (ay (ae ?_))))
     obtain ⟨ca,hca,hka⟩ := ExsC.at i hxs (by omega)
     refine aa (aS Tryz.underlying28 ba rfl rfl rfl (hR _ _ rfl rfl) (by omega) (by omega) (by omega) (by decide) (bF bo ba rfl rfl (hR _ _ rfl rfl) (vs := ca) hca hka.len (by decide) (aP _ rfl dq rfl (fun b7 => bK rfl hka.xc ba N0 rfl rfl rfl (triL_nilN (ae (aa (dT hka.xc bo ba N0 rfl rfl (aF (first := []) (cap := []) rfl rfl rfl Tryz.call32 (fun w1 h1 => ih i (by omega) ca w1 (ExC.chg h1.chg _ _ hka) (Ex.ok_at ho (by omega)) (by have := Ex.size_at (o := o) (c := cc) (v := v) (t := t) (n := n) (l := al) (i := i) (by omega); omega)) (dB rfl rfl (triL_nilN (aD rfl (fun q6 => ?_) (fun q6 => ?_)))))))))))))
     · skip
       have q6 := cE q6
       refine ae (ar [] (.nil _) (aa (o_assignN rfl rfl (aq (ap (am (am (ap (am (bb rfl rfl ?_)))))))))); exact fun w1 hw1 => ⟨congrArg (fun b => Ending.returned (.bool b)) (by rw [s8 v t n cc al hn1 hn2 hj q4]; exact (all_hit (by omega) q6).symm),hw1.chg⟩
     · skip
       have q6 := cn q6
       exact ao (an (ag (tri_slo [(111,_),(112,_),(113,_)] rfl (aa (bn rfl rfl rfl (by omega) (ah rfl rfl (triL_nilN (⟨i + 1,(.cons rfl (.cons rfl (.cons rfl (.nil _)))),(fun w2 hw2 => hw2.tail),⟨by omega,all_step (by omega) hi.2 q6⟩,by omega⟩))))))))
   · skip
     refine aZ (aw (aw (aL (ag (ae (ar [] (.nil _) (aa (o_assignN rfl rfl (aq (bb rfl rfl ?_)))))))))); exact fun w1 hw1 => ⟨congrArg (fun b => Ending.returned (.bool b)) (by rw [s8 v t n cc al hn1 hn2 hj q4, ← hi.2,List.take_of_length_le (by omega)]),hw1.chg⟩
end Go.Proofs.YtjbpkcbefmpfgaaGreatDoor
namespace Go.Proofs.YtjbpkcbefmpfgaaGreatDoor
open Go.WK Go.RowKit 
theorem tR : Tryz.prog.built 67 [] = some ([.slice none 0 0,.int .i64 0,.int .i64 0] : List Value).toArray := by kernel_rfl
theorem mayXK : ∀ (n : Nat) (e : Ex),e.size < n → MX e := by
 intro n
 induction n with
 | zero => intro e h; omega
 | succ n ih =>
  intro e hs
  obtain ⟨o,v,t,nn,cc,al⟩ := e
  intro cs w hc ho hz
  obtain ⟨Ax,kx,xs,rfl,h1,h2,h3⟩ := hc
  exact mayStep o cc v t nn al Ax kx xs w h1 h2 h3 ho hz (fun i hi => ih _ (by have := Ex.size_at (o := o) (c := cc) (v := v) (t := t) (n := nn) hi; omega))
theorem oI (e : Ex) (bl : List Nat) (y : SL) (w : World) (h : ExR bl w e y) (ho : e.ok) (hz : e.size ≤ 70368744177664) : Calls Tryz.prog 32 #[.agg (bR e y).toArray] w (cp w (.bool e.may)) := mayXK (e.size + 1) e (by omega) _ w (ExK.c _ _ h) ho hz
theorem pF (e : Ex) (y : SL) (w : World) : Calls Tryz.prog 72 #[.agg (bR e y).toArray] w (cp w (.bool (gi e))) := by
 obtain ⟨o,v,t,n,c,al⟩ := e
 exact lacksK o c v t n al y.A y.k w
theorem oJ (e : Ex) (hm : e.may = true) (ho : e.ok) (low : Int) (bl : List Nat) (y : SL) (pb : Nat) (A : Option Addr) (c : Nat) (l : List UInt8) (d m : Int) (w : World) (hP : gq w pb A c l d m) (hV : PV w (prL pb A) bl) (hK : ExR bl w e y) (hdm : 0 ≤ d ∧ d ≤ m) (hd : d + ((e.txt low).1.length : Int) ≤ 140737488355328) (hb : l.length + (e.txt low).1.length ≤ 70368744177664) :
  Calls Tryz.prog 26 #[.pointer (some ⟨pb,0,none⟩),.agg (bR e y).toArray,.int .i64 low] w (PrT w pb A (l ++ (e.txt low).1) d (max m (d + ((e.txt low).2 : Int)))) :=
 exprK (e.size + 1) e (by omega) hm ho low bl _ pb A c l d m w hP hV hK hdm (by have := deep_le (e.size + 1) e (by omega) hm low; omega) hb
theorem sE (e : Ex) (y : SL) (bl : List Nat) (w : World) (hK : ExR bl w e y) (ho : e.ok) (hz : e.size ≤ 70368744177664) (hbl : ∀ k ∈ bl,k < w.heap.size) : Calls Tryz.prog 33 #[.agg (bR e y).toArray] w (cp w (.bool (iB e))) := by
 refine az (args := [.agg (bR e y).toArray]) (lent := []) (H := []) Tryz.func33 rfl Tryz.ntmps33 rfl (Sat.start _ _ _ _) ((show Tri _ [(0,_)] _ _ _ from ae (aa (cA _ rfl rfl rfl (fun b1 => o_assignN rfl rfl (ae (aa (aW bo ba .z rfl rfl (vs := bR e y) rfl rfl (aF (first := []) (cap := []) rfl rfl rfl Tryz.call72 (fun w1 h1 => pF e y w1) (ah rfl rfl ?_))))))))))
 refine' aX [_,_] [(2,_)] (dj := 5) (dr := 7) rfl rfl (fun g1 => ?_) ⟨_,rfl,rfl,rfl,(.cons rfl (.nil _))⟩ rfl ?_
 rotate_left
 · skip
   exact aW bo ba .z rfl rfl (vs := bR e y) rfl rfl (aF (first := []) (cap := []) rfl rfl rfl Tryz.call32 (fun w1 h1 => oI e bl y w1 (hK.stab (fun k hk => h1.chg.block k (hbl k hk) (by simp))) ho hz) (ab (Piece.mk rfl rfl (.cons rfl (.nil _)) (fun _ h => h))))
 refine o_assignN rfl rfl (aq (bb rfl rfl ?_)); exact fun w1 hw1 => ⟨rfl,hw1.chg⟩
theorem Sat.nilRow {cx : Cx} {H : List Chunk} {w : World} (h : Sat cx H w) (t : Nat) : Sat cx (row (.slice none 0 0) t 1 0 [] :: H) w :=
 h.fuse (l := []) _ (fun _ => ⟨rfl,.inl ⟨rfl,rfl⟩⟩) (fun k hk => by cases hk)
theorem sF (e : Ex) (y : SL) (bl : List Nat) (w : World) (hV : PV w [] bl) (hK : ExR bl w e y) (ho : e.ok) (hz : e.size ≤ 70368744177664) (hT : e.may = true → (e.txt 1).1.length ≤ 70368744177664) : Calls Tryz.prog 13 #[.agg (bR e y).toArray] w (cp w (.tuple #[.string (B (prX e).1),.int .i64 (prX e).2])) := by
 refine az (args := [.agg (bR e y).toArray]) (lent := []) (H := []) Tryz.func13 rfl Tryz.ntmps13 rfl (Sat.start _ _ _ _) ((show Tri _ [(0,_)] _ _ _ from ?_))
 have hbl : ∀ k ∈ bl,k < w.heap.size := fun k hk => (hV.pe.lt k hk).1
 rw [prX_told]
 refine ae (aa (cA _ rfl rfl rfl (fun b1 => aH rfl rfl (o_assignN rfl rfl (ae (ae (aa (aW bo ba .z rfl rfl (vs := bR e y) rfl rfl (aF (first := []) (cap := []) rfl rfl rfl Tryz.call32 (fun w1 h1 => oI e bl y w1 (hK.stab (fun k hk => h1.chg.block k (hbl k hk) (by simp))) ho hz) (dB rfl rfl (triL_nilN (aD rfl (fun q0 => ?_) (fun q0 => ?_)))))))))))))
 · skip
   have q0 := cE q0
   refine ae (ar [] (.nil _) (aa (aH rfl rfl (o_assignN rfl rfl (aq (am (il rfl rfl rfl ?_))))))); exact fun w1 hw1 => ⟨by rw [if_neg (cw q0)],hw1.chg⟩
 · skip
   have q0 := cn q0
   refine ao (ag (ae (tri_slo [(1,_)] rfl (aa (aQ tR rfl rfl (cA _ rfl rfl rfl (fun b9 => o_assignN rfl rfl (ae ?_))))))))
   have hT2 := hT q0
   refine Tri.heap (H' := [box b1 30 (bR e y)] ++ prD b9 none 0 [] 0 0) (fun w hw => (Sat.nilRow hw 5).sel [2,1,0] (by decide)) (aa (ah rfl rfl (aW bo ba .z rfl rfl (vs := bR e y) rfl rfl (aJ (pb := b9) [_] rfl rfl rfl rfl Tryz.call26 (fun w1 h1 h2 h3 => oJ e q0 ho 1 bl y b9 _ _ _ _ _ w1 h2 (hV.sub (PSub.of h1 h3)) (hK.stab (hV.pe.st (PSub.of h1 h3))) (by omega) (by omega) (by simp only [List.length_nil]; omega)) (fun A12 c12 => triL_nilN (ae (tri_slo [(4,_)] rfl (aa (ah rfl rfl (gX (J := Unit) (val := fun _ => .tuple #[.string (B (je _ _).1),.int .i64 (je _ _).2]) (D' := fun _ => prD b9 _ _ _ _ _) (Pu := fun _ => True) [_] (prD b9 _ _ _ _ _) [] (prL b9 _) rfl rfl rfl rfl Tryz.call28 (prD1 _ _ _ _ _ _) (prD2 _ _ _ _ _ _) (fun w1 h1 h2 => toldK b9 _ _ _ _ _ w1 h2 (by (try simp only [List.nil_append]); omega)) (fun _ _ => be rfl rfl rfl (be rfl rfl rfl (aH rfl rfl (o_assignN rfl rfl (aq (il rfl rfl rfl ?_)))))))))))))))); exact fun w1 hw1 => ⟨by rw [if_pos q0,List.nil_append,show max (0 : Int) (0 + ((e.txt 1).2 : Int)) = ((e.txt 1).2 : Int) by omega],hw1.chg⟩
end Go.Proofs.YtjbpkcbefmpfgaaGreatDoor
namespace Go.Proofs.YtjbpkcbefmpfgaaGreatDoor
open Go.WK Go.RowKit 
theorem asR_ (s : List UInt8) (pb : Nat) (A : Option Addr) (c : Nat) (l : List UInt8) (m : Int) (w : World) (hP : gq w pb A c l 0 m) (_ : 0 ≤ m) (hb : l.length + (asT s).length ≤ 70368744177664) : Calls Tryz.prog 119 #[.pointer (some ⟨pb,0,none⟩),.string (B s)] w (PrT w pb A (l ++ asT s) 0 m) := by
 refine az (args := [.pointer (some ⟨pb,0,none⟩),.string (B s)]) (lent := prL pb A) (H := prD pb A c l 0 m) Tryz.func119 rfl Tryz.ntmps119 rfl (Sat.cx hP) ((show Tri _ [(0,_),(1,_)] _ _ _ from ?_))
 unfold asT at hb ⊢
 refine ae (aa (ah rfl rfl (dE rfl rfl rfl (triL_nilN (aD rfl (fun q0 => ?_) (fun q0 => ?_))))))
 · skip
   have q0 := of_decide_eq_true q0
   rw [if_neg q0] at hb ⊢
   exact aa (ah rfl rfl (ah rfl rfl (e0 (parts := [_,_]) (dY [[32,97,115,32],s]) Tryz.underlying23 zs9 rfl rfl rfl rfl (by decide) (by decide) (fun b8 => aJ (pb := pb) [_] rfl rfl rfl rfl Tryz.call20 (fun w1 h1 h2 h3 => dm [[32,97,115,32],s] _ _ pb _ _ _ _ _ w1 h2 (RdS.row .z w1 h1) (fun a ha => by cases ha; exact bk h1 (fun x hx => hx) rfl) (by (try simp only [List.length_append,List.length_cons,List.length_nil,List.flatten_cons,List.flatten_nil] at hb ⊢); omega) (by simp)) (fun A9 c9 => ab (bP rfl (bC (J := Option Addr × Nat) (A9,c9) rfl trivial (fun w2 hw2 => bX (by simp) rfl (by rfl) (hw2.sel [1,2] (by decide))))))))))
 · skip
   have q0 := Decidable.not_not.1 (of_decide_eq_false q0)
   rw [if_pos q0] at hb ⊢
   exact ao (bP rfl (bC (J := Option Addr × Nat) (A,c) rfl trivial (fun w2 hw2 => bX (by simp) rfl (by rfl) (hw2.sel [0,1] (by decide)))))
theorem pG (e : Ex) (y : SL) (bl : List Nat) (pb : Nat) (A : Option Addr) (c : Nat) (l : List UInt8) (m : Int) (w : World) (hP : gq w pb A c l 0 m) (hm0 : 0 ≤ m) (hV : PV w (prL pb A) bl) (hK : ExR bl w e y) (ho : e.ok) (hmy : iB e = true) (hb : l.length + (gM e).1.length ≤ 70368744177664) : Calls Tryz.prog 60 #[.pointer (some ⟨pb,0,none⟩),.agg (bR e y).toArray] w (PrT w pb A (l ++ (gM e).1) 0 (max m ((gM e).2 : Int))) := by
 refine az (args := [.pointer (some ⟨pb,0,none⟩),.agg (bR e y).toArray]) (lent := prL pb A) (H := prD pb A c l 0 m) Tryz.func60 rfl Tryz.ntmps60 rfl (Sat.cx hP) ((show Tri _ [(0,_),(1,_)] _ _ _ from ?_))
 unfold gM at hb ⊢
 refine ae (aa (cA _ rfl rfl rfl (fun b3 => triL_nilN (ae (aa (aj cW rfl rfl (ak bL N0 rfl rfl rfl (cK rfl rfl rfl (triL_nilN (av rfl (fun q0 => ?_) (fun q0 => ?_)))))))))))
 · skip
   rw [if_neg q0] at hb ⊢
   exact ae (tri_slo [(3,_),(0,_)] rfl (aa (ah rfl rfl (bf Tryz.underlying23 zs9 rfl rfl rfl rfl rfl (by decide) (by decide) (fun b8 => aJ (pb := pb) [_,_] rfl rfl rfl rfl Tryz.call20 (fun w1 h1 h2 h3 => dm [[32,119,104,101,114,101,32]] _ _ pb _ _ _ _ _ w1 h2 (RdS.row .z w1 h1) (fun a ha => by cases ha; exact bk h1 (fun x hx => (List.mem_cons_of_mem _ hx)) rfl) (by (try simp only [cat,raw,List.length_append,List.length_cons,List.length_nil,List.flatten_cons,List.flatten_nil] at hb ⊢); omega) (by simp)) (fun A9 c9 => triL_nilN (aa (ah rfl rfl (aW bo ba (.s .z) rfl rfl (vs := bR e y) rfl rfl (aJ (pb := pb) [_,_] rfl rfl rfl rfl Tryz.call26 (fun w1 h1 h2 h3 => oJ e (mayb_may hmy q0) ho 1 bl y pb _ _ _ _ _ w1 h2 (hV.sub (PSub.of h1 h3)) (hK.stab (hV.pe.st (PSub.of h1 h3))) (by omega) (by (try simp only [cat,raw,List.length_append,List.length_cons,List.length_nil] at hb ⊢); omega) (by (try simp only [cat,raw,List.length_append,List.length_cons,List.length_nil,List.flatten_cons,List.flatten_nil] at hb ⊢); omega)) (fun A12 c12 => ab (bP rfl (bC (J := Option Addr × Nat) (A12,c12) rfl trivial (fun w2 hw2 => bX (by simp [cat,raw]) rfl (by simp only [cat,raw]; omega) (hw2.sel [2,3] (by decide))))))))))))))))
 · skip
   have q0 := Decidable.not_not.1 q0
   rw [if_pos q0] at hb ⊢
   exact ao (bP rfl (bC (J := Option Addr × Nat) (A,c) rfl trivial (fun w2 hw2 => bX (by simp) rfl (by simp only; omega) (hw2.sel [1,2] (by decide)))))
theorem oK (g : Nat → Txt) (i : Nat) : fg g (i + 1) = cat (fg g i) (cat (raw (cm i)) (g i)) := rfl
theorem tS (g : Nat → Txt) {i n : Nat} (h : i < n) : (fg g i).1.length + ((cm i).length + (g i).1.length) ≤ (fg g n).1.length := by
 have := upT_at (fun i => cat (raw (cm i)) (g i)) h
 simpa [cat,raw,fg] using this
theorem hZ (g : Nat → Txt) (n : Nat) (q : Nat) (fst cap : List Value) (pb : Nat) (A : Option Addr) (c : Nat) (l : List UInt8) (m : Int) (w : World) (hP : gq w pb A c l 0 m) (hm0 : 0 ≤ m) (hn : n ≤ 70368744177664) (hb : l.length + (fg g n).1.length ≤ 70368744177664) (hcf : ∀ args w,(callFunc q args).run Tryz.prog w = .ok (.enter q args) w) (hone : ∀ (i : Nat) (A1 : Option Addr) (c1 : Nat) (l1 : List UInt8) (m1 : Int) (w1 : World),i < n → PSub w (prL pb A) w1 (prL pb A1) → gq w1 pb A1 c1 l1 0 m1 → 0 ≤ m1 → l1.length + (g i).1.length ≤ 70368744177664 → Calls Tryz.prog q (fst ++ [Value.int .i64 (i : Int)] ++ cap).toArray w1 (PrT w1 pb A1 (l1 ++ (g i).1) 0 (max m1 ((g i).2 : Int)))) : Calls Tryz.prog 21 #[.pointer (some ⟨pb,0,none⟩),.int .i64 (n : Int),.func (.func q) fst.toArray cap.toArray] w (PrT w pb A (l ++ (fg g n).1) 0 (max m ((fg g n).2 : Int))) := by
 refine az (args := [.pointer (some ⟨pb,0,none⟩),.int .i64 (n : Int),.func (.func q) fst.toArray cap.toArray]) (lent := prL pb A) (H := prD pb A c l 0 m) Tryz.func21 rfl Tryz.ntmps21 rfl (Sat.cx hP) ((show Tri _ [(0,_),(1,_),(2,_)] _ _ _ from ae (aa (ah rfl rfl (ah rfl rfl (triL_nilN (ay (bz (ι := Nat × Option Addr × Nat) (F := fun i => [(0,.pointer (some ⟨pb,0,none⟩)),(2,.func (.func q) fst.toArray cap.toArray),(7,.int .i64 (n : Int)),(8,.int .i64 (i.1 : Int))]) (HH := fun i => prD pb i.2.1 i.2.2 (l ++ (fg g i.1).1) 0 (max m ((fg g i.1).2 : Int))) (Pu := fun i => i.1 ≤ n) (μ := fun i => n - i.1) ((0,A,c)) (.cons rfl (.cons rfl (.cons rfl (.cons rfl (.nil _))))) (fun w2 hw2 => bX (by simp [fg,upT]) rfl (by simp only [fg,upT]; omega) hw2) (Nat.zero_le _) (fun i hi => ae (aa (cg rfl rfl rfl (triL_nilN (ae (av rfl (fun q0 => ?_) (fun q0 => ?_)))))))))))))))
 · skip
   have hil : i.1 < n := by omega
   refine ao (ag (ae (ay (ae (aa (ah rfl rfl (o_assignN rfl rfl (co (ι := Option Addr × Nat) (fun j => [(0,.pointer (some ⟨pb,0,none⟩)),(2,.func (.func q) fst.toArray cap.toArray),(6,.int .i64 (i.1 : Int)),(7,.int .i64 (n : Int)),(8,.int .i64 (i.1 : Int))]) (fun j => prD pb j.1 j.2 (l ++ ((fg g i.1).1 ++ cm i.1)) 0 (max m ((fg g i.1).2 : Int))) (fun j => True) ?_ (fun j hj => ?_)))))))))
   · skip
     refine ae (aa (ah rfl rfl (eV rfl rfl rfl (triL_nilN (av rfl (fun q1 => ?_) (fun q1 => ?_))))))
     · skip
       exact tri_slo [(6,_),(0,_),(2,_),(7,_),(8,_)] rfl (aa (ah rfl rfl (bf Tryz.underlying23 zs9 rfl rfl rfl rfl rfl (by decide) (by decide) (fun b14 => aJ (pb := pb) [_] rfl rfl rfl rfl Tryz.call20 (fun w1 h1 h2 h3 => dm [[44,32]] _ _ pb _ _ _ _ _ w1 h2 (RdS.row .z w1 h1) (fun a ha => by cases ha; exact bk h1 (fun x hx => hx) rfl) (by have := tS g hil; rw [cm,if_neg (by omega)] at this; simp only [List.length_append,List.length_cons,List.length_nil,List.flatten_cons,List.flatten_nil] at this ⊢; omega) (by simp)) (fun A15 c15 => triL_nilN (⟨(A15,c15),(.cons rfl (.cons rfl (.cons rfl (.cons rfl (.cons rfl (.nil _)))))),(fun w2 hw2 => bX (by rw [cm,if_neg (by omega)]; simp) rfl rfl (hw2.sel [1,2] (by decide))),trivial⟩))))))
     · skip
       exact ao (ag (⟨(i.2.1,i.2.2),(.cons rfl (.cons rfl (.cons rfl (.cons rfl (.cons rfl (.nil _)))))),(fun w2 hw2 => bX (by rw [cm,if_pos (by omega)]; simp) rfl rfl hw2),trivial⟩))
   exact aa (ah rfl rfl (ah rfl rfl (aJ (pb := pb) [] rfl rfl rfl rfl hcf (fun w1 h1 h2 h3 => hone i.1 _ _ _ _ w1 hil (PSub.of h1 h3) h2 (by omega) (by have := tS g hil; simp only [List.length_append]; omega)) (fun A18 c18 => ab (an (ag (tri_slo [(0,_),(2,_),(7,_),(8,_)] rfl (aa (bn rfl rfl rfl (by omega) (ah rfl rfl (triL_nilN (⟨(i.1 + 1,A18,c18),(.cons rfl (.cons rfl (.cons rfl (.cons rfl (.nil _))))),(fun w2 hw2 => bX (by rw [oK]; simp [cat,raw]) rfl (by rw [oK]; simp only [cat,raw]; omega) hw2),by simp only; omega,(by simp only; omega)⟩))))))))))))
 · skip
   exact aZ (aw (aw (aL (bP rfl (bC (J := Option Addr × Nat) (i.2.1,i.2.2) rfl trivial (fun w2 hw2 => bX (by rw [show i.1 = n by omega]) rfl (by rw [show i.1 = n by omega]) hw2))))))
end Go.Proofs.YtjbpkcbefmpfgaaGreatDoor
namespace Go.Proofs.YtjbpkcbefmpfgaaGreatDoor
open Go.WK Go.RowKit 
theorem bY : cv Tryz.prog 64 = some false := by kernel_rfl
theorem pH : br Tryz.prog 53 0 = some 0 := by kernel_rfl
theorem tT : br Tryz.prog 121 0 = some 0 := by kernel_rfl
theorem gd : cv Tryz.prog 4 = some false := by kernel_rfl
theorem mayI_1 {a : ItemX} (h : kL a = true) : a.e.may = true := by
 unfold kL at h; simp only [Bool.and_eq_true] at h; exact h.1
theorem query1K (q : QryX) (y : QLay) (bl : List Nat) (bp bx i : Nat) (pb : Nat) (A : Option Addr) (c : Nat) (l : List UInt8) (m : Int) (w : World) (hP : gq w pb A c l 0 m) (hm0 : 0 ≤ m) (hV : PV w (prL pb A) bl) (hE : CEnv w bl bp pb bx (ey q y)) (hA : QAt bl w q y) (hi : i < q.items.length) (hmy : kL (q.items.getD i ItemX.zero) = true) (ho : (q.items.getD i ItemX.zero).e.ok) (hb : l.length + (jf (q.items.getD i ItemX.zero)).1.length ≤ 70368744177664) : Calls Tryz.prog 118 #[.int .i64 (i : Int),.pointer (some ⟨bp,0,none⟩),.pointer (some ⟨bx,0,none⟩)] w (PrT w pb A (l ++ (jf (q.items.getD i ItemX.zero)).1) 0 (max m ((jf (q.items.getD i ItemX.zero)).2 : Int))) := by
 refine az (args := [.int .i64 (i : Int),.pointer (some ⟨bp,0,none⟩),.pointer (some ⟨bx,0,none⟩)]) (lent := prL pb A) (H := prD pb A c l 0 m) Tryz.func118 rfl Tryz.ntmps118 rfl (Sat.cx hP) ((show Tri _ [(0,_),(1,_),(2,_)] _ _ _ from ?_))
 have hP_ := hE.rp hV.pe
 have hX_ := hE.rx hV.pe
 obtain ⟨xI,xF,xO,hI,_,_,_⟩ := hA
 obtain ⟨ye,hci,hye⟩ := mg hI i hi
 simp only [jf,cat,raw,List.length_append] at hb
 refine ae (bh (_) [(0,true),(1,true),(2,true),(3,true),(4,true),(5,true),(6,true),(7,false)] [7] (by kernel_rfl) (by kernel_rfl) (fun _ h => h) (ai rfl (aK (A := some ⟨bp,0,none⟩) (kk := 0) bY rfl rfl (hP_ _ _ rfl rfl) rfl (ab ⟨rfl,ai rfl (aT (A := some ⟨bx,0,none⟩) (kk := 0) dy rfl rfl (hX_ _ _ rfl rfl) rfl (ab ⟨rfl,ai rfl (aK ft rfl rfl (hX_ _ _ rfl rfl) rfl (ab ⟨rfl,ai rfl (ah rfl rfl (ab ⟨rfl,ai rfl (aS Tryz.underlying31 kU rfl rfl rfl (hI.rd hV.pe _ _ rfl rfl) (by omega) (by omega) hI.len (by decide) (ab ⟨rfl,ai rfl (aT pH rfl rfl (hI.rd hV.pe _ _ rfl rfl) (aR hci (j := 0) rfl) (ab ⟨rfl,ai rfl (bF bo ba rfl rfl (hI.rd hV.pe _ _ rfl rfl) (vs := bR ((q.items.getD i ItemX.zero).e) ye) (fX (p := []) (cs := bR ((q.items.getD i ItemX.zero).e) ye) (r := [_]) hci) rfl (by decide) (ab ⟨rfl,(bH [7] [_] rfl rfl (aJ (pb := pb) [] rfl rfl rfl rfl Tryz.call26 (fun w1 h1 h2 h3 => oJ ((q.items.getD i ItemX.zero).e) (mayI_1 hmy) (ho) 1 bl ye pb _ _ _ _ _ w1 h2 (hV.sub (PSub.of h1 h3)) (hye.stab (hV.pe.st (PSub.of h1 h3))) (by omega) (by (try simp only [cat,raw,List.length_append,List.length_cons,List.length_nil,List.flatten_cons,List.flatten_nil] at hb ⊢); omega) (by (try simp only [cat,raw,List.length_append,List.length_cons,List.length_nil,List.flatten_cons,List.flatten_nil] at hb ⊢); omega)) (fun A11 c11 => ab ⟨rfl,(ag (tri_slo [(0,_),(1,_),(2,_)] rfl (bh (_) [(0,true),(1,true),(2,true),(3,true),(4,true),(5,true),(6,true),(7,false)] [7] (by kernel_rfl) (by kernel_rfl) (fun _ h => h) (ai rfl (aK (A := some ⟨bp,0,none⟩) (kk := 0) bY rfl rfl (hP_ _ _ rfl rfl) rfl (ab ⟨rfl,ai rfl (aT (A := some ⟨bx,0,none⟩) (kk := 0) dy rfl rfl (hX_ _ _ rfl rfl) rfl (ab ⟨rfl,ai rfl (aK ft rfl rfl (hX_ _ _ rfl rfl) rfl (ab ⟨rfl,ai rfl (ah rfl rfl (ab ⟨rfl,ai rfl (aS Tryz.underlying31 kU rfl rfl rfl (hI.rd hV.pe _ _ rfl rfl) (by omega) (by omega) hI.len (by decide) (ab ⟨rfl,ai rfl (aT jD rfl rfl (hI.rd hV.pe _ _ rfl rfl) (aR hci (j := 0) rfl) (ab ⟨rfl,ai rfl (aK bB rfl rfl (hI.rd hV.pe _ _ rfl rfl) (aR hci (j := 8) rfl) (ab ⟨rfl,(bH [7] [_] rfl rfl (aJ (pb := pb) [] rfl rfl rfl rfl Tryz.call119 (fun w1 h1 h2 h3 => asR_ (q.items.getD i ItemX.zero).s pb _ _ _ _ w1 h2 (by omega) (by (try simp only [List.length_append] at hb ⊢); omega)) (fun A19 c19 => ?_)))⟩))⟩))⟩))⟩))⟩))⟩))⟩))))))⟩)))⟩))⟩))⟩))⟩))⟩))⟩))⟩)))); exact ab ⟨rfl,(bP rfl (bC (J := Option Addr × Nat) (A19,c19) rfl trivial (fun w2 hw2 => bX (by simp [jf,cat,raw]) rfl (by simp only [jf,cat,raw]; omega) (hw2.sel [0,1] (by decide)))))⟩
theorem query2K (q : QryX) (y : QLay) (bl : List Nat) (bp bx i : Nat) (pb : Nat) (A : Option Addr) (c : Nat) (l : List UInt8) (m : Int) (w : World) (hP : gq w pb A c l 0 m) (hm0 : 0 ≤ m) (hV : PV w (prL pb A) bl) (hE : CEnv w bl bp pb bx (ey q y)) (hA : QAt bl w q y) (hi : i < q.ord.length) (hb : l.length + (ordT (q.ord.getD i OrdX.zero)).1.length ≤ 70368744177664) : Calls Tryz.prog 120 #[.int .i64 (i : Int),.pointer (some ⟨bp,0,none⟩),.pointer (some ⟨bx,0,none⟩)] w (PrT w pb A (l ++ (ordT (q.ord.getD i OrdX.zero)).1) 0 (max m ((ordT (q.ord.getD i OrdX.zero)).2 : Int))) := by
 refine az (args := [.int .i64 (i : Int),.pointer (some ⟨bp,0,none⟩),.pointer (some ⟨bx,0,none⟩)]) (lent := prL pb A) (H := prD pb A c l 0 m) Tryz.func120 rfl Tryz.ntmps120 rfl (Sat.cx hP) ((show Tri _ [(0,_),(1,_),(2,_)] _ _ _ from ?_))
 have hP_ := hE.rp hV.pe
 have hX_ := hE.rx hV.pe
 obtain ⟨xI,xF,xO,_,_,_,hO⟩ := hA
 have hci := o9 hO i hi
 simp only [ordT,raw,List.length_append] at hb
 refine ae (bh (_) [(0,true),(1,true),(2,true),(3,true),(4,true),(5,true),(6,true),(7,false),(8,false)] [8] (by kernel_rfl) (by kernel_rfl) (fun _ h => h) (ai rfl (aK (A := some ⟨bp,0,none⟩) (kk := 0) bY rfl rfl (hP_ _ _ rfl rfl) rfl (ab ⟨rfl,ai rfl (aT (A := some ⟨bx,0,none⟩) (kk := 0) eM rfl rfl (hX_ _ _ rfl rfl) rfl (ab ⟨rfl,ai rfl (aK hM rfl rfl (hX_ _ _ rfl rfl) rfl (ab ⟨rfl,ai rfl (ah rfl rfl (ab ⟨rfl,ai rfl (aS Tryz.underlying33 jE rfl rfl rfl (hO.rd hV.pe _ _ rfl rfl) (by omega) (by omega) hO.len (by decide) (ab ⟨rfl,ai rfl (aT tT rfl rfl (hO.rd hV.pe _ _ rfl rfl) (aR hci (j := 0) rfl) (ab ⟨rfl,ai rfl (aK bB rfl rfl (hO.rd hV.pe _ _ rfl rfl) (aR hci (j := 0) rfl) (ab ⟨rfl,(aN rfl (bf Tryz.underlying23 zs9 rfl rfl rfl rfl rfl (by decide) (by decide) (fun b11 => ab ⟨rfl,fun _ _ h => Sat.dropS 1 h,(bH [8] [_] rfl rfl (aJ (pb := pb) [_] rfl rfl rfl rfl Tryz.call20 (fun w1 h1 h2 h3 => dm [(q.ord.getD i OrdX.zero).n] _ _ pb _ _ _ _ _ w1 h2 (RdS.row .z w1 h1) (fun a ha => by cases ha; exact bk h1 (fun x hx => hx) rfl) (by (try simp only [List.length_append,List.length_nil,List.flatten_cons,List.flatten_nil] at hb ⊢); omega) (by simp)) (fun A12 c12 => ab ⟨rfl,(ag (ae (tri_slo [(0,_),(1,_),(2,_)] rfl (aa (aT (A := some ⟨bx,0,none⟩) (kk := 0) eM rfl rfl (hX_ _ _ rfl rfl) rfl (aK hM rfl rfl (hX_ _ _ rfl rfl) rfl (ah rfl rfl (aS Tryz.underlying33 jE rfl rfl rfl (hO.rd hV.pe _ _ rfl rfl) (by omega) (by omega) hO.len (by decide) (aT tH rfl rfl (hO.rd hV.pe _ _ rfl rfl) (aR hci (j := 0) rfl) (aK gd rfl rfl (hO.rd hV.pe _ _ rfl rfl) (aR hci (j := 1) rfl) (triL_nilN (aD rfl (fun q0 => ?_) (fun q0 => ?_)))))))))))))⟩)))⟩)))⟩))⟩))⟩))⟩))⟩))⟩))⟩))))
 · skip
   exact tri_slo [(1,_)] rfl (aa (aK (A := some ⟨bp,0,none⟩) (kk := 0) bY rfl rfl (hP_ _ _ rfl rfl) rfl (bf Tryz.underlying23 zs9 rfl rfl rfl rfl rfl (by decide) (by decide) (fun b20 => aJ (pb := pb) [_,_] rfl rfl rfl rfl Tryz.call20 (fun w1 h1 h2 h3 => dm [[32,100,101,115,99]] _ _ pb _ _ _ _ _ w1 h2 (RdS.row .z w1 h1) (fun a ha => by cases ha; exact bk h1 (fun x hx => (List.mem_cons_of_mem _ hx)) rfl) (by rw [q0] at hb; simp only [descT,if_true,List.length_append,List.length_cons,List.length_nil,List.flatten_cons,List.flatten_nil] at hb ⊢; omega) (by simp)) (fun A21 c21 => ab (bP rfl (bC (J := Option Addr × Nat) (A21,c21) rfl trivial (fun w2 hw2 => bX (by rw [ordT,q0]; simp [raw,descT]) rfl (by simp only [ordT,raw]; omega) (hw2.sel [2,3] (by decide))))))))))
 · skip
   exact ao (bP rfl (bC (J := Option Addr × Nat) (A12,c12) rfl trivial (fun w2 hw2 => bX (by rw [ordT,q0]; simp [raw,descT]) rfl (by simp only [ordT,raw]; omega) (hw2.sel [1,2] (by decide)))))
end Go.Proofs.YtjbpkcbefmpfgaaGreatDoor
namespace Go.Proofs.YtjbpkcbefmpfgaaGreatDoor
open Go.WK Go.RowKit 
theorem built160 : ∀ (a b : ByteArray),Tryz.prog.built 160 [(0,.string a),(1,.string b)] = some ([.string a,.string b] : List Value).toArray := by intros; kernel_rfl
theorem jG : br Tryz.prog 87 0 = some 0 := by kernel_rfl
theorem eB {F : List Chunk} {pb : Nat} {A : Option Addr} {c : Nat} {l l' : List UInt8} {d d' m m' : Int} {cx : Cx} {w : World} (h1 : l = l') (h2 : d = d') (h3 : m = m') (h : Sat cx (F ++ prD pb A c l d m) w) : Sat cx (F ++ prD pb A c l' d' m') w := by subst h1 h2 h3; exact h
theorem sG {q : QryX} (h : mayQ q = true) : iB q.wh = true ∧ (q.from_.length ≤ 4 ∧ q.ord.length ≤ 16 ∧ q.items.length ≤ 16) ∧ (∀ i,i < q.items.length → kL (q.items.getD i ItemX.zero) = true) ∧ (∀ i,i < q.from_.length → mT i (q.from_.getD i SrcX.zero) = true) := by
 unfold mayQ at h
 simp only [Bool.and_eq_true,decide_eq_true_eq] at h
 obtain ⟨⟨h1,h2,h3,_⟩,h4,h5,h6,_⟩ := h
 refine ⟨h1,⟨h2,h3, ?_⟩,fun i hi => iW h5 hi,fun i hi => iW h6 hi⟩
 split at h4
 · have := of_decide_eq_true h4; omega
 · unfold gL at h4; simp only [Bool.and_eq_true,decide_eq_true_eq] at h4; exact h4.2
theorem srcT_len (i : Nat) (a : SrcX) : (lZ i a).1.length = 6 + (a.t.length + (asT a.s).length) + (if i = 0 then 0 else 4 + (a.e.txt 1).1.length) := by
 unfold lZ
 by_cases h : i = 0
 · rw [if_pos h,if_pos h,if_pos h]; simp only [cat,raw,List.length_append,List.length_cons,List.length_nil]; try omega
 · rw [if_neg h,if_neg h,if_neg h]; simp only [cat,raw,List.length_append,List.length_cons,List.length_nil]; try omega
theorem fj_get (i : Nat) : ([.string (B [32,102,114,111,109,32]),.string (B [32,106,111,105,110,32])] : List Value)[(min (i : Int) 1).toNat]? = some (.string (B (if i = 0 then [32,102,114,111,109,32] else [32,106,111,105,110,32]))) := by
 by_cases h : i = 0
 · subst h; rfl
 · rw [if_neg h,show (min (i : Int) 1).toNat = 1 by omega]; rfl
theorem mayF_2 {i : Nat} {a : SrcX} (h : mT i a = true) (hi : 0 < i) : a.e.may = true := by
 unfold mT at h
 rw [if_neg (by omega)] at h
 simp only [Bool.and_eq_true] at h
 exact h.2.2
set_option maxHeartbeats 1000000 in
theorem cI (q : QryX) (y : QLay) (bl : List Nat) (pb : Nat) (A : Option Addr) (c : Nat) (l : List UInt8) (m : Int) (w : World) (hP : gq w pb A c l 0 m) (hm0 : 0 ≤ m) (hV : PV w (prL pb A) bl) (hA : QAt bl w q y) (hmy : mayQ q = true) (hok : QOk q) (hb : l.length + (qryT q).1.length ≤ 70368744177664) : Calls Tryz.prog 62 #[.pointer (some ⟨pb,0,none⟩),.agg (ey q y).toArray] w (PrT w pb A (l ++ (qryT q).1) 0 (max m ((qryT q).2 : Int))) := by
 refine az (args := [.pointer (some ⟨pb,0,none⟩),.agg (ey q y).toArray]) (lent := prL pb A) (H := prD pb A c l 0 m) Tryz.func62 rfl Tryz.ntmps62 rfl (Sat.cx hP) ((show Tri _ [(0,_),(1,_)] _ _ _ from ?_))
 obtain ⟨my1,⟨my2,my3,my4⟩,my5,my6⟩ := sG hmy
 obtain ⟨xI,xF,xO,hI,hF,hW,hO⟩ := id hA
 simp only [qryT,cat,raw,List.length_append] at hb
 refine ae (aa (cA _ rfl rfl rfl (fun b2 => cA _ rfl rfl rfl (fun b3 => triL_nilN (ae (aa (ak bY N1 rfl rfl rfl (bf Tryz.underlying23 zs9 rfl rfl rfl rfl rfl (by decide) (by decide) (fun b7 => aJ (pb := pb) [_,_,_] rfl rfl rfl rfl Tryz.call20 (fun w1 h1 h2 h3 => dm [[115,101,108,101,99,116,32]] _ _ pb _ _ _ _ _ w1 h2 (RdS.row .z w1 h1) (fun a ha => by cases ha; exact bk h1 (fun x hx => (List.mem_cons_of_mem _ (List.mem_cons_of_mem _ hx))) rfl) (by (try simp only [List.length_append,List.length_cons,List.length_nil,List.flatten_cons,List.flatten_nil,iV] at hb ⊢); omega) (by simp)) (fun A8 c8 => triL_nilN (co (ι := Option Addr × Nat) (fun j => [(2,.pointer (some ⟨b2,0,none⟩)),(3,.pointer (some ⟨b3,0,none⟩))]) (fun j => [box b3 35 (ey q y),box b2 64 [.pointer (some ⟨pb,0,none⟩)]] ++ prD pb j.1 j.2 (l ++ ([115,101,108,101,99,116,32] ++ (if q.di = true then [100,105,115,116,105,110,99,116,32] else []))) 0 (m)) (fun j => True) ?_ (fun j hj => ?_))))))))))))
 · skip
   refine ae (tri_slo [(3,_),(2,_)] rfl (aa (aj ly rfl rfl (ak gd N1 rfl rfl rfl (triL_nilN (aD rfl (fun q0 => ?_) (fun q0 => ?_)))))))
   · skip
     exact aa (ak bY N2 rfl rfl rfl (bf Tryz.underlying23 zs9 rfl rfl rfl rfl rfl (by decide) (by decide) (fun b12 => aJ (pb := pb) [_,_,_,_] rfl rfl rfl rfl Tryz.call20 (fun w1 h1 h2 h3 => dm [[100,105,115,116,105,110,99,116,32]] _ _ pb _ _ _ _ _ w1 h2 (RdS.row .z w1 h1) (fun a ha => by cases ha; exact bk h1 (fun x hx => (List.mem_cons_of_mem _ (List.mem_cons_of_mem _ (List.mem_cons_of_mem _ hx)))) rfl) (by rw [iV,q0] at hb; (try simp only [List.length_append,List.length_cons,List.length_nil,List.flatten_cons,List.flatten_nil,if_true] at hb ⊢); omega) (by simp)) (fun A13 c13 => triL_nilN (⟨(A13,c13),(.cons rfl (.cons rfl (.nil _))),(fun w2 hw2 => eB (by rw [q0]; simp) rfl (by rfl) (hw2.sel [2,3,4,5] (by decide))),trivial⟩)))))
   · skip
     exact ao (ag (⟨(A8,c8),(.cons rfl (.cons rfl (.nil _))),(fun w2 hw2 => eB (by rw [q0]; simp) rfl (by rfl) (hw2.sel [1,2,3,4] (by decide))),trivial⟩))
 refine co (ι := Option Addr × Nat) (fun j => [(2,.pointer (some ⟨b2,0,none⟩)),(3,.pointer (some ⟨b3,0,none⟩))]) (fun j => [box b3 35 (ey q y),box b2 64 [.pointer (some ⟨pb,0,none⟩)]] ++ prD pb j.1 j.2 (l ++ iV q) 0 (m)) (fun j => True) ?_ (fun j hj => ?_)
 · skip
   refine ae (aa (aj kh rfl rfl (ak gd N0 rfl rfl rfl (triL_nilN (aD rfl (fun q1 => ?_) (fun q1 => ?_))))))
   · skip
     exact aa (ak bY N1 rfl rfl rfl (bf Tryz.underlying23 zs9 rfl rfl rfl rfl rfl (by decide) (by decide) (fun b17 => aJ (pb := pb) [_,_,_] rfl rfl rfl rfl Tryz.call20 (fun w1 h1 h2 h3 => dm [[42]] _ _ pb _ _ _ _ _ w1 h2 (RdS.row .z w1 h1) (fun a ha => by cases ha; exact bk h1 (fun x hx => (List.mem_cons_of_mem _ (List.mem_cons_of_mem _ hx))) rfl) (by rw [iV,q1] at hb; (try simp only [List.length_append,List.length_cons,List.length_nil,List.flatten_cons,List.flatten_nil,if_true] at hb ⊢); omega) (by simp)) (fun A18 c18 => triL_nilN (⟨(A18,c18),(.cons rfl (.cons rfl (.nil _))),(fun w2 hw2 => eB (by rw [iV,q1]; simp) rfl (by rfl) (hw2.sel [1,2,3,4] (by decide))),trivial⟩)))))
   · skip
     exact ao (ag (⟨j,(.cons rfl (.cons rfl (.nil _))),(fun w2 hw2 => eB (by rw [iV,q1]; simp) rfl (by rfl) (hw2.sel [0,1,2,3] (by decide))),trivial⟩))
 refine ae (aa (ak bY N1 rfl rfl rfl (aj dy rfl rfl (ak ft N0 rfl rfl rfl (aY Tryz.underlying31 rfl rfl (bD rfl rfl rfl (aJ (pb := pb) [_,_] rfl rfl rfl rfl Tryz.call21 (fun w1 h1 h2 h3 => hZ (fun i => jf (q.items.getD i ItemX.zero)) q.items.length 118 [] [.pointer (some ⟨b2,0,none⟩),.pointer (some ⟨b3,0,none⟩)] pb _ _ _ _ w1 h2 (by omega) (by omega) (by (try simp only [List.length_append] at hb ⊢); omega) Tryz.call118 (fun i A1 c1 l1 m1 w2 hi hs hP1 hm1 hb1 => by have hce := cenv (F := [_,_]) hV.pe h1 (.s .z) .z; have hPV : PV w1 _ _ := ⟨hce.1,(hV.lv.chgL h1.chg (fun k hk => (hV.pe.g k hk).2))⟩; have hA2 := (hA.stab (hV.pe.st (PSub.of h1 h3))).mono (bl' := b2 :: b3 :: bl) (fun k hk => List.mem_cons_of_mem _ (List.mem_cons_of_mem _ hk)); exact query1K q y (b2 :: b3 :: bl) b2 b3 i pb A1 c1 l1 m1 w2 hP1 hm1 (hPV.sub hs) (hce.2.stab (hce.1.st hs)) (hA2.stab (hce.1.st hs)) hi (my5 i hi) (hok.items i hi) hb1)) (fun A24 c24 => triL_nilN (ae (ae (tri_slo [(2,_),(3,_)] rfl (aa (aj cV rfl rfl (ak ej N0 rfl rfl rfl (aY Tryz.underlying32 rfl rfl (ah rfl rfl (triL_nilN (ay (bz (ι := Nat × Option Addr × Nat) (F := fun i => [(2,.pointer (some ⟨b2,0,none⟩)),(3,.pointer (some ⟨b3,0,none⟩)),(26,.slice y.F.A q.from_.length y.F.k),(27,.int .i64 (q.from_.length : Int)),(28,.int .i64 (i.1 : Int))]) (HH := fun i => [box b3 35 (ey q y),box b2 64 [.pointer (some ⟨pb,0,none⟩)]] ++ prD pb i.2.1 i.2.2 (l ++ (iV q ++ ((fg (fun i => jf (q.items.getD i ItemX.zero)) q.items.length).1 ++ (upT (fun i => lZ i (q.from_.getD i SrcX.zero)) i.1).1))) 0 (max (max m ((fg (fun i => jf (q.items.getD i ItemX.zero)) q.items.length).2 : Int)) ((upT (fun i => lZ i (q.from_.getD i SrcX.zero)) i.1).2 : Int))) (Pu := fun i => i.1 ≤ q.from_.length) (μ := fun i => q.from_.length - i.1) ((0,A24,c24)) (.cons rfl (.cons rfl (.cons rfl (.cons rfl (.cons rfl (.nil _)))))) ((fun w2 hw2 => eB (by simp [upT]) rfl (by simp only [upT]; omega) (hw2.sel [0,1,2,3] (by decide)))) (Nat.zero_le _) (fun i hi => ae (aa (cg rfl rfl rfl (triL_nilN (ae (av rfl (fun q2 => ?_) (fun q2 => ?_))))))))))))))))))))))))))
 · skip
   have hil : i.1 < q.from_.length := by omega
   have hbF := upT_at (fun i => lZ i (q.from_.getD i SrcX.zero)) hil
   simp only [srcT_len] at hbF
   have h6 : (if i.1 = 0 then [32,102,114,111,109,32] else [32,106,111,105,110,32] : List UInt8).length = 6 := by split <;> rfl
   refine ao (ag (ae (ay (ae ?_))))
   obtain ⟨ye,hci,hye⟩ := o6 hF i.1 hil
   refine aa (ah rfl rfl (aS Tryz.underlying32 fI rfl rfl rfl (hF.rd hV.pe _ _ rfl rfl) (by omega) (by omega) hF.len (by decide) (bF nl fI rfl rfl (hF.rd hV.pe _ _ rfl rfl) (vs := Value.string (B (q.from_.getD i.1 SrcX.zero).t) :: Value.string (B (q.from_.getD i.1 SrcX.zero).s) :: bR (q.from_.getD i.1 SrcX.zero).e ye) hci rfl (by decide) (aP _ rfl nk rfl (fun b5 => aH rfl rfl (aB fI N0 rfl rfl rfl rfl rfl (Nat.le_of_ble_eq_true rfl) rfl (triL_nilN (ae (tri_slo [(4,_),(5,_),(2,_),(3,_),(26,_),(27,_),(28,_)] rfl (bh (_) [(0,true),(1,true),(2,true),(3,true),(4,true),(5,true),(6,true),(7,false),(8,false)] [8] (by kernel_rfl) (by kernel_rfl) (fun _ h => h) (ai rfl (ak bY N2 rfl rfl rfl (ab ⟨rfl,ai rfl (aQ (built160 _ _) rfl rfl (ab ⟨rfl,ai rfl (ah rfl rfl (ab ⟨rfl,ai rfl (o_min rfl rfl rfl (ab ⟨rfl,ai rfl (oc Tryz.underlying160 bB sz9 rfl rfl rfl (by omega) (by omega) rfl (fj_get i.1) (ab ⟨rfl,ai rfl (aj jG rfl rfl (ab ⟨rfl,ai rfl (ak bB N0 rfl rfl rfl (ab ⟨rfl,(aN rfl (e0 (parts := [_,_]) (dY [if i.1 = 0 then [32,102,114,111,109,32] else [32,106,111,105,110,32],(q.from_.getD i.1 SrcX.zero).t]) Tryz.underlying23 zs9 rfl rfl rfl rfl (by decide) (by decide) (fun b40 => ab ⟨rfl,fun _ _ h => Sat.dropS 1 h,(bH [8] [_] rfl rfl (aJ (pb := pb) [_,_,_,_] rfl rfl rfl rfl Tryz.call20 (fun w1 h1 h2 h3 => dm [if i.1 = 0 then [32,102,114,111,109,32] else [32,106,111,105,110,32],(q.from_.getD i.1 SrcX.zero).t] _ _ pb _ _ _ _ _ w1 h2 (RdS.row .z w1 h1) (fun a ha => by cases ha; exact bk h1 (fun x hx => (List.mem_cons_of_mem _ (List.mem_cons_of_mem _ (List.mem_cons_of_mem _ hx)))) rfl) (by (try simp only [List.length_append,List.length_cons,List.length_nil,List.flatten_cons,List.flatten_nil,iV] at hb ⊢); omega) (by simp)) (fun A41 c41 => ab ⟨rfl,(ag (ae (tri_slo [(4,_),(5,_),(2,_),(3,_),(26,_),(27,_),(28,_)] rfl (aa (ak bY N3 rfl rfl rfl (aj jC rfl rfl (ak bB N1 rfl rfl rfl (aJ (pb := pb) [_,_,_,_] rfl rfl rfl rfl Tryz.call119 (fun w1 h1 h2 h3 => asR_ (q.from_.getD i.1 SrcX.zero).s pb _ _ _ _ w1 h2 (by omega) (by (try simp only [List.length_append,List.length_cons,List.length_nil,List.flatten_cons,List.flatten_nil,iV] at hb ⊢); omega)) (fun A45 c45 => ?_)))))))))⟩)))⟩)))⟩))⟩))⟩))⟩))⟩))⟩))⟩))))))))))))); refine triL_nilN (ae (tri_slo [(4,_),(5,_),(2,_),(3,_),(26,_),(27,_),(28,_)] rfl (aa (ah rfl rfl (eV rfl rfl rfl (triL_nilN (av rfl (fun q3 => ?_) (fun q3 => ?_))))))))
   · skip
     exact ae (aa (ak bY N3 rfl rfl rfl (bf Tryz.underlying23 zs9 rfl rfl rfl rfl rfl (by decide) (by decide) (fun b49 => aJ (pb := pb) [_,_,_,_,_] rfl rfl rfl rfl Tryz.call20 (fun w1 h1 h2 h3 => dm [[32,111,110,32]] _ _ pb _ _ _ _ _ w1 h2 (RdS.row .z w1 h1) (fun a ha => by cases ha; exact bk h1 (fun x hx => (List.mem_cons_of_mem _ (List.mem_cons_of_mem _ (List.mem_cons_of_mem _ (List.mem_cons_of_mem _ hx))))) rfl) (by rw [if_neg (by omega)] at hbF; (try simp only [List.length_append,List.length_cons,List.length_nil,List.flatten_cons,List.flatten_nil,iV] at hb ⊢); omega) (by simp)) (fun A50 c50 => triL_nilN (tri_slo [(5,_),(2,_),(3,_),(26,_),(27,_),(28,_)] rfl (aa (ak bY N4 rfl rfl rfl (aj lz rfl rfl (aW bo ba (.s (.s .z)) rfl rfl (vs := bR (q.from_.getD i.1 SrcX.zero).e ye) rfl rfl (aJ (pb := pb) [_,_,_,_,_] rfl rfl rfl rfl Tryz.call26 (fun w1 h1 h2 h3 => oJ (q.from_.getD i.1 SrcX.zero).e (mayF_2 (my6 i.1 hil) (by omega)) (hok.from_ i.1 hil) 1 bl ye pb _ _ _ _ _ w1 h2 (hV.sub (PSub.of h1 h3)) (hye.stab (hV.pe.st (PSub.of h1 h3))) (by omega) (by rw [if_neg (by omega)] at hbF; (try simp only [List.length_append,List.length_cons,List.length_nil,iV] at hb ⊢); omega) (by rw [if_neg (by omega)] at hbF; (try simp only [List.length_append,List.length_cons,List.length_nil,List.flatten_cons,List.flatten_nil,iV] at hb ⊢); omega)) (fun A54 c54 => ab (an (ag (tri_slo [(2,_),(3,_),(26,_),(27,_),(28,_)] rfl (aa (bn rfl rfl rfl (by omega) (ah rfl rfl (triL_nilN (⟨(i.1 + 1,A54,c54),(.cons rfl (.cons rfl (.cons rfl (.cons rfl (.cons rfl (.nil _)))))),(fun w2 hw2 => eB (by simp only [upT,cat,raw,lZ]; rw [if_neg (by omega),if_neg (by omega)]; simp) rfl (by simp only [upT,cat,raw,lZ]; rw [if_neg (by omega)]; simp only; omega) (hw2.sel [3,4,5,6] (by decide))),by simp only; omega,(by simp only; omega)⟩))))))))))))))))))))
   · skip
     exact ao (an (ag (tri_slo [(2,_),(3,_),(26,_),(27,_),(28,_)] rfl (aa (bn rfl rfl rfl (by omega) (ah rfl rfl (triL_nilN (⟨(i.1 + 1,A45,c45),(.cons rfl (.cons rfl (.cons rfl (.cons rfl (.cons rfl (.nil _)))))),(fun w2 hw2 => eB (by simp only [upT,cat,raw,lZ]; rw [if_pos (by omega),if_pos (by omega)]; simp) rfl (by simp only [upT,cat,raw,lZ]; rw [if_pos (by omega)]; simp only; omega) (hw2.sel [2,3,4,5] (by decide))),by simp only; omega,(by simp only; omega)⟩))))))))
 · skip
   have hie : i.1 = q.from_.length := by omega
   rw [hie]
   refine aZ (aw (aw (aL (ag (ae (tri_slo [(2,_),(3,_)] rfl (aa (ak bY N1 rfl rfl rfl (aj ja rfl rfl (aW bo ba .z rfl rfl (vs := bR q.wh y.V) rfl rfl (aJ (pb := pb) [_,_] rfl rfl rfl rfl Tryz.call60 (fun w1 h1 h2 h3 => pG q.wh y.V bl pb _ _ _ _ w1 h2 (by omega) (hV.sub (PSub.of h1 h3)) (hW.stab (hV.pe.st (PSub.of h1 h3))) hok.wh my1 (by (try simp only [List.length_append,List.length_cons,List.length_nil,iV] at hb ⊢); omega)) (fun A59 c59 => triL_nilN (co (ι := Option Addr × Nat) (fun j => [(2,.pointer (some ⟨b2,0,none⟩)),(3,.pointer (some ⟨b3,0,none⟩))]) (fun j => [box b3 35 (ey q y),box b2 64 [.pointer (some ⟨pb,0,none⟩)]] ++ prD pb j.1 j.2 (l ++ (iV q ++ ((fg (fun i => jf (q.items.getD i ItemX.zero)) q.items.length).1 ++ ((upT (fun i => lZ i (q.from_.getD i SrcX.zero)) q.from_.length).1 ++ ((gM q.wh).1 ++ qk q.ord.length))))) 0 (max (max (max m ((fg (fun i => jf (q.items.getD i ItemX.zero)) q.items.length).2 : Int)) ((upT (fun i => lZ i (q.from_.getD i SrcX.zero)) q.from_.length).2 : Int)) ((gM q.wh).2 : Int))) (fun j => True) ?_ (fun j hj => ?_))))))))))))))
   · skip
     refine ae (tri_slo [(2,_),(3,_)] rfl (aa (aj eM rfl rfl (ak hM N0 rfl rfl rfl (aY Tryz.underlying33 rfl rfl (eV rfl rfl rfl (triL_nilN (av rfl (fun q4 => ?_) (fun q4 => ?_)))))))))
     · skip
       exact tri_slo [(2,_),(3,_)] rfl (aa (ak bY N1 rfl rfl rfl (bf Tryz.underlying23 zs9 rfl rfl rfl rfl rfl (by decide) (by decide) (fun b65 => aJ (pb := pb) [_,_,_] rfl rfl rfl rfl Tryz.call20 (fun w1 h1 h2 h3 => dm [[32,111,114,100,101,114,32,98,121,32]] _ _ pb _ _ _ _ _ w1 h2 (RdS.row .z w1 h1) (fun a ha => by cases ha; exact bk h1 (fun x hx => (List.mem_cons_of_mem _ (List.mem_cons_of_mem _ hx))) rfl) (by rw [qk,if_pos (by omega)] at hb; (try simp only [List.length_append,List.length_cons,List.length_nil,List.flatten_cons,List.flatten_nil,iV] at hb ⊢); omega) (by simp)) (fun A66 c66 => triL_nilN (⟨(A66,c66),(.cons rfl (.cons rfl (.nil _))),(fun w2 hw2 => eB (by rw [qk,if_pos (by omega)]; simp) rfl (by rfl) (hw2.sel [1,2,3,4] (by decide))),trivial⟩))))))
     · skip
       exact ao (ag (⟨(A59,c59),(.cons rfl (.cons rfl (.nil _))),(fun w2 hw2 => eB (by rw [qk,if_neg (by omega)]; simp) rfl (by rfl) (hw2.sel [0,1,2,3] (by decide))),trivial⟩))
   refine ae (aa (ak bY N1 rfl rfl rfl (aj eM rfl rfl (ak hM N0 rfl rfl rfl (aY Tryz.underlying33 rfl rfl (bD rfl rfl rfl (aJ (pb := pb) [_,_] rfl rfl rfl rfl Tryz.call21 (fun w1 h1 h2 h3 => hZ (fun i => ordT (q.ord.getD i OrdX.zero)) q.ord.length 120 [] [.pointer (some ⟨b2,0,none⟩),.pointer (some ⟨b3,0,none⟩)] pb _ _ _ _ w1 h2 (by omega) (by omega) (by (try simp only [List.length_append] at hb ⊢); omega) Tryz.call120 (fun i A1 c1 l1 m1 w2 hi hs hP1 hm1 hb1 => by have hce := cenv (F := [_,_]) hV.pe h1 (.s .z) .z; have hPV : PV w1 _ _ := ⟨hce.1,(hV.lv.chgL h1.chg (fun k hk => (hV.pe.g k hk).2))⟩; have hA2 := (hA.stab (hV.pe.st (PSub.of h1 h3))).mono (bl' := b2 :: b3 :: bl) (fun k hk => List.mem_cons_of_mem _ (List.mem_cons_of_mem _ hk)); exact query2K q y (b2 :: b3 :: bl) b2 b3 i pb A1 c1 l1 m1 w2 hP1 hm1 (hPV.sub hs) (hce.2.stab (hce.1.st hs)) (hA2.stab (hce.1.st hs)) hi hb1)) (fun A72 c72 => triL_nilN (ae (tri_slo [(2,_),(3,_)] rfl (aa (aj kl rfl rfl (ak gd N0 rfl rfl rfl (triL_nilN (aD rfl (fun q5 => ?_) (fun q5 => ?_))))))))))))))))
   · skip
     exact bh (_) [(0,true),(1,true),(2,true),(3,false),(4,false),(5,false)] [5] (by kernel_rfl) (by kernel_rfl) (fun _ h => h) (ai rfl (ak bY N1 rfl rfl rfl (ab ⟨rfl,ai rfl (aj jF rfl rfl (ab ⟨rfl,ai rfl (ak bL N0 rfl rfl rfl (ab ⟨rfl,(aN rfl (aF (first := []) (cap := []) rfl rfl rfl Tryz.call121 (fun w1 h1 => lib_itoa q.lim w1 hok.lim (hV.lv.chgL h1.chg (fun k hk => (hV.pe.g k hk).2))) (ab ⟨rfl,fun _ _ h => Sat.dropS 0 h,(aN rfl (e0 (parts := [_,_]) (dY [[32,108,105,109,105,116,32],Lib.itoa q.lim]) Tryz.underlying23 zs9 rfl rfl rfl rfl (by decide) (by decide) (fun b79 => ab ⟨rfl,fun _ _ h => Sat.dropS 1 h,(bH [5] [_] rfl rfl (aJ (pb := pb) [_,_,_] rfl rfl rfl rfl Tryz.call20 (fun w1 h1 h2 h3 => dm [[32,108,105,109,105,116,32],Lib.itoa q.lim] _ _ pb _ _ _ _ _ w1 h2 (RdS.row .z w1 h1) (fun a ha => by cases ha; exact bk h1 (fun x hx => (List.mem_cons_of_mem _ (List.mem_cons_of_mem _ hx))) rfl) (by rw [limT,if_pos q5] at hb; (try simp only [List.length_append,List.length_cons,List.length_nil,List.flatten_cons,List.flatten_nil,iV] at hb ⊢); omega) (by simp)) (fun A80 c80 => ab ⟨rfl,(bP rfl (bC (J := Option Addr × Nat) (A80,c80) rfl trivial (fun w2 hw2 => bX (by rw [qryT,limT,if_pos q5]; simp [cat,raw]) rfl (by simp only [qryT,cat,raw]; omega) (hw2.sel [3,4] (by decide)))))⟩)))⟩)))⟩)))⟩))⟩))⟩)))
   · skip
     exact ao (bP rfl (bC (J := Option Addr × Nat) (A72,c72) rfl trivial (fun w2 hw2 => bX (by rw [qryT,limT,if_neg (cw q5)]; simp [cat,raw]) rfl (by simp only [qryT,cat,raw]; omega) (hw2.sel [2,3] (by decide)))))
end Go.Proofs.YtjbpkcbefmpfgaaGreatDoor
namespace Go.Proofs.YtjbpkcbefmpfgaaGreatDoor
open Go.WK Go.RowKit 
theorem built72 : ∀ (a b c d : ByteArray),Tryz.prog.built 72 [(0,.string a),(1,.string b),(2,.string c),(3,.string d)] = some ([.string a,.string b,.string c,.string d] : List Value).toArray := by intros; kernel_rfl
theorem ii : br Tryz.prog 37 3 = some 3 := by kernel_rfl
theorem kV : cv Tryz.prog 22 = some false := by kernel_rfl
theorem agg71 : cv Tryz.prog 71 = some true := by kernel_rfl
theorem sz71 : szB Tryz.prog 71 = some 3 := by kernel_rfl
theorem zero71 : (Tryz.prog.info? 71).map (·.zero) = some (some (.agg #[.string .empty,.int .i64 0,.bool false])) := by kernel_rfl
theorem fo71_0 : br Tryz.prog 71 0 = some 0 := by kernel_rfl
theorem sH : br Tryz.prog 71 1 = some 1 := by kernel_rfl
theorem fo71_2 : br Tryz.prog 71 2 = some 2 := by kernel_rfl
theorem gT : br Tryz.prog 37 4 = some 4 := by kernel_rfl
theorem j6 : cv Tryz.prog 23 = some false := by kernel_rfl
theorem fu : br Tryz.prog 37 6 = some 6 := by kernel_rfl
theorem iE : cv Tryz.prog 24 = some false := by kernel_rfl
theorem sz28 : szB Tryz.prog 28 = some 1 := by kernel_rfl
theorem dR : br Tryz.prog 37 7 = some 7 := by kernel_rfl
theorem f3 : cv Tryz.prog 25 = some false := by kernel_rfl
theorem nw : szB Tryz.prog 82 = some 9 := by kernel_rfl
theorem lB : br Tryz.prog 82 0 = some 0 := by kernel_rfl
theorem pI : br Tryz.prog 82 1 = some 1 := by kernel_rfl
theorem ny : cv Tryz.prog 35 = some true := by kernel_rfl
theorem mb : szB Tryz.prog 35 = some 15 := by kernel_rfl
theorem cH : br Tryz.prog 37 1 = some 1 := by kernel_rfl
theorem fv : br Tryz.prog 37 8 = some 8 := by kernel_rfl
theorem print1K (s : StmtX) (y : Lay) (bl : List Nat) (bp bx i : Nat) (pb : Nat) (A : Option Addr) (c : Nat) (l : List UInt8) (m : Int) (w : World) (hP : gq w pb A c l 0 m) (hm0 : 0 ≤ m) (hV : PV w (prL pb A) bl) (hE : CEnv w bl bp pb bx (bS s y)) (hA : SAt bl w s y) (hi : i < s.cols.length) (hmy : ib (s.cols.getD i ColX.zero) = true) (hb : l.length + (mV (s.cols.getD i ColX.zero)).1.length ≤ 70368744177664) : Calls Tryz.prog 22 #[.int .i64 (i : Int),.pointer (some ⟨bx,0,none⟩),.pointer (some ⟨bp,0,none⟩)] w (PrT w pb A (l ++ (mV (s.cols.getD i ColX.zero)).1) 0 (max m ((mV (s.cols.getD i ColX.zero)).2 : Int))) := by
 refine az (args := [.int .i64 (i : Int),.pointer (some ⟨bx,0,none⟩),.pointer (some ⟨bp,0,none⟩)]) (lent := prL pb A) (H := prD pb A c l 0 m) Tryz.func22 rfl Tryz.ntmps22 rfl (Sat.cx hP) ((show Tri _ [(0,_),(1,_),(2,_)] _ _ _ from ?_))
 have hP_ := hE.rp hV.pe
 have hX_ := hE.rx hV.pe
 obtain ⟨xC,xN,xR,xS,xI,xF,xO,hC,hN,hR_,hS,hW,hQ⟩ := id hA
 have hci := o8 hC i hi
 have hk := mayCol_k hmy
 simp only [mV,raw,List.length_append] at hb
 refine ae (aa (aT (A := some ⟨bx,0,none⟩) (kk := 0) ii rfl rfl (hX_ _ _ rfl rfl) rfl (aK kV rfl rfl (hX_ _ _ rfl rfl) rfl (ah rfl rfl (aS Tryz.underlying22 sz71 rfl rfl rfl (hC.rd hV.pe _ _ rfl rfl) (by omega) (by omega) hC.len (by decide) (bF agg71 sz71 rfl rfl (hC.rd hV.pe _ _ rfl rfl) (vs := [Value.string (B (s.cols.getD i ColX.zero).n),Value.int .i64 (s.cols.getD i ColX.zero).k,Value.bool (s.cols.getD i ColX.zero).b]) hci rfl (by decide) (aP _ rfl zero71 rfl (fun b4 => aB sz71 N0 rfl rfl rfl rfl rfl (Nat.le_of_ble_eq_true rfl) rfl (triL_nilN (ae (tri_slo [(4,_),(2,_)] rfl (bh (_) [(0,true),(1,true),(2,true),(3,true),(4,true),(5,true),(6,true),(7,false),(8,false)] [8] (by kernel_rfl) (by kernel_rfl) (fun _ h => h) (ai rfl (aK (A := some ⟨bp,0,none⟩) (kk := 0) bY rfl rfl (hP_ _ _ rfl rfl) rfl (ab ⟨rfl,ai rfl (aj fo71_0 rfl rfl (ab ⟨rfl,ai rfl (ak bB N0 rfl rfl rfl (ab ⟨rfl,ai rfl (aQ (built72 _ _ _ _) rfl rfl (ab ⟨rfl,ai rfl (aj sH rfl rfl (ab ⟨rfl,ai rfl (ak bL N0 rfl rfl rfl (ab ⟨rfl,ai rfl (oc Tryz.underlying72 bB sz9 rfl rfl rfl (by omega) (by omega) rfl (kd_get hk) (ab ⟨rfl,(aN rfl (e0 (parts := [_,_]) (dY [(s.cols.getD i ColX.zero).n,kindT (s.cols.getD i ColX.zero).k]) Tryz.underlying23 zs9 rfl rfl rfl rfl (by decide) (by decide) (fun b17 => ab ⟨rfl,fun _ _ h => Sat.dropS 1 h,(bH [8] [_] rfl rfl (aJ (pb := pb) [_,_] rfl rfl rfl rfl Tryz.call20 (fun w1 h1 h2 h3 => dm [(s.cols.getD i ColX.zero).n,kindT (s.cols.getD i ColX.zero).k] _ _ pb _ _ _ _ _ w1 h2 (RdS.row .z w1 h1) (fun a ha => by cases ha; exact bk h1 (fun x hx => (List.mem_cons_of_mem _ hx)) rfl) (by (try simp only [List.length_append,List.length_nil,List.flatten_cons,List.flatten_nil] at hb ⊢); omega) (by simp)) (fun A18 c18 => ab ⟨rfl,(ag (ae (tri_slo [(4,_),(2,_)] rfl (aa (aj fo71_2 rfl rfl (ak gd N1 rfl rfl rfl (triL_nilN ?_)))))))⟩)))⟩)))⟩))⟩))⟩))⟩))⟩))⟩))⟩))))))))))))))); refine aD rfl (fun q0 => ?_) (fun q0 => ?_)
 · skip
   exact aa (aK (A := some ⟨bp,0,none⟩) (kk := 0) bY rfl rfl (hP_ _ _ rfl rfl) rfl (bf Tryz.underlying23 zs9 rfl rfl rfl rfl rfl (by decide) (by decide) (fun b22 => aJ (pb := pb) [_,_,_] rfl rfl rfl rfl Tryz.call20 (fun w1 h1 h2 h3 => dm [[32,110,111,116,32,110,117,108,108]] _ _ pb _ _ _ _ _ w1 h2 (RdS.row .z w1 h1) (fun a ha => by cases ha; exact bk h1 (fun x hx => (List.mem_cons_of_mem _ (List.mem_cons_of_mem _ hx))) rfl) (by rw [q0] at hb; simp only [kM,if_true,List.length_append,List.length_cons,List.length_nil,List.flatten_cons,List.flatten_nil] at hb ⊢; omega) (by simp)) (fun A23 c23 => ab (bP rfl (bC (J := Option Addr × Nat) (A23,c23) rfl trivial (fun w2 hw2 => bX (by rw [mV,q0]; simp [raw,kM]) rfl (by simp only [mV,raw]; omega) (hw2.sel [3,4] (by decide)))))))))
 · skip
   exact ao (bP rfl (bC (J := Option Addr × Nat) (A18,c18) rfl trivial (fun w2 hw2 => bX (by rw [mV,q0]; simp [raw,kM]) rfl (by simp only [mV,raw]; omega) (hw2.sel [2,3] (by decide)))))
theorem tU (s : StmtX) (y : Lay) (bl : List Nat) (bp bx i : Nat) (pb : Nat) (A : Option Addr) (c : Nat) (l : List UInt8) (m : Int) (w : World) (hP : gq w pb A c l 0 m) (hm0 : 0 ≤ m) (hV : PV w (prL pb A) bl) (hE : CEnv w bl bp pb bx (bS s y)) (hA : SAt bl w s y) (hi : i < s.on.length) (hb : l.length + (raw (s.on.getD i [])).1.length ≤ 70368744177664) : Calls Tryz.prog 23 #[.int .i64 (i : Int),.pointer (some ⟨bp,0,none⟩),.pointer (some ⟨bx,0,none⟩)] w (PrT w pb A (l ++ (raw (s.on.getD i [])).1) 0 (max m ((raw (s.on.getD i [])).2 : Int))) := by
 refine az (args := [.int .i64 (i : Int),.pointer (some ⟨bp,0,none⟩),.pointer (some ⟨bx,0,none⟩)]) (lent := prL pb A) (H := prD pb A c l 0 m) Tryz.func23 rfl Tryz.ntmps23 rfl (Sat.cx hP) ((show Tri _ [(0,_),(1,_),(2,_)] _ _ _ from ?_))
 have hP_ := hE.rp hV.pe
 have hX_ := hE.rx hV.pe
 obtain ⟨xC,xN,xR,xS,xI,xF,xO,hC,hN,hR_,hS,hW,hQ⟩ := id hA
 have hci := mh hN i hi
 simp only [raw] at hb
 exact bh (_) [(0,true),(1,true),(2,true),(3,true),(4,true),(5,true),(6,false),(7,false)] [7] (by kernel_rfl) (by kernel_rfl) (fun _ h => h) (ai rfl (aK (A := some ⟨bp,0,none⟩) (kk := 0) bY rfl rfl (hP_ _ _ rfl rfl) rfl (ab ⟨rfl,ai rfl (aT (A := some ⟨bx,0,none⟩) (kk := 0) gT rfl rfl (hX_ _ _ rfl rfl) rfl (ab ⟨rfl,ai rfl (aK j6 rfl rfl (hX_ _ _ rfl rfl) rfl (ab ⟨rfl,ai rfl (ah rfl rfl (ab ⟨rfl,ai rfl (aS Tryz.underlying23 sz9 rfl rfl rfl (hN.rd hV.pe _ _ rfl rfl) (by omega) (by omega) hN.len (by decide) (ab ⟨rfl,ai rfl (aK bB rfl rfl (hN.rd hV.pe _ _ rfl rfl) (aR hci (j := 0) rfl) (ab ⟨rfl,(aN rfl (bf Tryz.underlying23 zs9 rfl rfl rfl rfl rfl (by decide) (by decide) (fun b10 => ab ⟨rfl,fun _ _ h => Sat.dropS 1 h,(bH [7] [_] rfl rfl (aJ (pb := pb) [_] rfl rfl rfl rfl Tryz.call20 (fun w1 h1 h2 h3 => dm [(s.on.getD i [])] _ _ pb _ _ _ _ _ w1 h2 (RdS.row .z w1 h1) (fun a ha => by cases ha; exact bk h1 (fun x hx => hx) rfl) (by (try simp only [List.length_append,List.length_nil,List.flatten_cons,List.flatten_nil] at hb ⊢); omega) (by simp)) (fun A11 c11 => ab ⟨rfl,(bP rfl (bC (J := Option Addr × Nat) (A11,c11) rfl trivial (fun w2 hw2 => bX (by simp [raw]) rfl (by simp only [raw]; omega) (hw2.sel [1,2] (by decide)))))⟩)))⟩)))⟩))⟩))⟩))⟩))⟩))⟩)))
theorem print31K (s : StmtX) (y : Lay) (bl : List Nat) (bp bx bi i k : Nat) (pb : Nat) (A : Option Addr) (c : Nat) (l : List UInt8) (m : Int) (w : World) (hP : gq w pb A c l 0 m) (hm0 : 0 ≤ m) (hV : PV w (prL pb A) bl) (hE : CEnv w bl bp pb bx (bS s y)) (hA : SAt bl w s y) (hBI : Rd w (some ⟨bi,0,none⟩) [.int .i64 (i : Int)]) (hbi : bi ∈ bl) (hi : i < s.rows.length) (hk : k < (s.rows.getD i []).length) (hmy : ((s.rows.getD i []).getD k Ex.zero).may = true) (ho : ((s.rows.getD i []).getD k Ex.zero).ok) (hb : l.length + (((s.rows.getD i []).getD k Ex.zero).txt 1).1.length ≤ 70368744177664) : Calls Tryz.prog 25 #[.int .i64 (k : Int),.pointer (some ⟨bp,0,none⟩),.pointer (some ⟨bx,0,none⟩),.pointer (some ⟨bi,0,none⟩)] w (PrT w pb A (l ++ (((s.rows.getD i []).getD k Ex.zero).txt 1).1) 0 (max m ((((s.rows.getD i []).getD k Ex.zero).txt 1).2 : Int))) := by
 refine az (args := [.int .i64 (k : Int),.pointer (some ⟨bp,0,none⟩),.pointer (some ⟨bx,0,none⟩),.pointer (some ⟨bi,0,none⟩)]) (lent := prL pb A) (H := prD pb A c l 0 m) Tryz.func25 rfl Tryz.ntmps25 rfl (Sat.cx hP) ((show Tri _ [(0,_),(1,_),(2,_),(3,_)] _ _ _ from ?_))
 have hP_ := hE.rp hV.pe
 have hX_ := hE.rx hV.pe
 obtain ⟨xC,xN,xR,xS,xI,xF,xO,hC,hN,hR_,hS,hW,hQ⟩ := id hA
 obtain ⟨yr,xr,hcr,hRr⟩ := kN hR_ i hi
 obtain ⟨ye,hci,hye⟩ := ex_at hRr k hk
 have hB_ := fun cx H e1 e2 => hV.pe.rd hBI (fun a ha _ => by cases ha; exact hbi) cx H e1 e2
 exact bh (_) [(0,true),(1,true),(2,true),(3,true),(4,true),(5,true),(6,true),(7,true),(8,true),(9,false)] [9] (by kernel_rfl) (by kernel_rfl) (fun _ h => h) (ai rfl (aK (A := some ⟨bp,0,none⟩) (kk := 0) bY rfl rfl (hP_ _ _ rfl rfl) rfl (ab ⟨rfl,ai rfl (aT (A := some ⟨bx,0,none⟩) (kk := 0) fu rfl rfl (hX_ _ _ rfl rfl) rfl (ab ⟨rfl,ai rfl (aK iE rfl rfl (hX_ _ _ rfl rfl) rfl (ab ⟨rfl,ai rfl (aK (A := some ⟨bi,0,none⟩) (kk := 0) bL rfl rfl (hB_ _ _ rfl rfl) rfl (ab ⟨rfl,ai rfl (aS Tryz.underlying24 sz28 rfl rfl rfl (hR_.rd hV.pe _ _ rfl rfl) (by omega) (by omega) hR_.len (by decide) (ab ⟨rfl,ai rfl (aK eJ rfl rfl (hR_.rd hV.pe _ _ rfl rfl) (aR hcr (j := 0) rfl) (ab ⟨rfl,ai rfl (ah rfl rfl (ab ⟨rfl,ai rfl (aS Tryz.underlying28 ba rfl rfl rfl (hRr.rd hV.pe _ _ rfl rfl) (by omega) (by omega) hRr.len (by decide) (ab ⟨rfl,ai rfl (bF bo ba rfl rfl (hRr.rd hV.pe _ _ rfl rfl) (vs := bR ((s.rows.getD i []).getD k Ex.zero) ye) hci rfl (by decide) (ab ⟨rfl,(bH [9] [_] rfl rfl (aJ (pb := pb) [] rfl rfl rfl rfl Tryz.call26 (fun w1 h1 h2 h3 => oJ (((s.rows.getD i []).getD k Ex.zero)) (hmy) (ho) 1 bl ye pb _ _ _ _ _ w1 h2 (hV.sub (PSub.of h1 h3)) (hye.stab (hV.pe.st (PSub.of h1 h3))) (by omega) (by (try simp only [cat,raw,List.length_append,List.length_cons,List.length_nil,List.flatten_cons,List.flatten_nil] at hb ⊢); omega) (by (try simp only [cat,raw,List.length_append,List.length_cons,List.length_nil,List.flatten_cons,List.flatten_nil] at hb ⊢); omega)) (fun A14 c14 => ab ⟨rfl,(bP rfl (bC (J := Option Addr × Nat) (A14,c14) rfl trivial (fun w2 hw2 => bX (by rfl) rfl (by omega) (hw2.sel [0,1] (by decide)))))⟩)))⟩))⟩))⟩))⟩))⟩))⟩))⟩))⟩))⟩)))
theorem print3K (s : StmtX) (y : Lay) (bl : List Nat) (bp bx i : Nat) (pb : Nat) (A : Option Addr) (c : Nat) (l : List UInt8) (m : Int) (w : World) (hP : gq w pb A c l 0 m) (hm0 : 0 ≤ m) (hV : PV w (prL pb A) bl) (hE : CEnv w bl bp pb bx (bS s y)) (hA : SAt bl w s y) (hi : i < s.rows.length) (hmy : f9 (s.rows.getD i []) = true) (hoR : ∀ j,j < (s.rows.getD i []).length → ((s.rows.getD i []).getD j Ex.zero).ok) (hb : l.length + (rowT (s.rows.getD i [])).1.length ≤ 70368744177664) : Calls Tryz.prog 24 #[.int .i64 (i : Int),.pointer (some ⟨bp,0,none⟩),.pointer (some ⟨bx,0,none⟩)] w (PrT w pb A (l ++ (rowT (s.rows.getD i [])).1) 0 (max m ((rowT (s.rows.getD i [])).2 : Int))) := by
 refine az (args := [.int .i64 (i : Int),.pointer (some ⟨bp,0,none⟩),.pointer (some ⟨bx,0,none⟩)]) (lent := prL pb A) (H := prD pb A c l 0 m) Tryz.func24 rfl Tryz.ntmps24 rfl (Sat.cx hP) ((show Tri _ [(0,_),(1,_),(2,_)] _ _ _ from ?_))
 have hP_ := hE.rp hV.pe
 have hX_ := hE.rx hV.pe
 obtain ⟨xC,xN,xR,xS,xI,xF,xO,hC,hN,hR_,hS,hW,hQ⟩ := id hA
 obtain ⟨yr,xr,hcr,hRr⟩ := kN hR_ i hi
 obtain ⟨mr1,mr2⟩ := mayRow_p hmy
 simp only [rowT,cat,raw,List.length_append,List.length_cons,List.length_nil] at hb
 exact ae (aa (cA _ rfl rfl rfl (fun b3 => triL_nilN (ae (aa (aK (A := some ⟨bp,0,none⟩) (kk := 0) bY rfl rfl (hP_ _ _ rfl rfl) rfl (bf Tryz.underlying23 zs9 rfl rfl rfl rfl rfl (by decide) (by decide) (fun b5 => aJ (pb := pb) [_,_] rfl rfl rfl rfl Tryz.call20 (fun w1 h1 h2 h3 => dm [[40]] _ _ pb _ _ _ _ _ w1 h2 (RdS.row .z w1 h1) (fun a ha => by cases ha; exact bk h1 (fun x hx => (List.mem_cons_of_mem _ hx)) rfl) (by (try simp only [List.length_append,List.length_cons,List.length_nil,List.flatten_cons,List.flatten_nil] at hb ⊢); omega) (by simp)) (fun A6 c6 => triL_nilN (ae (tri_slo [(3,_),(1,_),(2,_)] rfl (bh (_) [(0,true),(1,true),(2,true),(3,true),(4,true),(5,true),(6,true),(7,true),(8,false)] [8] (by kernel_rfl) (by kernel_rfl) (fun _ h => h) (ai rfl (aK (A := some ⟨bp,0,none⟩) (kk := 0) bY rfl rfl (hP_ _ _ rfl rfl) rfl (ab ⟨rfl,ai rfl (aT (A := some ⟨bx,0,none⟩) (kk := 0) fu rfl rfl (hX_ _ _ rfl rfl) rfl (ab ⟨rfl,ai rfl (aK iE rfl rfl (hX_ _ _ rfl rfl) rfl (ab ⟨rfl,ai rfl (ak bL N1 rfl rfl rfl (ab ⟨rfl,ai rfl (aS Tryz.underlying24 sz28 rfl rfl rfl (hR_.rd hV.pe _ _ rfl rfl) (by omega) (by omega) hR_.len (by decide) (ab ⟨rfl,ai rfl (aK eJ rfl rfl (hR_.rd hV.pe _ _ rfl rfl) (aR hcr (j := 0) rfl) (ab ⟨rfl,ai rfl (aY Tryz.underlying28 rfl rfl (ab ⟨rfl,ai rfl (bD rfl rfl rfl (ab ⟨rfl,(bH [8] [_] rfl rfl (aJ (pb := pb) [_,_] rfl rfl rfl rfl Tryz.call21 (fun w1 h1 h2 h3 => hZ (fun k => ((s.rows.getD i []).getD k Ex.zero).txt 1) (s.rows.getD i []).length 25 [] [.pointer (some ⟨bp,0,none⟩),.pointer (some ⟨bx,0,none⟩),.pointer (some ⟨b3,0,none⟩)] pb _ _ _ _ w1 h2 (by omega) (by omega) (by (try simp only [List.length_append,List.length_cons,List.length_nil,List.flatten_cons,List.flatten_nil] at hb ⊢); omega) Tryz.call25 (fun k A1 c1 l1 m1 w2 hk hs hP1 hm1 hb1 => by have hbe := benv (F := [_,_]) h1 (.s .z); have hs1 := PSub.of h1 h3; have hPE := (hV.pe.sub hs1).cons hbe.2.1 hbe.2.2; have hPV : PV w1 _ _ := ⟨hPE,(hV.lv.chgL h1.chg (fun k hk => (hV.pe.g k hk).2))⟩; have hup : ∀ j ∈ bl,j ∈ b3 :: bl := fun j hj => List.mem_cons_of_mem _ hj; have hA2 := (hA.stab (hV.pe.st hs1)).mono hup; have hE2 := (hE.stab (hV.pe.st hs1)).mono hup; exact print31K s y (b3 :: bl) bp bx b3 i k pb A1 c1 l1 m1 w2 hP1 hm1 (hPV.sub hs) (hE2.stab (hPE.st hs)) (hA2.stab (hPE.st hs)) (hbe.1.same (fun a ha _ => by cases ha; exact hPE.st hs _ List.mem_cons_self)) List.mem_cons_self hi hk (mr2 k hk) (hoR k hk) hb1)) (fun A15 c15 => ab ⟨rfl,(ag (tri_slo [(1,_)] rfl (aa (aK (A := some ⟨bp,0,none⟩) (kk := 0) bY rfl rfl (hP_ _ _ rfl rfl) rfl (bf Tryz.underlying23 zs9 rfl rfl rfl rfl rfl (by decide) (by decide) (fun b17 => aJ (pb := pb) [_,_,_] rfl rfl rfl rfl Tryz.call20 (fun w1 h1 h2 h3 => dm [[41]] _ _ pb _ _ _ _ _ w1 h2 (RdS.row .z w1 h1) (fun a ha => by cases ha; exact bk h1 (fun x hx => (List.mem_cons_of_mem _ (List.mem_cons_of_mem _ hx))) rfl) (by (try simp only [List.length_append,List.length_cons,List.length_nil,List.flatten_cons,List.flatten_nil] at hb ⊢); omega) (by simp)) (fun A18 c18 => ab (bP rfl (bC (J := Option Addr × Nat) (A18,c18) rfl trivial (fun w2 hw2 => bX (by simp [rowT,cat,raw]) rfl (by simp only [rowT,cat,raw]; omega) (hw2.sel [3,4] (by decide))))))))))))⟩)))⟩))⟩))⟩))⟩))⟩))⟩))⟩))⟩)))))))))))))))
theorem others1K (s : StmtX) (y : Lay) (bl : List Nat) (bp bx i : Nat) (pb : Nat) (A : Option Addr) (c : Nat) (l : List UInt8) (m : Int) (w : World) (hP : gq w pb A c l 0 m) (hm0 : 0 ≤ m) (hV : PV w (prL pb A) bl) (hE : CEnv w bl bp pb bx (bS s y)) (hA : SAt bl w s y) (hi : i < s.sets.length) (hmy : ic (s.sets.getD i SetX.zero) = true) (ho : (s.sets.getD i SetX.zero).e.ok) (hb : l.length + (setT (s.sets.getD i SetX.zero)).1.length ≤ 70368744177664) : Calls Tryz.prog 61 #[.int .i64 (i : Int),.pointer (some ⟨bp,0,none⟩),.pointer (some ⟨bx,0,none⟩)] w (PrT w pb A (l ++ (setT (s.sets.getD i SetX.zero)).1) 0 (max m ((setT (s.sets.getD i SetX.zero)).2 : Int))) := by
 refine az (args := [.int .i64 (i : Int),.pointer (some ⟨bp,0,none⟩),.pointer (some ⟨bx,0,none⟩)]) (lent := prL pb A) (H := prD pb A c l 0 m) Tryz.func61 rfl Tryz.ntmps61 rfl (Sat.cx hP) ((show Tri _ [(0,_),(1,_),(2,_)] _ _ _ from ?_))
 have hP_ := hE.rp hV.pe
 have hX_ := hE.rx hV.pe
 obtain ⟨xC,xN,xR,xS,xI,xF,xO,hC,hN,hR_,hS,hW,hQ⟩ := id hA
 obtain ⟨ye,hci,hye⟩ := o7 hS i hi
 simp only [setT,cat,raw,List.length_append,List.length_cons,List.length_nil] at hb
 refine ae (bh (_) [(0,true),(1,true),(2,true),(3,true),(4,true),(5,true),(6,true),(7,false),(8,false)] [8] (by kernel_rfl) (by kernel_rfl) (fun _ h => h) (ai rfl (aK (A := some ⟨bp,0,none⟩) (kk := 0) bY rfl rfl (hP_ _ _ rfl rfl) rfl (ab ⟨rfl,ai rfl (aT (A := some ⟨bx,0,none⟩) (kk := 0) dR rfl rfl (hX_ _ _ rfl rfl) rfl (ab ⟨rfl,ai rfl (aK f3 rfl rfl (hX_ _ _ rfl rfl) rfl (ab ⟨rfl,ai rfl (ah rfl rfl (ab ⟨rfl,ai rfl (aS Tryz.underlying25 nw rfl rfl rfl (hS.rd hV.pe _ _ rfl rfl) (by omega) (by omega) hS.len (by decide) (ab ⟨rfl,ai rfl (aT lB rfl rfl (hS.rd hV.pe _ _ rfl rfl) (aR hci (j := 0) rfl) (ab ⟨rfl,ai rfl (aK bB rfl rfl (hS.rd hV.pe _ _ rfl rfl) (aR hci (j := 0) rfl) (ab ⟨rfl,(aN rfl (e0 (parts := [_,_]) (dY [(s.sets.getD i SetX.zero).n,[32,61,32]]) Tryz.underlying23 zs9 rfl rfl rfl rfl (by decide) (by decide) (fun b11 => ab ⟨rfl,fun _ _ h => Sat.dropS 1 h,(bH [8] [_] rfl rfl (aJ (pb := pb) [_] rfl rfl rfl rfl Tryz.call20 (fun w1 h1 h2 h3 => dm [(s.sets.getD i SetX.zero).n,[32,61,32]] _ _ pb _ _ _ _ _ w1 h2 (RdS.row .z w1 h1) (fun a ha => by cases ha; exact bk h1 (fun x hx => hx) rfl) (by (try simp only [List.length_append,List.length_cons,List.length_nil,List.flatten_cons,List.flatten_nil] at hb ⊢); omega) (by simp)) (fun A12 c12 => ab ⟨rfl,(ag (tri_slo [(0,_),(1,_),(2,_)] rfl (bh (_) [(0,true),(1,true),(2,true),(3,true),(4,true),(5,true),(6,true),(7,false)] [7] (by kernel_rfl) (by kernel_rfl) (fun _ h => h) (ai rfl (aK (A := some ⟨bp,0,none⟩) (kk := 0) bY rfl rfl (hP_ _ _ rfl rfl) rfl (ab ⟨rfl,ai rfl (aT (A := some ⟨bx,0,none⟩) (kk := 0) dR rfl rfl (hX_ _ _ rfl rfl) rfl (ab ⟨rfl,ai rfl (aK f3 rfl rfl (hX_ _ _ rfl rfl) rfl (ab ⟨rfl,ai rfl (ah rfl rfl (ab ⟨rfl,ai rfl (aS Tryz.underlying25 nw rfl rfl rfl (hS.rd hV.pe _ _ rfl rfl) (by omega) (by omega) hS.len (by decide) (ab ⟨rfl,ai rfl (aT pI rfl rfl (hS.rd hV.pe _ _ rfl rfl) (aR hci (j := 0) rfl) (ab ⟨rfl,ai rfl (bF bo ba rfl rfl (hS.rd hV.pe _ _ rfl rfl) (vs := bR ((s.sets.getD i SetX.zero).e) ye) (fX (p := [.string (B (s.sets.getD i SetX.zero).n)]) (cs := bR ((s.sets.getD i SetX.zero).e) ye) (r := []) hci) rfl (by decide) ?_)⟩))⟩))⟩))⟩))⟩))⟩))))))⟩)))⟩)))⟩))⟩))⟩))⟩))⟩))⟩))⟩)))); exact ab ⟨rfl,(bH [7] [_] rfl rfl (aJ (pb := pb) [_] rfl rfl rfl rfl Tryz.call26 (fun w1 h1 h2 h3 => oJ ((s.sets.getD i SetX.zero).e) (maySet_1 hmy) (ho) 1 bl ye pb _ _ _ _ _ w1 h2 (hV.sub (PSub.of h1 h3)) (hye.stab (hV.pe.st (PSub.of h1 h3))) (by omega) (by (try simp only [cat,raw,List.length_append,List.length_cons,List.length_nil,List.flatten_cons,List.flatten_nil] at hb ⊢); omega) (by (try simp only [List.length_append,List.length_cons,List.length_nil,List.flatten_cons,List.flatten_nil] at hb ⊢); omega)) (fun A20 c20 => ab ⟨rfl,(bP rfl (bC (J := Option Addr × Nat) (A20,c20) rfl trivial (fun w2 hw2 => bX (by simp [setT,cat,raw]) rfl (by simp only [setT,cat,raw]; omega) (hw2.sel [1,2] (by decide)))))⟩)))⟩
set_option maxHeartbeats 1000000 in
theorem othersK (s : StmtX) (y : Lay) (bl : List Nat) (pb : Nat) (A : Option Addr) (c : Nat) (l : List UInt8) (m : Int) (w : World) (hP : gq w pb A c l 0 m) (hm0 : 0 ≤ m) (hV : PV w (prL pb A) bl) (hA : SAt bl w s y) (hk6 : 6 ≤ s.k) (hmy : dX s = true) (hok : SOk s) (hb : l.length + (ew s).1.length ≤ 70368744177664) : Calls Tryz.prog 27 #[.pointer (some ⟨pb,0,none⟩),.agg (bS s y).toArray] w (PrT w pb A (l ++ (ew s).1) 0 (max m ((ew s).2 : Int))) := by
 refine az (args := [.pointer (some ⟨pb,0,none⟩),.agg (bS s y).toArray]) (lent := prL pb A) (H := prD pb A c l 0 m) Tryz.func27 rfl Tryz.ntmps27 rfl (Sat.cx hP) ((show Tri _ [(0,_),(1,_)] _ _ _ from ?_))
 obtain ⟨xC,xN,xR,xS,xI,xF,xO,hC,hN,hR_,hS,hW,hQ⟩ := id hA
 refine ae (aa (cA _ rfl rfl rfl (fun b2 => cA _ rfl rfl rfl (fun b3 => triL_nilN (ae (aa (aj em rfl rfl (ak bL N0 rfl rfl rfl (triL_nilN (ay (ae (aa (aE rfl rfl rfl (o_assignN rfl rfl (av rfl (fun q6 => ?_) (fun q6 => ?_))))))))))))))))
 · skip
   rw [st_6 q6] at hb ⊢
   simp only [cat,raw,List.length_append,List.length_cons,List.length_nil] at hb
   have hmw : iB s.wh = true := by rw [rY q6] at hmy; simp only [Bool.and_eq_true] at hmy; exact hmy.2
   exact ae (tri_slo [(3,_),(2,_)] rfl (aa (ak bY N1 rfl rfl rfl (aj cH rfl rfl (ak bB N0 rfl rfl rfl (e0 (parts := [_,_]) (dY [[100,101,108,101,116,101,32,102,114,111,109,32],s.t]) Tryz.underlying23 zs9 rfl rfl rfl rfl (by decide) (by decide) (fun b11 => aJ (pb := pb) [_,_,_] rfl rfl rfl rfl Tryz.call20 (fun w1 h1 h2 h3 => dm [[100,101,108,101,116,101,32,102,114,111,109,32],s.t] _ _ pb _ _ _ _ _ w1 h2 (RdS.row .z w1 h1) (fun a ha => by cases ha; exact bk h1 (fun x hx => (List.mem_cons_of_mem _ (List.mem_cons_of_mem _ hx))) rfl) (by (try simp only [List.length_append,List.length_cons,List.length_nil,List.flatten_cons,List.flatten_nil] at hb ⊢); omega) (by simp)) (fun A12 c12 => triL_nilN (tri_slo [(3,_),(2,_)] rfl (aa (ak bY N2 rfl rfl rfl (aj fv rfl rfl (aW bo ba (.s .z) rfl rfl (vs := bR s.wh y.W) rfl rfl (aJ (pb := pb) [_,_,_] rfl rfl rfl rfl Tryz.call60 (fun w1 h1 h2 h3 => pG s.wh y.W bl pb _ _ _ _ w1 h2 (by omega) (hV.sub (PSub.of h1 h3)) (hW.stab (hV.pe.st (PSub.of h1 h3))) hok.wh hmw (by (try simp only [List.length_append,List.length_cons,List.length_nil,List.flatten_cons,List.flatten_nil] at hb ⊢); omega)) (fun A16 c16 => ab (an (bP rfl (bC (J := Option Addr × Nat) (A16,c16) rfl trivial (fun w2 hw2 => bX (by simp [cat,raw]) rfl (by simp only [cat,raw]; omega) (hw2.sel [3,4] (by decide)))))))))))))))))))))
 · skip
   refine ae (tri_slo [(5,_),(3,_),(2,_)] rfl (aa (aE rfl rfl rfl (o_assignN rfl rfl (av rfl (fun q7 => ?_) (fun q7 => ?_))))))
   · skip
     rw [st_7 q7] at hb ⊢
     simp only [cat,raw,List.length_append,List.length_cons,List.length_nil] at hb
     rw [rZ q7] at hmy
     simp only [Bool.and_eq_true] at hmy
     obtain ⟨_,hmu,hmw,hma⟩ := hmy
     have hmu := s9 hmu
     have hms : ∀ i,i < s.sets.length → ic (s.sets.getD i SetX.zero) = true := fun i hi => iW hma hi
     exact ae (aa (ak bY N1 rfl rfl rfl (aj cH rfl rfl (ak bB N0 rfl rfl rfl (e0 (parts := [_,_,_]) (dY [[117,112,100,97,116,101,32],s.t,[32,115,101,116,32]]) Tryz.underlying23 zs9 rfl rfl rfl rfl (by decide) (by decide) (fun b22 => aJ (pb := pb) [_,_,_] rfl rfl rfl rfl Tryz.call20 (fun w1 h1 h2 h3 => dm [[117,112,100,97,116,101,32],s.t,[32,115,101,116,32]] _ _ pb _ _ _ _ _ w1 h2 (RdS.row .z w1 h1) (fun a ha => by cases ha; exact bk h1 (fun x hx => (List.mem_cons_of_mem _ (List.mem_cons_of_mem _ hx))) rfl) (by (try simp only [List.length_append,List.length_cons,List.length_nil,List.flatten_cons,List.flatten_nil] at hb ⊢); omega) (by simp)) (fun A23 c23 => triL_nilN (ae (tri_slo [(3,_),(2,_)] rfl (aa (ak bY N2 rfl rfl rfl (aj dR rfl rfl (ak f3 N1 rfl rfl rfl (aY Tryz.underlying25 rfl rfl (bD rfl rfl rfl (aJ (pb := pb) [_,_,_] rfl rfl rfl rfl Tryz.call21 (fun w1 h1 h2 h3 => hZ (fun i => setT (s.sets.getD i SetX.zero)) s.sets.length 61 [] [.pointer (some ⟨b2,0,none⟩),.pointer (some ⟨b3,0,none⟩)] pb _ _ _ _ w1 h2 (by omega) (by omega) (by (try simp only [List.length_append,List.length_cons,List.length_nil,List.flatten_cons,List.flatten_nil] at hb ⊢); omega) Tryz.call61 (fun i A1 c1 l1 m1 w2 hi hs hP1 hm1 hb1 => by have hce := cenv (F := [_,_,_]) hV.pe h1 (.s (.s .z)) (.s .z); have hPV : PV w1 _ _ := ⟨hce.1,(hV.lv.chgL h1.chg (fun k hk => (hV.pe.g k hk).2))⟩; have hA2 := (hA.stab (hV.pe.st (PSub.of h1 h3))).mono (bl' := b2 :: b3 :: bl) (fun k hk => List.mem_cons_of_mem _ (List.mem_cons_of_mem _ hk)); exact others1K s y (b2 :: b3 :: bl) b2 b3 i pb A1 c1 l1 m1 w2 hP1 hm1 (hPV.sub hs) (hce.2.stab (hce.1.st hs)) (hA2.stab (hce.1.st hs)) hi (hms i hi) (hok.sets i hi) hb1)) (fun A29 c29 => triL_nilN (tri_slo [(3,_),(2,_)] rfl (aa (ak bY N2 rfl rfl rfl (aj fv rfl rfl (aW bo ba (.s .z) rfl rfl (vs := bR s.wh y.W) rfl rfl (aJ (pb := pb) [_,_,_] rfl rfl rfl rfl Tryz.call60 (fun w1 h1 h2 h3 => pG s.wh y.W bl pb _ _ _ _ w1 h2 (by omega) (hV.sub (PSub.of h1 h3)) (hW.stab (hV.pe.st (PSub.of h1 h3))) hok.wh hmw (by (try simp only [List.length_append,List.length_cons,List.length_nil,List.flatten_cons,List.flatten_nil] at hb ⊢); omega)) (fun A33 c33 => ab (an (bP rfl (bC (J := Option Addr × Nat) (A33,c33) rfl trivial (fun w2 hw2 => bX (by simp [cat,raw]) rfl (by simp only [cat,raw]; omega) (hw2.sel [3,4] (by decide))))))))))))))))))))))))))))))
   · skip
     refine ae (aa (aE rfl rfl rfl (o_assignN rfl rfl (av rfl (fun q8 => ?_) (fun q8 => ?_)))))
     · skip
       rw [st_8 q8] at hb ⊢
       exact tri_slo [(3,_),(2,_)] rfl (aa (ak bY N1 rfl rfl rfl (aj jc rfl rfl (aW ny mb .z rfl rfl (vs := ey s.q y.q) rfl rfl (aJ (pb := pb) [_,_] rfl rfl rfl rfl Tryz.call62 (fun w1 h1 h2 h3 => cI s.q y.q bl pb _ _ _ _ w1 h2 (by omega) (hV.sub (PSub.of h1 h3)) (hA.q.stab (hV.pe.st (PSub.of h1 h3))) (by rw [r3 q8] at hmy; exact hmy) hok.q (by omega)) (fun A39 c39 => ab (an (bP rfl (bC (J := Option Addr × Nat) (A39,c39) rfl trivial (fun w2 hw2 => bX (by rfl) rfl (by rfl) (hw2.sel [2,3] (by decide))))))))))))
     · skip
       refine ae (tri_slo [(5,_),(2,_)] rfl (aa (aE rfl rfl rfl (o_assignN rfl rfl (av rfl (fun q9 => ?_) (fun q9 => ?_))))))
       · skip
         rw [st_9 q9] at hb ⊢
         simp only [raw,List.length_cons,List.length_nil] at hb
         exact aa (ak bY N1 rfl rfl rfl (bf Tryz.underlying23 zs9 rfl rfl rfl rfl rfl (by decide) (by decide) (fun b43 => aJ (pb := pb) [_,_,_] rfl rfl rfl rfl Tryz.call20 (fun w1 h1 h2 h3 => dm [[98,101,103,105,110]] _ _ pb _ _ _ _ _ w1 h2 (RdS.row .z w1 h1) (fun a ha => by cases ha; exact bk h1 (fun x hx => (List.mem_cons_of_mem _ (List.mem_cons_of_mem _ hx))) rfl) (by (try simp only [List.length_append,List.length_cons,List.length_nil,List.flatten_cons,List.flatten_nil] at hb ⊢); omega) (by simp)) (fun A44 c44 => ab (an (bP rfl (bC (J := Option Addr × Nat) (A44,c44) rfl trivial (fun w2 hw2 => bX (by simp [raw]) rfl (by simp only [raw]; omega) (hw2.sel [3,4] (by decide))))))))))
       · skip
         refine ae (aa (aE rfl rfl rfl (o_assignN rfl rfl (av rfl (fun q10 => ?_) (fun q10 => ?_)))))
         · skip
           rw [st_10 q10] at hb ⊢
           simp only [raw,List.length_cons,List.length_nil] at hb
           exact tri_slo [(2,_)] rfl (aa (ak bY N1 rfl rfl rfl (bf Tryz.underlying23 zs9 rfl rfl rfl rfl rfl (by decide) (by decide) (fun b48 => aJ (pb := pb) [_,_,_] rfl rfl rfl rfl Tryz.call20 (fun w1 h1 h2 h3 => dm [[99,111,109,109,105,116]] _ _ pb _ _ _ _ _ w1 h2 (RdS.row .z w1 h1) (fun a ha => by cases ha; exact bk h1 (fun x hx => (List.mem_cons_of_mem _ (List.mem_cons_of_mem _ hx))) rfl) (by (try simp only [List.length_append,List.length_cons,List.length_nil,List.flatten_cons,List.flatten_nil] at hb ⊢); omega) (by simp)) (fun A49 c49 => ab (an (bP rfl (bC (J := Option Addr × Nat) (A49,c49) rfl trivial (fun w2 hw2 => bX (by simp [raw]) rfl (by simp only [raw]; omega) (hw2.sel [3,4] (by decide)))))))))))
         · skip
           refine ae (tri_slo [(5,_),(2,_)] rfl (aa (aE rfl rfl rfl (o_assignN rfl rfl (av rfl (fun q11 => ?_) (fun q11 => ?_))))))
           · skip
             rw [st_11 q11] at hb ⊢
             simp only [raw,List.length_cons,List.length_nil] at hb
             exact aa (ak bY N1 rfl rfl rfl (bf Tryz.underlying23 zs9 rfl rfl rfl rfl rfl (by decide) (by decide) (fun b53 => aJ (pb := pb) [_,_,_] rfl rfl rfl rfl Tryz.call20 (fun w1 h1 h2 h3 => dm [[114,111,108,108,98,97,99,107]] _ _ pb _ _ _ _ _ w1 h2 (RdS.row .z w1 h1) (fun a ha => by cases ha; exact bk h1 (fun x hx => (List.mem_cons_of_mem _ (List.mem_cons_of_mem _ hx))) rfl) (by (try simp only [List.length_append,List.length_cons,List.length_nil,List.flatten_cons,List.flatten_nil] at hb ⊢); omega) (by simp)) (fun A54 c54 => ab (an (bP rfl (bC (J := Option Addr × Nat) (A54,c54) rfl trivial (fun w2 hw2 => bX (by simp [raw]) rfl (by simp only [raw]; omega) (hw2.sel [3,4] (by decide))))))))))
           · skip
             exfalso
             rw [pa (by omega)] at hmy
             have := of_decide_eq_true hmy
             omega
end Go.Proofs.YtjbpkcbefmpfgaaGreatDoor
namespace Go.Proofs.YtjbpkcbefmpfgaaGreatDoor
open Go.WK Go.RowKit 
set_option maxHeartbeats 1000000 in
theorem mayQK (q : QryX) (y : QLay) (bl : List Nat) (w : World) (hA : QAt bl w q y) (hbl : ∀ k ∈ bl,k < w.heap.size) (hok : QOk q) (hbd : QBd q) : Calls Tryz.prog 34 #[.agg (ey q y).toArray] w (cp w (.bool (mayQ q))) := by
 refine az (args := [.agg (ey q y).toArray]) (lent := []) (H := []) Tryz.func34 rfl Tryz.ntmps34 rfl (Sat.start _ _ _ _) ((show Tri _ [(0,_)] _ _ _ from ?_))
 obtain ⟨xI,xF,xO,hI,hF,hW,hO⟩ := id hA
 have n1 : q.items.length ≤ 70368744177664 := hbd.ni
 have n2 : q.from_.length ≤ 70368744177664 := hbd.nf
 have n3 : q.ord.length ≤ 70368744177664 := hbd.no
 refine ae (aa (cA _ rfl rfl rfl (fun b1 => o_assignN rfl rfl (ae (aa (aj ja rfl rfl (aW bo ba .z rfl rfl (vs := bR q.wh y.V) rfl rfl (aF (first := []) (cap := []) rfl rfl rfl Tryz.call33 (fun w1 h1 => sE q.wh y.V bl w1 (hW.stab (fun k hk => h1.chg.block k (hbl k hk) (by simp))) hok.wh hbd.wh (fun k hk => Nat.lt_of_lt_of_le (hbl k hk) h1.chg.size)) (ah rfl rfl ?_)))))))))
 refine' aI [_,_,_,_] [(1,_)] (dj := 13) (dr := 17) rfl rfl (fun g1 => ?_) ⟨_,rfl,rfl,rfl,(.cons rfl (.nil _))⟩ rfl ?_
 rotate_left
 · skip
   exact aj cV rfl rfl (ak ej N0 rfl rfl rfl (aY Tryz.underlying32 rfl rfl (gW rfl rfl rfl (ab (Piece.mk rfl rfl (.cons rfl (.nil _)) (fun _ h => h))))))
 refine ah rfl rfl ?_
 refine' aI [_,_,_,_] [(1,_)] (dj := 19) (dr := 23) rfl rfl (fun g2 => ?_) ⟨_,rfl,rfl,rfl,(.cons rfl (.nil _))⟩ rfl ?_
 rotate_left
 · skip
   exact aj eM rfl rfl (ak hM N0 rfl rfl rfl (aY Tryz.underlying33 rfl rfl (gW rfl rfl rfl (ab (Piece.mk rfl rfl (.cons rfl (.nil _)) (fun _ h => h))))))
 refine ah rfl rfl ?_
 refine' aI [_,_,_] [(1,_)] (dj := 25) (dr := 28) rfl rfl (fun g3 => ?_) ⟨_,rfl,rfl,rfl,(.cons rfl (.nil _))⟩ rfl ?_
 rotate_left
 · skip
   exact aj jF rfl rfl (ak bL N0 rfl rfl rfl (fO rfl rfl rfl (ab (Piece.mk rfl rfl (.cons rfl (.nil _)) (fun _ h => h)))))
 refine ah rfl rfl ?_
 refine' aI [_,_,_,_,_,_,_] [(1,_)] (dj := 30) (dr := 37) rfl rfl (fun g4 => ?_) ⟨_,rfl,rfl,rfl,(.cons rfl (.nil _))⟩ rfl ?_
 rotate_left
 · skip
   refine aj kl rfl rfl (ak gd N0 rfl rfl rfl (ah rfl rfl ?_))
   refine' aX [_,_,_] [(30,_),(1,_)] (dj := 33) (dr := 36) rfl rfl (fun g5 => ?_) ⟨_,rfl,rfl,rfl,(.cons rfl (.cons rfl (.nil _)))⟩ rfl ?_
   rotate_left
   · skip
     exact aj jF rfl rfl (ak bL N0 rfl rfl rfl (aE rfl rfl rfl (ab (Piece.mk rfl rfl (.cons rfl (.cons rfl (.nil _))) (fun _ h => h)))))
   exact ab (Piece.mk rfl rfl (.cons rfl (.nil _)) (fun _ h => h))
 refine o_assignN rfl rfl (co (ι := Nat) (fun i => [(1,.pointer (some ⟨b1,0,none⟩)),(3,.bool (mqA q && mqB q))]) (fun i => [box b1 35 (ey q y)]) (fun i => True) ?_ (fun i hj => ?_))
 · skip
   refine ae (aa (aj kh rfl rfl (ak gd N0 rfl rfl rfl (triL_nilN (aD rfl (fun q0 => ?_) (fun q0 => ?_))))))
   · skip
     refine aa (ah rfl rfl (ah rfl rfl ?_))
     refine' aI [_,_,_,_] [(3,_),(1,_)] (dj := 42) (dr := 46) rfl rfl (fun g6 => ?_) ⟨_,rfl,rfl,rfl,(.cons rfl (.cons rfl (.nil _)))⟩ rfl ?_
     rotate_left
     · skip
       exact aj dy rfl rfl (ak ft N0 rfl rfl rfl (aY Tryz.underlying31 rfl rfl (aE rfl rfl rfl (ab (Piece.mk rfl rfl (.cons rfl (.cons rfl (.nil _))) (fun _ h => h))))))
     exact o_assignN rfl rfl (⟨0,(.cons rfl (.cons (congrArg (fun b => some (Value.bool b)) (by unfold mqA mqB; rw [if_pos q0])) (.nil _))),fun _ h => h,trivial⟩)
   · skip
     refine aa (ah rfl rfl (ah rfl rfl ?_))
     refine' aI [_,_,_,_] [(3,_),(1,_)] (dj := 49) (dr := 53) rfl rfl (fun g7 => ?_) ⟨_,rfl,rfl,rfl,(.cons rfl (.cons rfl (.nil _)))⟩ rfl ?_
     rotate_left
     · skip
       exact aj dy rfl rfl (ak ft N0 rfl rfl rfl (aY Tryz.underlying31 rfl rfl (aF (first := []) (cap := []) rfl rfl rfl Tryz.call31 (fun w1 h1 => qU q.items.length 16 w1) (ab (Piece.mk rfl rfl (.cons rfl (.cons rfl (.nil _))) (fun _ h => h))))))
     exact o_assignN rfl rfl (⟨0,(.cons rfl (.cons (congrArg (fun b => some (Value.bool b)) (by unfold mqA mqB; rw [if_neg (cw q0)])) (.nil _))),fun _ h => h,trivial⟩)
 refine ae (ae (aa (aj dy rfl rfl (ak ft N0 rfl rfl rfl (aY Tryz.underlying31 rfl rfl (ah rfl rfl (triL_nilN (ay (bz (ι := Nat) (F := fun i => [(1,.pointer (some ⟨b1,0,none⟩)),(3,.bool ((mqA q && mqB q) && cy (fun i => kL (q.items.getD i ItemX.zero)) i)),(56,.slice y.I.A q.items.length y.I.k),(57,.int .i64 (q.items.length : Int)),(58,.int .i64 (i : Int))]) (HH := fun i => [box b1 35 (ey q y)]) (Pu := fun i => i ≤ q.items.length) (μ := fun i => q.items.length - i) (0) (.cons rfl (.cons (congrArg (fun b => some (Value.bool b)) (by simp [cy])) (.cons rfl (.cons rfl (.cons rfl (.nil _)))))) (fun _ h => h) (Nat.zero_le _) (fun i hi => ae (aa (cg rfl rfl rfl (triL_nilN (ae (av rfl (fun q1 => ?_) (fun q1 => ?_))))))))))))))))
 · skip
   have hil : i < q.items.length := by omega
   refine ao (ag (ae (ay (ae ?_))))
   obtain ⟨ye,hci,hye⟩ := mg hI i hil
   refine aa (aS Tryz.underlying31 kU rfl rfl rfl (hI.rd0 _ _ rfl rfl) (by omega) (by omega) hI.len (by decide) (bF agg53 kU rfl rfl (hI.rd0 _ _ rfl rfl) (vs := bR (q.items.getD i ItemX.zero).e ye ++ [Value.string (B (q.items.getD i ItemX.zero).s)]) hci rfl (by decide) (aP _ rfl zero53 rfl (fun b5 => aB kU N0 rfl rfl rfl rfl rfl (Nat.le_of_ble_eq_true rfl) rfl (triL_nilN (aa (ah rfl rfl (ah rfl rfl ?_))))))))
   refine' aI [_,_,_] [(5,_),(1,_),(3,_),(56,_),(57,_),(58,_)] (dj := 63) (dr := 66) rfl rfl (fun g8 => ?_) ⟨_,rfl,rfl,rfl,(.cons rfl (.cons rfl (.cons rfl (.cons rfl (.cons rfl (.cons rfl (.nil _)))))))⟩ rfl ?_
   rotate_left
   · skip
     exact aj pH rfl rfl (aW bo ba .z rfl rfl (vs := bR (q.items.getD i ItemX.zero).e ye) rfl rfl (aF (first := []) (cap := []) rfl rfl rfl Tryz.call32 (fun w1 h1 => oI (q.items.getD i ItemX.zero).e bl ye w1 (hye.stab (fun k hk => h1.chg.block k (hbl k hk) (by simp))) (hok.items i hil) (hbd.items i hil).1) (ab (Piece.mk rfl rfl (.cons rfl (.cons rfl (.cons rfl (.cons rfl (.cons rfl (.cons rfl (.nil _))))))) (fun _ h => h)))))
   refine ah rfl rfl ?_
   refine' aI [_,_,_,_,_,_,_,_] [(1,_),(3,_),(56,_),(57,_),(58,_)] (dj := 68) (dr := 76) rfl rfl (fun g9 => ?_) ⟨_,rfl,rfl,rfl,(.cons rfl (.cons rfl (.cons rfl (.cons rfl (.cons rfl (.nil _))))))⟩ rfl ?_
   rotate_left
   · skip
     refine aj jD rfl rfl (ak bB N0 rfl rfl rfl (bE rfl rfl rfl (ah rfl rfl ?_)))
     refine' aX [_,_,_] [(68,_),(1,_),(3,_),(56,_),(57,_),(58,_)] (dj := 72) (dr := 75) rfl rfl (fun g10 => ?_) ⟨_,rfl,rfl,rfl,(.cons rfl (.cons rfl (.cons rfl (.cons rfl (.cons rfl (.cons rfl (.nil _)))))))⟩ rfl ?_
     rotate_left
     · skip
       exact aj jD rfl rfl (ak bB N0 rfl rfl rfl (aF (first := []) (cap := []) rfl rfl rfl Tryz.call30 (fun w1 h1 => eo (q.items.getD i ItemX.zero).s w1 (hbd.items i hil).2) (ab (Piece.mk rfl rfl (.cons rfl (.cons rfl (.cons rfl (.cons rfl (.cons rfl (.cons rfl (.nil _))))))) (fun _ h => h)))))
     exact ab (Piece.mk rfl rfl (.cons rfl (.cons rfl (.cons rfl (.cons rfl (.cons rfl (.nil _)))))) (fun _ h => h))
   exact aH rfl rfl (ab (an (ag (aa (bn rfl rfl rfl (by omega) (ah rfl rfl (triL_nilN (⟨i + 1,(.cons rfl (.cons (congrArg (fun b => some (Value.bool b)) (by exact uz (mqA q && mqB q) (fun i => q.items.getD i ItemX.zero) i)) (.cons rfl (.cons rfl (.cons rfl (.nil _)))))),(fun w2 hw2 => hw2.tail),by omega,by omega⟩))))))))
 · skip
   have hie : i = q.items.length := by omega
   rw [hie]
   refine aZ (aw (aw (aL (ag (ae (ae (tri_slo [(1,_),(3,_)] rfl (aa (aj cV rfl rfl (ak ej N0 rfl rfl rfl (aY Tryz.underlying32 rfl rfl (ah rfl rfl (triL_nilN (ay (bz (ι := Nat) (F := fun i => [(1,.pointer (some ⟨b1,0,none⟩)),(3,.bool (((mqA q && mqB q) && cy (fun i => kL (q.items.getD i ItemX.zero)) q.items.length) && cy (fun i => mT i (q.from_.getD i SrcX.zero)) i)),(80,.slice y.F.A q.from_.length y.F.k),(81,.int .i64 (q.from_.length : Int)),(82,.int .i64 (i : Int))]) (HH := fun i => [box b1 35 (ey q y)]) (Pu := fun i => i ≤ q.from_.length) (μ := fun i => q.from_.length - i) (0) (.cons rfl (.cons (congrArg (fun b => some (Value.bool b)) (by simp [cy])) (.cons rfl (.cons rfl (.cons rfl (.nil _)))))) (fun _ h => h) (Nat.zero_le _) (fun i hi => ae (aa (cg rfl rfl rfl (triL_nilN (ae (av rfl (fun q2 => ?_) (fun q2 => ?_))))))))))))))))))))))
   · skip
     have hil : i < q.from_.length := by omega
     refine ao (ag (ae (ay (ae ?_))))
     obtain ⟨ye,hci,hye⟩ := o6 hF i hil
     refine aa (ah rfl rfl (aS Tryz.underlying32 fI rfl rfl rfl (hF.rd0 _ _ rfl rfl) (by omega) (by omega) hF.len (by decide) (bF nl fI rfl rfl (hF.rd0 _ _ rfl rfl) (vs := Value.string (B (q.from_.getD i SrcX.zero).t) :: Value.string (B (q.from_.getD i SrcX.zero).s) :: bR (q.from_.getD i SrcX.zero).e ye) hci rfl (by decide) (aP _ rfl nk rfl (fun b7 => aH rfl rfl (aB fI N0 rfl rfl rfl rfl rfl (Nat.le_of_ble_eq_true rfl) rfl (triL_nilN (tri_slo [(6,_),(7,_),(1,_),(3,_),(80,_),(81,_),(82,_)] rfl (aa (ah rfl rfl (ah rfl rfl ?_)))))))))))
     refine' aI [_,_,_] [(6,_),(7,_),(1,_),(3,_),(80,_),(81,_),(82,_)] (dj := 88) (dr := 91) rfl rfl (fun g11 => ?_) ⟨_,rfl,rfl,rfl,(.cons rfl (.cons rfl (.cons rfl (.cons rfl (.cons rfl (.cons rfl (.cons rfl (.nil _))))))))⟩ rfl ?_
     rotate_left
     · skip
       exact aj jG rfl rfl (ak bB N0 rfl rfl rfl (aF (first := []) (cap := []) rfl rfl rfl Tryz.call30 (fun w1 h1 => eo (q.from_.getD i SrcX.zero).t w1 (hbd.from_ i hil).2.1) (ab (Piece.mk rfl rfl (.cons rfl (.cons rfl (.cons rfl (.cons rfl (.cons rfl (.cons rfl (.cons rfl (.nil _)))))))) (fun _ h => h)))))
     refine ah rfl rfl ?_
     refine' aI [_,_,_,_,_,_,_,_] [(6,_),(7,_),(1,_),(3,_),(80,_),(81,_),(82,_)] (dj := 93) (dr := 101) rfl rfl (fun g12 => ?_) ⟨_,rfl,rfl,rfl,(.cons rfl (.cons rfl (.cons rfl (.cons rfl (.cons rfl (.cons rfl (.cons rfl (.nil _))))))))⟩ rfl ?_
     rotate_left
     · skip
       refine aj jC rfl rfl (ak bB N0 rfl rfl rfl (bE rfl rfl rfl (ah rfl rfl ?_)))
       refine' aX [_,_,_] [(93,_),(6,_),(7,_),(1,_),(3,_),(80,_),(81,_),(82,_)] (dj := 97) (dr := 100) rfl rfl (fun g13 => ?_) ⟨_,rfl,rfl,rfl,(.cons rfl (.cons rfl (.cons rfl (.cons rfl (.cons rfl (.cons rfl (.cons rfl (.cons rfl (.nil _)))))))))⟩ rfl ?_
       rotate_left
       · skip
         exact aj jC rfl rfl (ak bB N0 rfl rfl rfl (aF (first := []) (cap := []) rfl rfl rfl Tryz.call30 (fun w1 h1 => eo (q.from_.getD i SrcX.zero).s w1 (hbd.from_ i hil).2.2) (ab (Piece.mk rfl rfl (.cons rfl (.cons rfl (.cons rfl (.cons rfl (.cons rfl (.cons rfl (.cons rfl (.cons rfl (.nil _))))))))) (fun _ h => h)))))
       exact ab (Piece.mk rfl rfl (.cons rfl (.cons rfl (.cons rfl (.cons rfl (.cons rfl (.cons rfl (.cons rfl (.nil _)))))))) (fun _ h => h))
     refine ah rfl rfl ?_
     refine' aI [_,_,_,_,_,_,_,_,_,_,_,_,_,_,_,_] [(1,_),(3,_),(80,_),(81,_),(82,_)] (dj := 103) (dr := 119) rfl rfl (fun g14 => ?_) ⟨_,rfl,rfl,rfl,(.cons rfl (.cons rfl (.cons rfl (.cons rfl (.cons rfl (.nil _))))))⟩ rfl ?_
     rotate_left
     · skip
       refine ah rfl rfl (aE rfl rfl rfl (ah rfl rfl ?_))
       refine' aI [_,_,_] [(103,_),(6,_),(7,_),(1,_),(3,_),(80,_),(81,_),(82,_)] (dj := 106) (dr := 109) rfl rfl (fun g15 => ?_) ⟨_,rfl,rfl,rfl,(.cons rfl (.cons rfl (.cons rfl (.cons rfl (.cons rfl (.cons rfl (.cons rfl (.cons rfl (.nil _)))))))))⟩ rfl ?_
       rotate_left
       · skip
         exact aj lz rfl rfl (aW bo ba .z rfl rfl (vs := bR (q.from_.getD i SrcX.zero).e ye) rfl rfl (aF (first := []) (cap := []) rfl rfl rfl Tryz.call72 (fun w1 h1 => pF (q.from_.getD i SrcX.zero).e ye w1) (ab (Piece.mk rfl rfl (.cons rfl (.cons rfl (.cons rfl (.cons rfl (.cons rfl (.cons rfl (.cons rfl (.cons rfl (.nil _))))))))) (fun _ h => h)))))
       refine ah rfl rfl ?_
       refine' aX [_,_,_,_,_,_,_] [(103,_),(1,_),(3,_),(80,_),(81,_),(82,_)] (dj := 111) (dr := 118) rfl rfl (fun g16 => ?_) ⟨_,rfl,rfl,rfl,(.cons rfl (.cons rfl (.cons rfl (.cons rfl (.cons rfl (.cons rfl (.nil _)))))))⟩ rfl ?_
       rotate_left
       · skip
         refine ah rfl rfl (eV rfl rfl rfl (ah rfl rfl ?_))
         refine' aI [_,_,_] [(111,_),(103,_),(1,_),(3,_),(80,_),(81,_),(82,_)] (dj := 114) (dr := 117) rfl rfl (fun g17 => ?_) ⟨_,rfl,rfl,rfl,(.cons rfl (.cons rfl (.cons rfl (.cons rfl (.cons rfl (.cons rfl (.cons rfl (.nil _))))))))⟩ rfl ?_
         rotate_left
         · skip
           exact aj lz rfl rfl (aW bo ba .z rfl rfl (vs := bR (q.from_.getD i SrcX.zero).e ye) rfl rfl (aF (first := []) (cap := []) rfl rfl rfl Tryz.call32 (fun w1 h1 => oI (q.from_.getD i SrcX.zero).e bl ye w1 (hye.stab (fun k hk => h1.chg.block k (hbl k hk) (by simp))) (hok.from_ i hil) (hbd.from_ i hil).1) (ab (Piece.mk rfl rfl (.cons rfl (.cons rfl (.cons rfl (.cons rfl (.cons rfl (.cons rfl (.cons rfl (.nil _)))))))) (fun _ h => h)))))
         exact ab (Piece.mk rfl rfl (.cons rfl (.cons rfl (.cons rfl (.cons rfl (.cons rfl (.cons rfl (.nil _))))))) (fun _ h => h))
       exact ab (Piece.mk rfl rfl (.cons rfl (.cons rfl (.cons rfl (.cons rfl (.cons rfl (.nil _)))))) (fun _ h => h))
     exact aH rfl rfl (ab (an (ag (aa (bn rfl rfl rfl (by omega) (ah rfl rfl (triL_nilN (⟨i + 1,(.cons rfl (.cons (congrArg (fun b => some (Value.bool b)) (by exact uA ((mqA q && mqB q) && cy (fun i => kL (q.items.getD i ItemX.zero)) q.items.length) (fun i => q.from_.getD i SrcX.zero) i)) (.cons rfl (.cons rfl (.cons rfl (.nil _)))))),(fun w2 hw2 => hw2.tail),by omega,by omega⟩))))))))
   · skip
     have hie : i = q.from_.length := by omega
     rw [hie]
     refine aZ (aw (aw (aL (ag (ae (ae (tri_slo [(1,_),(3,_)] rfl (aa (aj eM rfl rfl (ak hM N0 rfl rfl rfl (aY Tryz.underlying33 rfl rfl (ah rfl rfl (triL_nilN (ay (bz (ι := Nat) (F := fun i => [(3,.bool ((((mqA q && mqB q) && cy (fun i => kL (q.items.getD i ItemX.zero)) q.items.length) && cy (fun i => mT i (q.from_.getD i SrcX.zero)) q.from_.length) && cy (fun i => nameOk (q.ord.getD i OrdX.zero).n) i)),(123,.slice y.O.A q.ord.length y.O.k),(124,.int .i64 (q.ord.length : Int)),(125,.int .i64 (i : Int))]) (HH := fun i => [box b1 35 (ey q y)]) (Pu := fun i => i ≤ q.ord.length) (μ := fun i => q.ord.length - i) (0) (.cons (congrArg (fun b => some (Value.bool b)) (by simp [cy])) (.cons rfl (.cons rfl (.cons rfl (.nil _))))) (fun _ h => h) (Nat.zero_le _) (fun i hi => ae (aa (cg rfl rfl rfl (triL_nilN (ae (av rfl (fun q3 => ?_) (fun q3 => ?_))))))))))))))))))))))
     · skip
       have hil : i < q.ord.length := by omega
       refine ao (ag (ae (ay (ae ?_))))
       have hci := o9 hO i hil
       refine aa (aS Tryz.underlying33 jE rfl rfl rfl (hO.rd0 _ _ rfl rfl) (by omega) (by omega) hO.len (by decide) (bF pu jE rfl rfl (hO.rd0 _ _ rfl rfl) (vs := [Value.string (B (q.ord.getD i OrdX.zero).n),Value.bool (q.ord.getD i OrdX.zero).b]) hci rfl (by decide) (aP _ rfl tG rfl (fun b9 => aB jE N0 rfl rfl rfl rfl rfl (Nat.le_of_ble_eq_true rfl) rfl (triL_nilN (aa (ah rfl rfl (ah rfl rfl ?_))))))))
       refine' aI [_,_,_] [(3,_),(123,_),(124,_),(125,_)] (dj := 130) (dr := 133) rfl rfl (fun g18 => ?_) ⟨_,rfl,rfl,rfl,(.cons rfl (.cons rfl (.cons rfl (.cons rfl (.nil _)))))⟩ rfl ?_
       rotate_left
       · skip
         exact aj tT rfl rfl (ak bB N0 rfl rfl rfl (aF (first := []) (cap := []) rfl rfl rfl Tryz.call30 (fun w1 h1 => eo (q.ord.getD i OrdX.zero).n w1 (hbd.ord i hil)) (ab (Piece.mk rfl rfl (.cons rfl (.cons rfl (.cons rfl (.cons rfl (.nil _))))) (fun _ h => h)))))
       exact aH rfl rfl (ab (an (ag (aa (bn rfl rfl rfl (by omega) (ah rfl rfl (triL_nilN (⟨i + 1,(.cons (congrArg (fun b => some (Value.bool b)) (by exact od (((mqA q && mqB q) && cy (fun i => kL (q.items.getD i ItemX.zero)) q.items.length) && cy (fun i => mT i (q.from_.getD i SrcX.zero)) q.from_.length) (fun i => (q.ord.getD i OrdX.zero).n) i)) (.cons rfl (.cons rfl (.cons rfl (.nil _))))),(fun w2 hw2 => hw2.tail),by omega,by omega⟩))))))))
     · skip
       have hie : i = q.ord.length := by omega
       rw [hie]
       refine aZ (aw (aw (aL (ag (ae (tri_slo [(3,_)] rfl (aa (ah rfl rfl (o_assignN rfl rfl (aq (bb rfl rfl ?_))))))))))); exact fun w1 hw1 => ⟨congrArg (fun b => Ending.returned (.bool b)) (by exact mayQ_eq q),hw1.chg⟩
end Go.Proofs.YtjbpkcbefmpfgaaGreatDoor
namespace Go.Proofs.YtjbpkcbefmpfgaaGreatDoor
open Go.WK Go.RowKit 
theorem pJ : (Tryz.prog.info? 35).map (·.zero) = some (some (.agg #[.bool false,.bool false,.slice none 0 0,.slice none 0 0,.int .i64 0,.int .i64 0,.int .i64 0,.string .empty,.string .empty,.string .empty,.int .i64 0,.slice none 0 0,.slice none 0 0,.bool false,.int .i64 0])) := by kernel_rfl
theorem fJ : br Tryz.prog 37 2 = some 2 := by kernel_rfl
theorem kn : br Tryz.prog 37 5 = some 5 := by kernel_rfl
theorem sz22 : szB Tryz.prog 22 = some 1 := by kernel_rfl
theorem sz23 : szB Tryz.prog 23 = some 1 := by kernel_rfl
theorem sz24 : szB Tryz.prog 24 = some 1 := by kernel_rfl
theorem sz25 : szB Tryz.prog 25 = some 1 := by kernel_rfl
theorem agg82 : cv Tryz.prog 82 = some true := by kernel_rfl
theorem uR (x0 : Int) : Tryz.prog.built 37 [(0,.int .i64 x0)] = some ([.int .i64 x0,.string .empty,.string .empty,.slice none 0 0,.slice none 0 0,.bool false,.slice none 0 0,.slice none 0 0,.int .i64 0,.int .i64 0,.int .i64 0,.string .empty,.string .empty,.string .empty,.int .i64 0,.slice none 0 0,.bool false,.bool false,.slice none 0 0,.slice none 0 0,.int .i64 0,.int .i64 0,.int .i64 0,.string .empty,.string .empty,.string .empty,.int .i64 0,.slice none 0 0,.slice none 0 0,.bool false,.int .i64 0] : List Value).toArray := by kernel_rfl
theorem zero82 : (Tryz.prog.info? 82).map (·.zero) = some (some (.agg #[.string .empty,.int .i64 0,.int .i64 0,.int .i64 0,.string .empty,.string .empty,.string .empty,.int .i64 0,.slice none 0 0])) := by kernel_rfl
set_option maxRecDepth 100000 in
set_option maxHeartbeats 1000000 in
theorem restK (s t : StmtX) (y z : Lay) (w : World)  : Calls Tryz.prog 35 #[.agg (bS s y).toArray,.agg (bS t z).toArray] w (cp w (.bool (restB s t))) := by
 refine az (args := [.agg (bS s y).toArray,.agg (bS t z).toArray]) (lent := []) (H := []) Tryz.func35 rfl Tryz.ntmps35 rfl (Sat.start _ _ _ _) ((show Tri _ [(0,_),(1,_)] _ _ _ from ae (aa (cA _ rfl rfl rfl (fun b2 => cA _ rfl rfl rfl (fun b3 => o_assignN rfl rfl (ae (Tri.mono (Q := fun e fs' H' => e = .normal ∧ ∃ b5 b6 : Nat,Sub fs' [(2,.pointer (some ⟨b2,0,none⟩)),(3,.pointer (some ⟨b3,0,none⟩)),(5,.pointer (some ⟨b5,0,none⟩)),(6,.pointer (some ⟨b6,0,none⟩))] ∧ ∀ w2,Sat ⟨Tryz.prog,161,[],w,[]⟩ H' w2 → Sat ⟨Tryz.prog,161,[],w,[]⟩ [box b5 35 (ey s.q y.q),box b6 35 (ey t.q z.q),box b3 37 (bS t z),box b2 37 (bS s y)] w2) ?_ (fun e fs1 H1 hq => ?_)))))))))
 · skip
   refine mW [box b3 37 (bS t z),box b2 37 (bS s y)] (.fix 0 (.fix 1 (.fix 2 (.fix 3 (.two 4 5 (.op 5 (.op 6 (.op 7 .nil))) (.op 4 (.op 6 (.op 7 .nil)))))))) (by kernel_rfl) (by kernel_rfl) (fun _ h => h) (fY rfl (aj jc rfl rfl (ab ⟨rfl,(fY rfl (aW ny mb (.s .z) rfl rfl (vs := ey s.q y.q) rfl rfl (ab ⟨rfl,(fY rfl (aj jc rfl rfl (ab ⟨rfl,(fY rfl (aW ny mb .z rfl rfl (vs := ey t.q z.q) rfl rfl (ab ⟨rfl,(gN rfl rfl ?_ ?_)⟩)))⟩)))⟩)))⟩)))
   · skip
     exact aP _ rfl pJ rfl (fun b5 => ab ⟨rfl,fun _ h => Sat.dropS 1 h,(dc rfl (aP _ rfl pJ rfl (fun b6 => ab ⟨rfl,fun _ h => Sat.dropS 2 h,(dc rfl (aB mb (.s .z) rfl rfl rfl rfl rfl (Nat.le_of_ble_eq_true rfl) rfl (ab ⟨rfl,fun _ h => Sat.dropS 2 h,(dc rfl (aB mb .z rfl rfl rfl rfl rfl (Nat.le_of_ble_eq_true rfl) rfl (ab ⟨rfl,fun _ h => Sat.dropS 2 h,(fi ⟨rfl,b5,b6,(.cons rfl (.cons rfl (.cons rfl (.cons rfl (.nil _))))),fun w2 hw2 => hw2.sel [1,0,2,3] (by decide)⟩)⟩)))⟩)))⟩)))⟩)
   · skip
     exact aP _ rfl pJ rfl (fun b6 => ab ⟨rfl,fun _ h => Sat.dropS 1 h,(dc rfl (aP _ rfl pJ rfl (fun b5 => ab ⟨rfl,fun _ h => Sat.dropS 2 h,(dc rfl (aB mb .z rfl rfl rfl rfl rfl (Nat.le_of_ble_eq_true rfl) rfl (ab ⟨rfl,fun _ h => Sat.dropS 2 h,(dc rfl (aB mb (.s .z) rfl rfl rfl rfl rfl (Nat.le_of_ble_eq_true rfl) rfl (ab ⟨rfl,fun _ h => Sat.dropS 2 h,(fi ⟨rfl,b5,b6,(.cons rfl (.cons rfl (.cons rfl (.cons rfl (.nil _))))),fun w2 hw2 => hw2.sel [0,1,2,3] (by decide)⟩)⟩)))⟩)))⟩)))⟩)
 obtain ⟨rfl,b5,b6,hsub,hheap⟩ := hq
 refine ag (ae (Tri.sub hsub (Tri.heap hheap (aa (aj cH rfl rfl (ak bB N3 rfl rfl rfl (aj cH rfl rfl (ak bB N2 rfl rfl rfl (bE rfl rfl rfl (ah rfl rfl ?_))))))))))
 refine' aI [_,_,_,_,_] [(2,_),(3,_),(5,_),(6,_)] (dj := 16) (dr := 21) rfl rfl (fun g1 => ?_) ⟨_,rfl,rfl,rfl,(.cons rfl (.cons rfl (.cons rfl (.cons rfl (.nil _)))))⟩ rfl ?_
 rotate_left
 · skip
   exact aj fJ rfl rfl (ak bB N3 rfl rfl rfl (aj fJ rfl rfl (ak bB N2 rfl rfl rfl (bE rfl rfl rfl (ab (Piece.mk rfl rfl (.cons rfl (.cons rfl (.cons rfl (.cons rfl (.nil _))))) (fun _ h => h)))))))
 refine ah rfl rfl ?_
 refine' aI [_,_,_,_,_,_,_] [(2,_),(3,_),(5,_),(6,_)] (dj := 23) (dr := 30) rfl rfl (fun g2 => ?_) ⟨_,rfl,rfl,rfl,(.cons rfl (.cons rfl (.cons rfl (.cons rfl (.nil _)))))⟩ rfl ?_
 rotate_left
 · skip
   exact aj ii rfl rfl (ak kV N3 rfl rfl rfl (aY Tryz.underlying22 rfl rfl (aj ii rfl rfl (ak kV N2 rfl rfl rfl (aY Tryz.underlying22 rfl rfl (aE rfl rfl rfl (ab (Piece.mk rfl rfl (.cons rfl (.cons rfl (.cons rfl (.cons rfl (.nil _))))) (fun _ h => h)))))))))
 refine ah rfl rfl ?_
 refine' aI [_,_,_,_,_,_,_] [(2,_),(3,_),(5,_),(6,_)] (dj := 32) (dr := 39) rfl rfl (fun g3 => ?_) ⟨_,rfl,rfl,rfl,(.cons rfl (.cons rfl (.cons rfl (.cons rfl (.nil _)))))⟩ rfl ?_
 rotate_left
 · skip
   exact aj gT rfl rfl (ak j6 N3 rfl rfl rfl (aY Tryz.underlying23 rfl rfl (aj gT rfl rfl (ak j6 N2 rfl rfl rfl (aY Tryz.underlying23 rfl rfl (aE rfl rfl rfl (ab (Piece.mk rfl rfl (.cons rfl (.cons rfl (.cons rfl (.cons rfl (.nil _))))) (fun _ h => h)))))))))
 refine ah rfl rfl ?_
 refine' aI [_,_,_,_,_] [(2,_),(3,_),(5,_),(6,_)] (dj := 41) (dr := 46) rfl rfl (fun g4 => ?_) ⟨_,rfl,rfl,rfl,(.cons rfl (.cons rfl (.cons rfl (.cons rfl (.nil _)))))⟩ rfl ?_
 rotate_left
 · skip
   exact aj kn rfl rfl (ak gd N3 rfl rfl rfl (aj kn rfl rfl (ak gd N2 rfl rfl rfl (oM rfl Tryz.underlying4 rfl rfl (ab (Piece.mk rfl rfl (.cons rfl (.cons rfl (.cons rfl (.cons rfl (.nil _))))) (fun _ h => h)))))))
 refine ah rfl rfl ?_
 refine' aI [_,_,_,_,_,_,_] [(2,_),(3,_),(5,_),(6,_)] (dj := 48) (dr := 55) rfl rfl (fun g5 => ?_) ⟨_,rfl,rfl,rfl,(.cons rfl (.cons rfl (.cons rfl (.cons rfl (.nil _)))))⟩ rfl ?_
 rotate_left
 · skip
   exact aj fu rfl rfl (ak iE N3 rfl rfl rfl (aY Tryz.underlying24 rfl rfl (aj fu rfl rfl (ak iE N2 rfl rfl rfl (aY Tryz.underlying24 rfl rfl (aE rfl rfl rfl (ab (Piece.mk rfl rfl (.cons rfl (.cons rfl (.cons rfl (.cons rfl (.nil _))))) (fun _ h => h)))))))))
 refine ah rfl rfl ?_
 refine' aI [_,_,_,_,_,_,_] [(2,_),(3,_),(5,_),(6,_)] (dj := 57) (dr := 64) rfl rfl (fun g6 => ?_) ⟨_,rfl,rfl,rfl,(.cons rfl (.cons rfl (.cons rfl (.cons rfl (.nil _)))))⟩ rfl ?_
 rotate_left
 · skip
   exact aj dR rfl rfl (ak f3 N3 rfl rfl rfl (aY Tryz.underlying25 rfl rfl (aj dR rfl rfl (ak f3 N2 rfl rfl rfl (aY Tryz.underlying25 rfl rfl (aE rfl rfl rfl (ab (Piece.mk rfl rfl (.cons rfl (.cons rfl (.cons rfl (.cons rfl (.nil _))))) (fun _ h => h)))))))))
 refine ah rfl rfl ?_
 refine' aI [_,_,_,_,_,_,_,_,_,_,_,_,_,_,_,_,_,_] [(5,_),(6,_)] (dj := 66) (dr := 84) rfl rfl (fun g7 => ?_) ⟨_,rfl,rfl,rfl,(.cons rfl (.cons rfl (.nil _)))⟩ rfl ?_
 rotate_left
 · skip
   refine aj fv rfl rfl (aj cW rfl rfl (ak bL N3 rfl rfl rfl (aj fv rfl rfl (aj cW rfl rfl (ak bL N2 rfl rfl rfl (aE rfl rfl rfl (ah rfl rfl ?_)))))))
   refine' aI [_,_,_,_,_,_,_,_,_] [(66,_),(5,_),(6,_)] (dj := 74) (dr := 83) rfl rfl (fun g8 => ?_) ⟨_,rfl,rfl,rfl,(.cons rfl (.cons rfl (.cons rfl (.nil _))))⟩ rfl ?_
   rotate_left
   · skip
     refine aj fv rfl rfl (aj cW rfl rfl (ak bL N2 rfl rfl rfl (cK rfl rfl rfl (ah rfl rfl ?_))))
     refine' aX [_,_,_] [(74,_),(66,_),(5,_),(6,_)] (dj := 79) (dr := 82) rfl rfl (fun g9 => ?_) ⟨_,rfl,rfl,rfl,(.cons rfl (.cons rfl (.cons rfl (.cons rfl (.nil _)))))⟩ rfl ?_
     rotate_left
     · skip
       exact aj fv rfl rfl (aW bo ba (.s (.s (.s .z))) rfl rfl (vs := bR s.wh y.W) rfl rfl (aF (first := []) (cap := []) rfl rfl rfl Tryz.call72 (fun w1 h1 => pF s.wh y.W w1) (ab (Piece.mk rfl rfl (.cons rfl (.cons rfl (.cons rfl (.cons rfl (.nil _))))) (fun _ h => h)))))
     exact ab (Piece.mk rfl rfl (.cons rfl (.cons rfl (.cons rfl (.nil _)))) (fun _ h => h))
   exact ab (Piece.mk rfl rfl (.cons rfl (.cons rfl (.nil _))) (fun _ h => h))
 refine ah rfl rfl ?_
 refine' aI [_,_,_,_,_] [(5,_),(6,_)] (dj := 86) (dr := 91) rfl rfl (fun g10 => ?_) ⟨_,rfl,rfl,rfl,(.cons rfl (.cons rfl (.nil _)))⟩ rfl ?_
 rotate_left
 · skip
   exact aj ly rfl rfl (ak gd N0 rfl rfl rfl (aj ly rfl rfl (ak gd N1 rfl rfl rfl (oM rfl Tryz.underlying4 rfl rfl (ab (Piece.mk rfl rfl (.cons rfl (.cons rfl (.nil _))) (fun _ h => h)))))))
 refine ah rfl rfl ?_
 refine' aI [_,_,_,_,_] [(5,_),(6,_)] (dj := 93) (dr := 98) rfl rfl (fun g11 => ?_) ⟨_,rfl,rfl,rfl,(.cons rfl (.cons rfl (.nil _)))⟩ rfl ?_
 rotate_left
 · skip
   exact aj kh rfl rfl (ak gd N0 rfl rfl rfl (aj kh rfl rfl (ak gd N1 rfl rfl rfl (oM rfl Tryz.underlying4 rfl rfl (ab (Piece.mk rfl rfl (.cons rfl (.cons rfl (.nil _))) (fun _ h => h)))))))
 refine ah rfl rfl ?_
 refine' aI [_,_,_,_,_,_,_] [(5,_),(6,_)] (dj := 100) (dr := 107) rfl rfl (fun g12 => ?_) ⟨_,rfl,rfl,rfl,(.cons rfl (.cons rfl (.nil _)))⟩ rfl ?_
 rotate_left
 · skip
   exact aj dy rfl rfl (ak ft N0 rfl rfl rfl (aY Tryz.underlying31 rfl rfl (aj dy rfl rfl (ak ft N1 rfl rfl rfl (aY Tryz.underlying31 rfl rfl (aE rfl rfl rfl (ab (Piece.mk rfl rfl (.cons rfl (.cons rfl (.nil _))) (fun _ h => h)))))))))
 refine ah rfl rfl ?_
 refine' aI [_,_,_,_,_,_,_] [(5,_),(6,_)] (dj := 109) (dr := 116) rfl rfl (fun g13 => ?_) ⟨_,rfl,rfl,rfl,(.cons rfl (.cons rfl (.nil _)))⟩ rfl ?_
 rotate_left
 · skip
   exact aj cV rfl rfl (ak ej N0 rfl rfl rfl (aY Tryz.underlying32 rfl rfl (aj cV rfl rfl (ak ej N1 rfl rfl rfl (aY Tryz.underlying32 rfl rfl (aE rfl rfl rfl (ab (Piece.mk rfl rfl (.cons rfl (.cons rfl (.nil _))) (fun _ h => h)))))))))
 refine ah rfl rfl ?_
 refine' aI [_,_,_,_,_,_,_,_,_,_,_,_,_,_,_,_,_,_] [(5,_),(6,_)] (dj := 118) (dr := 136) rfl rfl (fun g14 => ?_) ⟨_,rfl,rfl,rfl,(.cons rfl (.cons rfl (.nil _)))⟩ rfl ?_
 rotate_left
 · skip
   refine aj ja rfl rfl (aj cW rfl rfl (ak bL N0 rfl rfl rfl (aj ja rfl rfl (aj cW rfl rfl (ak bL N1 rfl rfl rfl (aE rfl rfl rfl (ah rfl rfl ?_)))))))
   refine' aI [_,_,_,_,_,_,_,_,_] [(118,_),(5,_),(6,_)] (dj := 126) (dr := 135) rfl rfl (fun g15 => ?_) ⟨_,rfl,rfl,rfl,(.cons rfl (.cons rfl (.cons rfl (.nil _))))⟩ rfl ?_
   rotate_left
   · skip
     refine aj ja rfl rfl (aj cW rfl rfl (ak bL N1 rfl rfl rfl (cK rfl rfl rfl (ah rfl rfl ?_))))
     refine' aX [_,_,_] [(126,_),(118,_),(5,_),(6,_)] (dj := 131) (dr := 134) rfl rfl (fun g16 => ?_) ⟨_,rfl,rfl,rfl,(.cons rfl (.cons rfl (.cons rfl (.cons rfl (.nil _)))))⟩ rfl ?_
     rotate_left
     · skip
       exact aj ja rfl rfl (aW bo ba .z rfl rfl (vs := bR s.q.wh y.q.V) rfl rfl (aF (first := []) (cap := []) rfl rfl rfl Tryz.call72 (fun w1 h1 => pF s.q.wh y.q.V w1) (ab (Piece.mk rfl rfl (.cons rfl (.cons rfl (.cons rfl (.cons rfl (.nil _))))) (fun _ h => h)))))
     exact ab (Piece.mk rfl rfl (.cons rfl (.cons rfl (.cons rfl (.nil _)))) (fun _ h => h))
   exact ab (Piece.mk rfl rfl (.cons rfl (.cons rfl (.nil _))) (fun _ h => h))
 refine ah rfl rfl ?_
 refine' aI [_,_,_,_,_,_,_] [(5,_),(6,_)] (dj := 138) (dr := 145) rfl rfl (fun g17 => ?_) ⟨_,rfl,rfl,rfl,(.cons rfl (.cons rfl (.nil _)))⟩ rfl ?_
 rotate_left
 · skip
   exact aj eM rfl rfl (ak hM N0 rfl rfl rfl (aY Tryz.underlying33 rfl rfl (aj eM rfl rfl (ak hM N1 rfl rfl rfl (aY Tryz.underlying33 rfl rfl (aE rfl rfl rfl (ab (Piece.mk rfl rfl (.cons rfl (.cons rfl (.nil _))) (fun _ h => h)))))))))
 refine ah rfl rfl ?_
 refine' aI [_,_,_,_,_] [(5,_),(6,_)] (dj := 147) (dr := 152) rfl rfl (fun g18 => ?_) ⟨_,rfl,rfl,rfl,(.cons rfl (.cons rfl (.nil _)))⟩ rfl ?_
 rotate_left
 · skip
   exact aj kl rfl rfl (ak gd N0 rfl rfl rfl (aj kl rfl rfl (ak gd N1 rfl rfl rfl (oM rfl Tryz.underlying4 rfl rfl (ab (Piece.mk rfl rfl (.cons rfl (.cons rfl (.nil _))) (fun _ h => h)))))))
 refine ah rfl rfl ?_
 refine' aI [_,_,_,_,_] [] (dj := 154) (dr := 159) rfl rfl (fun g19 => ?_) ⟨_,rfl,rfl,rfl,(.nil _)⟩ rfl ?_
 rotate_left
 · skip
   exact aj jF rfl rfl (ak bL N0 rfl rfl rfl (aj jF rfl rfl (ak bL N1 rfl rfl rfl (aE rfl rfl rfl (ab (Piece.mk rfl rfl (.nil _) (fun _ h => h)))))))
 refine o_assignN rfl rfl (aq (bb rfl rfl ?_)); exact fun w1 hw1 => ⟨congrArg (fun b => Ending.returned (.bool b)) (by rfl),hw1.chg⟩
set_option maxHeartbeats 2000000 in
theorem mayStK (s : StmtX) (y : Lay) (bl : List Nat) (w : World) (hA : SAt bl w s y) (hbl : ∀ k ∈ bl,k < w.heap.size) (hok : SOk s) (hbd : SBd s) : Calls Tryz.prog 10 #[.agg (bS s y).toArray] w (cp w (.bool (mU s))) := by
 refine az (args := [.agg (bS s y).toArray]) (lent := []) (H := []) Tryz.func10 rfl Tryz.ntmps10 rfl (Sat.start _ _ _ _) ((show Tri _ [(0,_)] _ _ _ from ?_))
 obtain ⟨xC,xN,xR,xS,xI,xF,xO,hC,hN,hR_,hS,hW,hQ⟩ := id hA
 have n1 : s.cols.length ≤ 70368744177664 := hbd.nc
 have n2 : s.on.length ≤ 70368744177664 := hbd.nn
 have n3 : s.rows.length ≤ 70368744177664 := hbd.nr
 have n4 : s.sets.length ≤ 70368744177664 := hbd.ns
 refine ae (aa (cA _ rfl rfl rfl (fun b1 => o_assignN rfl rfl (ae (aa (aj em rfl rfl (ak bL N0 rfl rfl rfl (aQ (uR _) rfl rfl (aP _ rfl jb rfl (fun b3 => dL (us := [.int .i64 0,.string .empty,.string .empty,.slice none 0 0,.slice none 0 0,.bool false,.slice none 0 0,.slice none 0 0,.int .i64 0,.int .i64 0,.int .i64 0,.string .empty,.string .empty,.string .empty,.int .i64 0,.slice none 0 0,.bool false,.bool false,.slice none 0 0,.slice none 0 0,.int .i64 0,.int .i64 0,.int .i64 0,.string .empty,.string .empty,.string .empty,.int .i64 0,.slice none 0 0,.slice none 0 0,.bool false,.int .i64 0]) (cs := bS { StmtX.zero with k := s.k } Lay.nil) rfl rfl rfl gc .z rfl rfl rfl (triL_nilN (ae (tri_slo [(3,_),(1,_)] rfl (aa (o_assignN rfl rfl (co (ι := StmtX × Lay) (fun j => [(1,.pointer (some ⟨b1,0,none⟩)),(3,.pointer (some ⟨b3,0,none⟩)),(4,.bool (dX s))]) (fun j => [box b3 37 (bS j.1 j.2),box b1 37 (bS s y)]) (fun j => j.1 = eH s) ?_ (fun j hj => ?_)))))))))))))))))
 · skip
   refine ae (aa (aj em rfl rfl (ak bL N1 rfl rfl rfl (triL_nilN (ay (ae (aa (aE rfl rfl rfl (o_assignN rfl rfl (av rfl (fun q1 => ?_) (fun q1 => ?_)))))))))))
   · skip
     refine ae (tri_slo [(3,_),(1,_)] rfl (bh ([box b1 37 (bS s y)]) [(0,true),(1,true),(2,true),(3,true),(4,true),(5,false),(6,false),(7,false)] [6,7] (by kernel_rfl) (by kernel_rfl) (fun _ h => Sat.dropS 1 h) (ai rfl (aj cH rfl rfl (ab ⟨rfl,ai rfl (ak bB N0 rfl rfl rfl (ab ⟨rfl,ai rfl (aj ii rfl rfl (ab ⟨rfl,ai rfl (ak kV N0 rfl rfl rfl (ab ⟨rfl,ai rfl (aj cH rfl rfl (ab ⟨rfl,(aN rfl (cY (bS { StmtX.zero with k := s.k,t := s.t } Lay.nil) sz9 .z rfl rfl rfl rfl rfl (Nat.le_of_ble_eq_true rfl) rfl rfl (ab ⟨rfl,fun _ _ h => Sat.dropS 1 h,(bH [6,7] [_,_] rfl rfl (aj ii rfl rfl (cY (bS { StmtX.zero with k := s.k,t := s.t,cols := s.cols } { Lay.nil with C := y.C }) sz22 .z rfl rfl rfl rfl rfl (Nat.le_of_ble_eq_true rfl) rfl rfl (ab ⟨rfl,(ag (ae (tri_slo [(3,_),(1,_)] rfl (aa (aj cH rfl rfl (ak bB N1 rfl rfl rfl (aF (first := []) (cap := []) rfl rfl rfl Tryz.call30 (fun w1 h1 => eo s.t w1 hbd.t) (ah rfl rfl ?_))))))))⟩))))⟩)))⟩))⟩))⟩))⟩))⟩)))))
     refine' aI [_,_,_,_] [(3,_),(1,_)] (dj := 31) (dr := 35) rfl rfl (fun g1 => ?_) ⟨_,rfl,rfl,rfl,(.cons rfl (.cons rfl (.nil _)))⟩ rfl ?_
     rotate_left
     · skip
       exact aj ii rfl rfl (ak kV N1 rfl rfl rfl (aY Tryz.underlying22 rfl rfl (aF (first := []) (cap := []) rfl rfl rfl Tryz.call31 (fun w1 h1 => qU s.cols.length 16 w1) (ab (Piece.mk rfl rfl (.cons rfl (.cons rfl (.nil _))) (fun _ h => h))))))
     refine o_assignN rfl rfl (ae (aa (aj ii rfl rfl (ak kV N1 rfl rfl rfl (aY Tryz.underlying22 rfl rfl (ah rfl rfl (triL_nilN (ay (bz (ι := Nat) (F := fun i => [(1,.pointer (some ⟨b1,0,none⟩)),(3,.pointer (some ⟨b3,0,none⟩)),(4,.bool ((nameOk s.t && gL s.cols.length 16) && cy (fun i => ib (s.cols.getD i ColX.zero)) i)),(38,.slice y.C.A s.cols.length y.C.k),(39,.int .i64 (s.cols.length : Int)),(40,.int .i64 (i : Int))]) (HH := fun i => [box b3 37 (bS { StmtX.zero with k := s.k,t := s.t,cols := s.cols } { Lay.nil with C := y.C }),box b1 37 (bS s y)]) (Pu := fun i => i ≤ s.cols.length) (μ := fun i => s.cols.length - i) (0) (.cons rfl (.cons rfl (.cons (congrArg (fun b => some (Value.bool b)) (by simp [cy])) (.cons rfl (.cons rfl (.cons rfl (.nil _))))))) (fun _ h => h) (Nat.zero_le _) (fun i hi => ae (aa (cg rfl rfl rfl (triL_nilN (ae (av rfl (fun qa => ?_) (fun qa => ?_))))))))))))))))
     · skip
       have hil : i < s.cols.length := by omega
       refine ao (ag (ae (ay (ae ?_))))
       have hci := o8 hC i hil
       refine aa (aS Tryz.underlying22 sz71 rfl rfl rfl (hC.rd0 _ _ rfl rfl) (by omega) (by omega) hC.len (by decide) (bF agg71 sz71 rfl rfl (hC.rd0 _ _ rfl rfl) (vs := [Value.string (B (s.cols.getD i ColX.zero).n),Value.int .i64 (s.cols.getD i ColX.zero).k,Value.bool (s.cols.getD i ColX.zero).b]) hci rfl (by decide) (aP _ rfl zero71 rfl (fun b6 => aB sz71 N0 rfl rfl rfl rfl rfl (Nat.le_of_ble_eq_true rfl) rfl (triL_nilN (aa (ah rfl rfl (ah rfl rfl ?_))))))))
       refine' aI [_,_,_] [(6,_),(1,_),(3,_),(4,_),(38,_),(39,_),(40,_)] (dj := 45) (dr := 48) rfl rfl (fun g2 => ?_) ⟨_,rfl,rfl,rfl,(.cons rfl (.cons rfl (.cons rfl (.cons rfl (.cons rfl (.cons rfl (.cons rfl (.nil _))))))))⟩ rfl ?_
       rotate_left
       · skip
         exact aj fo71_0 rfl rfl (ak bB N0 rfl rfl rfl (aF (first := []) (cap := []) rfl rfl rfl Tryz.call30 (fun w1 h1 => eo (s.cols.getD i ColX.zero).n w1 (hbd.cols i hil)) (ab (Piece.mk rfl rfl (.cons rfl (.cons rfl (.cons rfl (.cons rfl (.cons rfl (.cons rfl (.cons rfl (.nil _)))))))) (fun _ h => h)))))
       refine ah rfl rfl ?_
       refine' aI [_,_,_] [(6,_),(1,_),(3,_),(4,_),(38,_),(39,_),(40,_)] (dj := 50) (dr := 53) rfl rfl (fun g3 => ?_) ⟨_,rfl,rfl,rfl,(.cons rfl (.cons rfl (.cons rfl (.cons rfl (.cons rfl (.cons rfl (.cons rfl (.nil _))))))))⟩ rfl ?_
       rotate_left
       · skip
         exact aj sH rfl rfl (ak bL N0 rfl rfl rfl (fO rfl rfl rfl (ab (Piece.mk rfl rfl (.cons rfl (.cons rfl (.cons rfl (.cons rfl (.cons rfl (.cons rfl (.cons rfl (.nil _)))))))) (fun _ h => h)))))
       refine ah rfl rfl ?_
       refine' aI [_,_,_] [(1,_),(3,_),(4,_),(38,_),(39,_),(40,_)] (dj := 55) (dr := 58) rfl rfl (fun g4 => ?_) ⟨_,rfl,rfl,rfl,(.cons rfl (.cons rfl (.cons rfl (.cons rfl (.cons rfl (.cons rfl (.nil _)))))))⟩ rfl ?_
       rotate_left
       · skip
         exact aj sH rfl rfl (ak bL N0 rfl rfl rfl (gW rfl rfl rfl (ab (Piece.mk rfl rfl (.cons rfl (.cons rfl (.cons rfl (.cons rfl (.cons rfl (.cons rfl (.nil _))))))) (fun _ h => h)))))
       exact aH rfl rfl (ab (an (ag (aa (bn rfl rfl rfl (by omega) (ah rfl rfl (triL_nilN (⟨i + 1,(.cons rfl (.cons rfl (.cons (congrArg (fun b => some (Value.bool b)) (by exact col_step (nameOk s.t && gL s.cols.length 16) (fun i => s.cols.getD i ColX.zero) i)) (.cons rfl (.cons rfl (.cons rfl (.nil _))))))),(fun w2 hw2 => hw2.tail),by omega,by omega⟩))))))))
     · skip
       have hie : i = s.cols.length := by omega
       rw [hie]
       exact aZ (aw (aw (aL (an (ag (⟨({ StmtX.zero with k := s.k,t := s.t,cols := s.cols }, { Lay.nil with C := y.C }),(.cons rfl (.cons rfl (.cons (congrArg (fun b => some (Value.bool b)) (by rw [part_1 q1,Bool.and_assoc])) (.nil _)))),fun _ h => h,by rw [keep_1 q1]; simp only [q1]⟩))))))
   · skip
     refine ae (aa (aE rfl rfl rfl (o_assignN rfl rfl (av rfl (fun q2 => ?_) (fun q2 => ?_)))))
     · skip
       exact ae (tri_slo [(3,_),(1,_)] rfl (aa (aj cH rfl rfl (ak bB N1 rfl rfl rfl (aj cH rfl rfl (cY (bS { StmtX.zero with k := s.k,t := s.t } Lay.nil) sz9 .z rfl rfl rfl rfl rfl (Nat.le_of_ble_eq_true rfl) rfl rfl (triL_nilN (aa (aj cH rfl rfl (ak bB N1 rfl rfl rfl (aF (first := []) (cap := []) rfl rfl rfl Tryz.call30 (fun w1 h1 => eo s.t w1 hbd.t) (aH rfl rfl (ab (an (ag (⟨({ StmtX.zero with k := s.k,t := s.t },Lay.nil),(.cons rfl (.cons rfl (.cons (congrArg (fun b => some (Value.bool b)) (by exact (part_2 q2).symm)) (.nil _)))),fun _ h => h,by rw [keep_2 q2]; simp only [q2]⟩))))))))))))))))
     · skip
       refine ae (tri_slo [(19,_),(4,_),(3,_),(1,_)] rfl (aa (aE rfl rfl rfl (o_assignN rfl rfl (av rfl (fun q3 => ?_) (fun q3 => ?_))))))
       · skip
         refine ae (tri_slo [(3,_),(1,_)] rfl (bh ([box b1 37 (bS s y)]) [(0,true),(1,true),(2,true),(3,true),(4,true),(5,true),(6,true),(7,true),(8,true),(9,false),(10,true),(11,false),(12,true),(13,false),(14,false),(15,false)] [14,15] (by kernel_rfl) (by kernel_rfl) (fun _ h => Sat.dropS 1 h) (ai rfl (aj cH rfl rfl (ab ⟨rfl,ai rfl (ak bB N0 rfl rfl rfl (ab ⟨rfl,ai rfl (aj fJ rfl rfl (ab ⟨rfl,ai rfl (ak bB N0 rfl rfl rfl (ab ⟨rfl,ai rfl (aj gT rfl rfl (ab ⟨rfl,ai rfl (ak j6 N0 rfl rfl rfl (ab ⟨rfl,ai rfl (aj kn rfl rfl (ab ⟨rfl,ai rfl (ak gd N0 rfl rfl rfl (ab ⟨rfl,ai rfl (aj cH rfl rfl (ab ⟨rfl,(aN rfl (cY (bS { StmtX.zero with k := s.k,t := s.t } Lay.nil) sz9 .z rfl rfl rfl rfl rfl (Nat.le_of_ble_eq_true rfl) rfl rfl (ab ⟨rfl,fun _ _ h => Sat.dropS 1 h,(ai rfl (aj fJ rfl rfl (ab ⟨rfl,(aN rfl (cY (bS { StmtX.zero with k := s.k,t := s.t,n := s.n } Lay.nil) sz9 .z rfl rfl rfl rfl rfl (Nat.le_of_ble_eq_true rfl) rfl rfl (ab ⟨rfl,fun _ _ h => Sat.dropS 1 h,(ai rfl (aj gT rfl rfl (ab ⟨rfl,(aN rfl (cY (bS { StmtX.zero with k := s.k,t := s.t,n := s.n,on := s.on } { Lay.nil with N := y.N }) sz23 .z rfl rfl rfl rfl rfl (Nat.le_of_ble_eq_true rfl) rfl rfl (ab ⟨rfl,fun _ _ h => Sat.dropS 1 h,(bH [14,15] [_,_] rfl rfl (aj kn rfl rfl (cY (bS { StmtX.zero with k := s.k,t := s.t,n := s.n,on := s.on,un := s.un } { Lay.nil with N := y.N }) sz4 .z rfl rfl rfl rfl rfl (Nat.le_of_ble_eq_true rfl) rfl rfl ?_)))⟩)))⟩)))⟩)))⟩)))⟩)))⟩))⟩))⟩))⟩))⟩))⟩))⟩))⟩))⟩))))); refine ab ⟨rfl,(ag (ae (tri_slo [(3,_),(1,_)] rfl (aa (aj cH rfl rfl (ak bB N1 rfl rfl rfl (aF (first := []) (cap := []) rfl rfl rfl Tryz.call30 (fun w1 h1 => eo s.t w1 hbd.t) (ah rfl rfl ?_))))))))⟩
         refine' aI [_,_,_] [(3,_),(1,_)] (dj := 86) (dr := 89) rfl rfl (fun g5 => ?_) ⟨_,rfl,rfl,rfl,(.cons rfl (.cons rfl (.nil _)))⟩ rfl ?_
         rotate_left
         · skip
           exact aj fJ rfl rfl (ak bB N1 rfl rfl rfl (aF (first := []) (cap := []) rfl rfl rfl Tryz.call30 (fun w1 h1 => eo s.n w1 hbd.n) (ab (Piece.mk rfl rfl (.cons rfl (.cons rfl (.nil _))) (fun _ h => h)))))
         refine ah rfl rfl ?_
         refine' aI [_,_,_,_] [(3,_),(1,_)] (dj := 91) (dr := 95) rfl rfl (fun g6 => ?_) ⟨_,rfl,rfl,rfl,(.cons rfl (.cons rfl (.nil _)))⟩ rfl ?_
         rotate_left
         · skip
           exact aj gT rfl rfl (ak j6 N1 rfl rfl rfl (aY Tryz.underlying23 rfl rfl (aF (first := []) (cap := []) rfl rfl rfl Tryz.call31 (fun w1 h1 => qU s.on.length 16 w1) (ab (Piece.mk rfl rfl (.cons rfl (.cons rfl (.nil _))) (fun _ h => h))))))
         refine o_assignN rfl rfl (ae (aa (aj gT rfl rfl (ak j6 N1 rfl rfl rfl (aY Tryz.underlying23 rfl rfl (ah rfl rfl (triL_nilN (ay (bz (ι := Nat) (F := fun i => [(1,.pointer (some ⟨b1,0,none⟩)),(3,.pointer (some ⟨b3,0,none⟩)),(4,.bool (((nameOk s.t && nameOk s.n) && gL s.on.length 16) && cy (fun i => nameOk (s.on.getD i [])) i)),(98,.slice y.N.A s.on.length y.N.k),(99,.int .i64 (s.on.length : Int)),(100,.int .i64 (i : Int))]) (HH := fun i => [box b3 37 (bS { StmtX.zero with k := s.k,t := s.t,n := s.n,on := s.on,un := s.un } { Lay.nil with N := y.N }),box b1 37 (bS s y)]) (Pu := fun i => i ≤ s.on.length) (μ := fun i => s.on.length - i) (0) (.cons rfl (.cons rfl (.cons (congrArg (fun b => some (Value.bool b)) (by simp [cy])) (.cons rfl (.cons rfl (.cons rfl (.nil _))))))) (fun _ h => h) (Nat.zero_le _) (fun i hi => ae (aa (cg rfl rfl rfl (triL_nilN (ae (av rfl (fun qb => ?_) (fun qb => ?_))))))))))))))))
         · skip
           have hil : i < s.on.length := by omega
           refine ao (ag (ae (ay (ae ?_))))
           have hci := mh hN i hil
           refine aa (aS Tryz.underlying23 sz9 rfl rfl rfl (hN.rd0 _ _ rfl rfl) (by omega) (by omega) hN.len (by decide) (aK bB rfl rfl (hN.rd0 _ _ rfl rfl) (aR hci (j := 0) rfl) (o_assignN rfl rfl (aa (ah rfl rfl (ah rfl rfl ?_))))))
           refine' aI [_,_] [(1,_),(3,_),(4,_),(98,_),(99,_),(100,_)] (dj := 105) (dr := 107) rfl rfl (fun g7 => ?_) ⟨_,rfl,rfl,rfl,(.cons rfl (.cons rfl (.cons rfl (.cons rfl (.cons rfl (.cons rfl (.nil _)))))))⟩ rfl ?_
           rotate_left
           · skip
             exact ah rfl rfl (aF (first := []) (cap := []) rfl rfl rfl Tryz.call30 (fun w1 h1 => eo (s.on.getD i []) w1 (hbd.on i hil)) (ab (Piece.mk rfl rfl (.cons rfl (.cons rfl (.cons rfl (.cons rfl (.cons rfl (.cons rfl (.nil _))))))) (fun _ h => h))))
           exact aH rfl rfl (ab (an (ag (aa (bn rfl rfl rfl (by omega) (ah rfl rfl (triL_nilN (⟨i + 1,(.cons rfl (.cons rfl (.cons (congrArg (fun b => some (Value.bool b)) (by exact od ((nameOk s.t && nameOk s.n) && gL s.on.length 16) (fun i => s.on.getD i []) i)) (.cons rfl (.cons rfl (.cons rfl (.nil _))))))),(fun w2 hw2 => hw2),by omega,by omega⟩))))))))
         · skip
           have hie : i = s.on.length := by omega
           rw [hie]
           exact aZ (aw (aw (aL (an (ag (⟨({ StmtX.zero with k := s.k,t := s.t,n := s.n,on := s.on,un := s.un }, { Lay.nil with N := y.N }),(.cons rfl (.cons rfl (.cons (congrArg (fun b => some (Value.bool b)) (by rw [part_3 q3]; simp only [Bool.and_assoc])) (.nil _)))),fun _ h => h,by rw [keep_3 q3]; simp only [q3]⟩))))))
       · skip
         refine ae (aa (aE rfl rfl rfl (o_assignN rfl rfl (av rfl (fun q4 => ?_) (fun q4 => ?_)))))
         · skip
           exact ae (tri_slo [(3,_),(1,_)] rfl (aa (aj fJ rfl rfl (ak bB N1 rfl rfl rfl (aj fJ rfl rfl (cY (bS { StmtX.zero with k := s.k,n := s.n } Lay.nil) sz9 .z rfl rfl rfl rfl rfl (Nat.le_of_ble_eq_true rfl) rfl rfl (triL_nilN (aa (aj fJ rfl rfl (ak bB N1 rfl rfl rfl (aF (first := []) (cap := []) rfl rfl rfl Tryz.call30 (fun w1 h1 => eo s.n w1 hbd.n) (aH rfl rfl (ab (an (ag (⟨({ StmtX.zero with k := s.k,n := s.n },Lay.nil),(.cons rfl (.cons rfl (.cons (congrArg (fun b => some (Value.bool b)) (by exact (part_4 q4).symm)) (.nil _)))),fun _ h => h,by rw [keep_4 q4]; simp only [q4]⟩))))))))))))))))
         · skip
           refine ae (tri_slo [(19,_),(4,_),(3,_),(1,_)] rfl (aa (aE rfl rfl rfl (o_assignN rfl rfl (av rfl (fun q5 => ?_) (fun q5 => ?_))))))
           · skip
             refine ae (tri_slo [(3,_),(1,_)] rfl (bh ([box b1 37 (bS s y)]) [(0,true),(1,true),(2,true),(3,true),(4,true),(5,false),(6,false),(7,false)] [6,7] (by kernel_rfl) (by kernel_rfl) (fun _ h => Sat.dropS 1 h) (ai rfl (aj cH rfl rfl (ab ⟨rfl,ai rfl (ak bB N0 rfl rfl rfl (ab ⟨rfl,ai rfl (aj fu rfl rfl (ab ⟨rfl,ai rfl (ak iE N0 rfl rfl rfl (ab ⟨rfl,ai rfl (aj cH rfl rfl (ab ⟨rfl,(aN rfl (cY (bS { StmtX.zero with k := s.k,t := s.t } Lay.nil) sz9 .z rfl rfl rfl rfl rfl (Nat.le_of_ble_eq_true rfl) rfl rfl (ab ⟨rfl,fun _ _ h => Sat.dropS 1 h,(bH [6,7] [_,_] rfl rfl (aj fu rfl rfl (cY (bS { StmtX.zero with k := s.k,t := s.t,rows := s.rows } { Lay.nil with R := y.R }) sz24 .z rfl rfl rfl rfl rfl (Nat.le_of_ble_eq_true rfl) rfl rfl (ab ⟨rfl,(ag (ae (tri_slo [(3,_),(1,_)] rfl (aa (aj cH rfl rfl (ak bB N1 rfl rfl rfl (aF (first := []) (cap := []) rfl rfl rfl Tryz.call30 (fun w1 h1 => eo s.t w1 hbd.t) (ah rfl rfl ?_))))))))⟩))))⟩)))⟩))⟩))⟩))⟩))⟩)))))
             refine' aI [_,_,_,_] [(3,_),(1,_)] (dj := 129) (dr := 133) rfl rfl (fun g8 => ?_) ⟨_,rfl,rfl,rfl,(.cons rfl (.cons rfl (.nil _)))⟩ rfl ?_
             rotate_left
             · skip
               exact aj fu rfl rfl (ak iE N1 rfl rfl rfl (aY Tryz.underlying24 rfl rfl (eV rfl rfl rfl (ab (Piece.mk rfl rfl (.cons rfl (.cons rfl (.nil _))) (fun _ h => h))))))
             refine o_assignN rfl rfl (ae (aa (aj fu rfl rfl (ak iE N1 rfl rfl rfl (aY Tryz.underlying24 rfl rfl (ah rfl rfl (triL_nilN (ay (bz (ι := Nat) (F := fun i => [(1,.pointer (some ⟨b1,0,none⟩)),(3,.pointer (some ⟨b3,0,none⟩)),(4,.bool ((nameOk s.t && decide (0 < (s.rows.length : Int))) && cy (fun i => f9 (s.rows.getD i [])) i)),(136,.slice y.R.A s.rows.length y.R.k),(137,.int .i64 (s.rows.length : Int)),(138,.int .i64 (i : Int))]) (HH := fun i => [box b3 37 (bS { StmtX.zero with k := s.k,t := s.t,rows := s.rows } { Lay.nil with R := y.R }),box b1 37 (bS s y)]) (Pu := fun i => i ≤ s.rows.length) (μ := fun i => s.rows.length - i) (0) (.cons rfl (.cons rfl (.cons (congrArg (fun b => some (Value.bool b)) (by simp [cy])) (.cons rfl (.cons rfl (.cons rfl (.nil _))))))) (fun _ h => h) (Nat.zero_le _) (fun i hi => ae (aa (cg rfl rfl rfl (triL_nilN (ae (av rfl (fun qc => ?_) (fun qc => ?_))))))))))))))))
             · skip
               have hil : i < s.rows.length := by omega
               have nr : (s.rows.getD i []).length ≤ 70368744177664 := (hbd.rows i hil).1
               refine ao (ag (ae (ay (ae ?_))))
               obtain ⟨yr,xr,hcr,hRr⟩ := kN hR_ i hil
               refine aa (aS Tryz.underlying24 sz28 rfl rfl rfl (hR_.rd0 _ _ rfl rfl) (by omega) (by omega) hR_.len (by decide) (aK eJ rfl rfl (hR_.rd0 _ _ rfl rfl) (aR hcr (j := 0) rfl) (o_assignN rfl rfl (ae (aa (ah rfl rfl (ah rfl rfl ?_)))))))
               refine' aI [_,_,_] [(10,_),(1,_),(3,_),(4,_),(136,_),(137,_),(138,_)] (dj := 143) (dr := 146) rfl rfl (fun g9 => ?_) ⟨_,rfl,rfl,rfl,(.cons rfl (.cons rfl (.cons rfl (.cons rfl (.cons rfl (.cons rfl (.cons rfl (.nil _))))))))⟩ rfl ?_
               rotate_left
               · skip
                 exact ah rfl rfl (aY Tryz.underlying28 rfl rfl (aF (first := []) (cap := []) rfl rfl rfl Tryz.call31 (fun w1 h1 => qU (s.rows.getD i []).length 16 w1) (ab (Piece.mk rfl rfl (.cons rfl (.cons rfl (.cons rfl (.cons rfl (.cons rfl (.cons rfl (.cons rfl (.nil _)))))))) (fun _ h => h)))))
               refine o_assignN rfl rfl (ae (aa (ah rfl rfl (aY Tryz.underlying28 rfl rfl (ah rfl rfl (triL_nilN (ay (bz (ι := Nat) (F := fun k => [(1,.pointer (some ⟨b1,0,none⟩)),(3,.pointer (some ⟨b3,0,none⟩)),(4,.bool ((((nameOk s.t && decide (0 < (s.rows.length : Int))) && cy (fun i => f9 (s.rows.getD i [])) i) && gL (s.rows.getD i []).length 16) && cy (fun k => ((s.rows.getD i []).getD k Ex.zero).may) k)),(136,.slice y.R.A s.rows.length y.R.k),(137,.int .i64 (s.rows.length : Int)),(138,.int .i64 (i : Int)),(148,.slice yr.A (s.rows.getD i []).length yr.k),(149,.int .i64 ((s.rows.getD i []).length : Int)),(150,.int .i64 (k : Int))]) (HH := fun k => [box b3 37 (bS { StmtX.zero with k := s.k,t := s.t,rows := s.rows } { Lay.nil with R := y.R }),box b1 37 (bS s y)]) (Pu := fun k => k ≤ (s.rows.getD i []).length) (μ := fun k => (s.rows.getD i []).length - k) (0) (.cons rfl (.cons rfl (.cons (congrArg (fun b => some (Value.bool b)) (by simp [cy])) (.cons rfl (.cons rfl (.cons rfl (.cons rfl (.cons rfl (.cons rfl (.nil _)))))))))) (fun _ h => h) (Nat.zero_le _) (fun k hk => ae (aa (cg rfl rfl rfl (triL_nilN (ae (av rfl (fun qd => ?_) (fun qd => ?_)))))))))))))))
               · skip
                 have hkl : k < (s.rows.getD i []).length := by omega
                 refine ao (ag (ae (ay (ae ?_))))
                 obtain ⟨ye,hci,hye⟩ := ex_at hRr k hkl
                 refine aa (aS Tryz.underlying28 ba rfl rfl rfl (hRr.rd0 _ _ rfl rfl) (by omega) (by omega) hRr.len (by decide) (bF bo ba rfl rfl (hRr.rd0 _ _ rfl rfl) (vs := bR ((s.rows.getD i []).getD k Ex.zero) ye) hci rfl (by decide) (aP _ rfl dq rfl (fun b12 => aB ba N0 rfl rfl rfl rfl rfl (Nat.le_of_ble_eq_true rfl) rfl (triL_nilN (aa (ah rfl rfl (ah rfl rfl ?_))))))))
                 refine' aI [_,_] [(1,_),(3,_),(4,_),(136,_),(137,_),(138,_),(148,_),(149,_),(150,_)] (dj := 155) (dr := 157) rfl rfl (fun g10 => ?_) ⟨_,rfl,rfl,rfl,(.cons rfl (.cons rfl (.cons rfl (.cons rfl (.cons rfl (.cons rfl (.cons rfl (.cons rfl (.cons rfl (.nil _))))))))))⟩ rfl ?_
                 rotate_left
                 · skip
                   exact aW bo ba .z rfl rfl (vs := bR ((s.rows.getD i []).getD k Ex.zero) ye) rfl rfl (aF (first := []) (cap := []) rfl rfl rfl Tryz.call32 (fun w1 h1 => oI ((s.rows.getD i []).getD k Ex.zero) bl ye w1 (hye.stab (fun k hk => h1.chg.block k (hbl k hk) (by simp))) (hok.rows i hil k hkl) ((hbd.rows i hil).2 k hkl)) (ab (Piece.mk rfl rfl (.cons rfl (.cons rfl (.cons rfl (.cons rfl (.cons rfl (.cons rfl (.cons rfl (.cons rfl (.cons rfl (.nil _)))))))))) (fun _ h => h))))
                 exact aH rfl rfl (ab (an (ag (aa (bn rfl rfl rfl (by omega) (ah rfl rfl (triL_nilN (⟨k + 1,(.cons rfl (.cons rfl (.cons (congrArg (fun b => some (Value.bool b)) (by exact ex_step (((nameOk s.t && decide (0 < (s.rows.length : Int))) && cy (fun i => f9 (s.rows.getD i [])) i) && gL (s.rows.getD i []).length 16) (fun k => (s.rows.getD i []).getD k Ex.zero) k)) (.cons rfl (.cons rfl (.cons rfl (.cons rfl (.cons rfl (.cons rfl (.nil _)))))))))),(fun w2 hw2 => hw2.tail),by omega,by omega⟩))))))))
               · skip
                 have hke : k = (s.rows.getD i []).length := by omega
                 rw [hke]
                 exact aZ (aw (aw (aL (an (ag (tri_slo [(1,_),(3,_),(4,_),(136,_),(137,_),(138,_)] rfl (aa (bn rfl rfl rfl (by omega) (ah rfl rfl (triL_nilN (⟨i + 1,(.cons rfl (.cons rfl (.cons (congrArg (fun b => some (Value.bool b)) (by exact row_step (nameOk s.t && decide (0 < (s.rows.length : Int))) (fun i => s.rows.getD i []) i)) (.cons rfl (.cons rfl (.cons rfl (.nil _))))))),(fun w2 hw2 => hw2),by omega,by omega⟩)))))))))))
             · skip
               have hie : i = s.rows.length := by omega
               rw [hie]
               exact aZ (aw (aw (aL (an (ag (⟨({ StmtX.zero with k := s.k,t := s.t,rows := s.rows }, { Lay.nil with R := y.R }),(.cons rfl (.cons rfl (.cons (congrArg (fun b => some (Value.bool b)) (by rw [part_5 q5,Bool.and_assoc]; congr 2; exact decide_eq_decide.2 (by omega))) (.nil _)))),fun _ h => h,by rw [keep_5 q5]; simp only [q5]⟩))))))
           · skip
             refine ae (aa (aE rfl rfl rfl (o_assignN rfl rfl (av rfl (fun q6 => ?_) (fun q6 => ?_)))))
             · skip
               refine ae (tri_slo [(3,_),(1,_)] rfl (bh ([box b1 37 (bS s y)]) [(0,true),(1,true),(2,true),(3,true),(4,true),(5,false),(6,false),(7,false)] [6,7] (by kernel_rfl) (by kernel_rfl) (fun _ h => Sat.dropS 1 h) (ai rfl (aj cH rfl rfl (ab ⟨rfl,ai rfl (ak bB N0 rfl rfl rfl (ab ⟨rfl,ai rfl (aj fv rfl rfl (ab ⟨rfl,ai rfl (aW bo ba .z rfl rfl (vs := bR s.wh y.W) rfl rfl (ab ⟨rfl,ai rfl (aj cH rfl rfl (ab ⟨rfl,(aN rfl (cY (bS { StmtX.zero with k := s.k,t := s.t } Lay.nil) sz9 .z rfl rfl rfl rfl rfl (Nat.le_of_ble_eq_true rfl) rfl rfl (ab ⟨rfl,fun _ _ h => Sat.dropS 1 h,(bH [6,7] [_,_] rfl rfl (aj fv rfl rfl (cY (bS { StmtX.zero with k := s.k,t := s.t,wh := s.wh } { Lay.nil with W := y.W }) ba .z rfl rfl rfl rfl rfl (Nat.le_of_ble_eq_true rfl) rfl rfl (ab ⟨rfl,(ag (tri_slo [(3,_),(1,_)] rfl (aa (aj cH rfl rfl (ak bB N1 rfl rfl rfl (aF (first := []) (cap := []) rfl rfl rfl Tryz.call30 (fun w1 h1 => eo s.t w1 hbd.t) (ah rfl rfl ?_)))))))⟩))))⟩)))⟩))⟩))⟩))⟩))⟩)))))
               refine' aI [_,_,_] [(3,_),(1,_)] (dj := 172) (dr := 175) rfl rfl (fun g11 => ?_) ⟨_,rfl,rfl,rfl,(.cons rfl (.cons rfl (.nil _)))⟩ rfl ?_
               rotate_left
               · skip
                 exact aj fv rfl rfl (aW bo ba (.s .z) rfl rfl (vs := bR s.wh y.W) rfl rfl (aF (first := []) (cap := []) rfl rfl rfl Tryz.call33 (fun w1 h1 => sE s.wh y.W bl w1 (hW.stab (fun k hk => h1.chg.block k (hbl k hk) (by simp))) hok.wh hbd.wh (fun k hk => Nat.lt_of_lt_of_le (hbl k hk) h1.chg.size)) (ab (Piece.mk rfl rfl (.cons rfl (.cons rfl (.nil _))) (fun _ h => h)))))
               exact aH rfl rfl (ab (an (ag (⟨({ StmtX.zero with k := s.k,t := s.t,wh := s.wh }, { Lay.nil with W := y.W }),(.cons rfl (.cons rfl (.cons (congrArg (fun b => some (Value.bool b)) (by exact (rY q6).symm)) (.nil _)))),fun _ h => h,by rw [keep_6 q6]; simp only [q6]⟩))))
             · skip
               refine ae (tri_slo [(19,_),(4,_),(3,_),(1,_)] rfl (aa (aE rfl rfl rfl (o_assignN rfl rfl (av rfl (fun q7 => ?_) (fun q7 => ?_))))))
               · skip
                 refine ae (tri_slo [(3,_),(1,_)] rfl (bh ([box b1 37 (bS s y)]) [(0,true),(1,true),(2,true),(3,true),(4,true),(5,true),(6,true),(7,false),(8,true),(9,false),(10,false),(11,false)] [10,11] (by kernel_rfl) (by kernel_rfl) (fun _ h => Sat.dropS 1 h) (ai rfl (aj cH rfl rfl (ab ⟨rfl,ai rfl (ak bB N0 rfl rfl rfl (ab ⟨rfl,ai rfl (aj dR rfl rfl (ab ⟨rfl,ai rfl (ak f3 N0 rfl rfl rfl (ab ⟨rfl,ai rfl (aj fv rfl rfl (ab ⟨rfl,ai rfl (aW bo ba .z rfl rfl (vs := bR s.wh y.W) rfl rfl (ab ⟨rfl,ai rfl (aj cH rfl rfl (ab ⟨rfl,(aN rfl (cY (bS { StmtX.zero with k := s.k,t := s.t } Lay.nil) sz9 .z rfl rfl rfl rfl rfl (Nat.le_of_ble_eq_true rfl) rfl rfl (ab ⟨rfl,fun _ _ h => Sat.dropS 1 h,(ai rfl (aj dR rfl rfl (ab ⟨rfl,(aN rfl (cY (bS { StmtX.zero with k := s.k,t := s.t,sets := s.sets } { Lay.nil with S := y.S }) sz25 .z rfl rfl rfl rfl rfl (Nat.le_of_ble_eq_true rfl) rfl rfl (ab ⟨rfl,fun _ _ h => Sat.dropS 1 h,(bH [10,11] [_,_] rfl rfl (aj fv rfl rfl (cY (bS { StmtX.zero with k := s.k,t := s.t,sets := s.sets,wh := s.wh } { Lay.nil with S := y.S,W := y.W }) ba .z rfl rfl rfl rfl rfl (Nat.le_of_ble_eq_true rfl) rfl rfl (ab ⟨rfl,(ag (ae (tri_slo [(3,_),(1,_)] rfl (aa (aj cH rfl rfl (ak bB N1 rfl rfl rfl (aF (first := []) (cap := []) rfl rfl rfl Tryz.call30 (fun w1 h1 => eo s.t w1 hbd.t) (ah rfl rfl ?_))))))))⟩))))⟩)))⟩)))⟩)))⟩))⟩))⟩))⟩))⟩))⟩))⟩)))))
                 refine' aI [_,_,_,_] [(3,_),(1,_)] (dj := 191) (dr := 195) rfl rfl (fun g12 => ?_) ⟨_,rfl,rfl,rfl,(.cons rfl (.cons rfl (.nil _)))⟩ rfl ?_
                 rotate_left
                 · skip
                   exact aj dR rfl rfl (ak f3 N1 rfl rfl rfl (aY Tryz.underlying25 rfl rfl (aF (first := []) (cap := []) rfl rfl rfl Tryz.call31 (fun w1 h1 => qU s.sets.length 16 w1) (ab (Piece.mk rfl rfl (.cons rfl (.cons rfl (.nil _))) (fun _ h => h))))))
                 refine ah rfl rfl ?_
                 refine' aI [_,_,_] [(3,_),(1,_)] (dj := 197) (dr := 200) rfl rfl (fun g13 => ?_) ⟨_,rfl,rfl,rfl,(.cons rfl (.cons rfl (.nil _)))⟩ rfl ?_
                 rotate_left
                 · skip
                   exact aj fv rfl rfl (aW bo ba (.s .z) rfl rfl (vs := bR s.wh y.W) rfl rfl (aF (first := []) (cap := []) rfl rfl rfl Tryz.call33 (fun w1 h1 => sE s.wh y.W bl w1 (hW.stab (fun k hk => h1.chg.block k (hbl k hk) (by simp))) hok.wh hbd.wh (fun k hk => Nat.lt_of_lt_of_le (hbl k hk) h1.chg.size)) (ab (Piece.mk rfl rfl (.cons rfl (.cons rfl (.nil _))) (fun _ h => h)))))
                 refine o_assignN rfl rfl (ae (aa (aj dR rfl rfl (ak f3 N1 rfl rfl rfl (aY Tryz.underlying25 rfl rfl (ah rfl rfl (triL_nilN (ay (bz (ι := Nat) (F := fun i => [(1,.pointer (some ⟨b1,0,none⟩)),(3,.pointer (some ⟨b3,0,none⟩)),(4,.bool (((nameOk s.t && gL s.sets.length 16) && iB s.wh) && cy (fun i => ic (s.sets.getD i SetX.zero)) i)),(203,.slice y.S.A s.sets.length y.S.k),(204,.int .i64 (s.sets.length : Int)),(205,.int .i64 (i : Int))]) (HH := fun i => [box b3 37 (bS { StmtX.zero with k := s.k,t := s.t,sets := s.sets,wh := s.wh } { Lay.nil with S := y.S,W := y.W }),box b1 37 (bS s y)]) (Pu := fun i => i ≤ s.sets.length) (μ := fun i => s.sets.length - i) (0) (.cons rfl (.cons rfl (.cons (congrArg (fun b => some (Value.bool b)) (by simp [cy])) (.cons rfl (.cons rfl (.cons rfl (.nil _))))))) (fun _ h => h) (Nat.zero_le _) (fun i hi => ae (aa (cg rfl rfl rfl (triL_nilN (ae (av rfl (fun qe => ?_) (fun qe => ?_))))))))))))))))
                 · skip
                   have hil : i < s.sets.length := by omega
                   refine ao (ag (ae (ay (ae ?_))))
                   obtain ⟨ye,hci,hye⟩ := o7 hS i hil
                   refine aa (aS Tryz.underlying25 nw rfl rfl rfl (hS.rd0 _ _ rfl rfl) (by omega) (by omega) hS.len (by decide) (bF agg82 nw rfl rfl (hS.rd0 _ _ rfl rfl) (vs := Value.string (B (s.sets.getD i SetX.zero).n) :: bR (s.sets.getD i SetX.zero).e ye) hci rfl (by decide) (aP _ rfl zero82 rfl (fun b14 => aB nw N0 rfl rfl rfl rfl rfl (Nat.le_of_ble_eq_true rfl) rfl (triL_nilN (aa (ah rfl rfl (ah rfl rfl ?_))))))))
                   refine' aI [_,_,_] [(14,_),(1,_),(3,_),(4,_),(203,_),(204,_),(205,_)] (dj := 210) (dr := 213) rfl rfl (fun g14 => ?_) ⟨_,rfl,rfl,rfl,(.cons rfl (.cons rfl (.cons rfl (.cons rfl (.cons rfl (.cons rfl (.cons rfl (.nil _))))))))⟩ rfl ?_
                   rotate_left
                   · skip
                     exact aj lB rfl rfl (ak bB N0 rfl rfl rfl (aF (first := []) (cap := []) rfl rfl rfl Tryz.call30 (fun w1 h1 => eo (s.sets.getD i SetX.zero).n w1 (hbd.sets i hil).2) (ab (Piece.mk rfl rfl (.cons rfl (.cons rfl (.cons rfl (.cons rfl (.cons rfl (.cons rfl (.cons rfl (.nil _)))))))) (fun _ h => h)))))
                   refine ah rfl rfl ?_
                   refine' aI [_,_,_] [(1,_),(3,_),(4,_),(203,_),(204,_),(205,_)] (dj := 215) (dr := 218) rfl rfl (fun g15 => ?_) ⟨_,rfl,rfl,rfl,(.cons rfl (.cons rfl (.cons rfl (.cons rfl (.cons rfl (.cons rfl (.nil _)))))))⟩ rfl ?_
                   rotate_left
                   · skip
                     exact aj pI rfl rfl (aW bo ba .z rfl rfl (vs := bR (s.sets.getD i SetX.zero).e ye) rfl rfl (aF (first := []) (cap := []) rfl rfl rfl Tryz.call32 (fun w1 h1 => oI (s.sets.getD i SetX.zero).e bl ye w1 (hye.stab (fun k hk => h1.chg.block k (hbl k hk) (by simp))) (hok.sets i hil) (hbd.sets i hil).1) (ab (Piece.mk rfl rfl (.cons rfl (.cons rfl (.cons rfl (.cons rfl (.cons rfl (.cons rfl (.nil _))))))) (fun _ h => h)))))
                   exact aH rfl rfl (ab (an (ag (aa (bn rfl rfl rfl (by omega) (ah rfl rfl (triL_nilN (⟨i + 1,(.cons rfl (.cons rfl (.cons (congrArg (fun b => some (Value.bool b)) (by exact set_step ((nameOk s.t && gL s.sets.length 16) && iB s.wh) (fun i => s.sets.getD i SetX.zero) i)) (.cons rfl (.cons rfl (.cons rfl (.nil _))))))),(fun w2 hw2 => hw2.tail),by omega,by omega⟩))))))))
                 · skip
                   have hie : i = s.sets.length := by omega
                   rw [hie]
                   exact aZ (aw (aw (aL (an (ag (⟨({ StmtX.zero with k := s.k,t := s.t,sets := s.sets,wh := s.wh }, { Lay.nil with S := y.S,W := y.W }),(.cons rfl (.cons rfl (.cons (congrArg (fun b => some (Value.bool b)) (by rw [rZ q7]; simp only [Bool.and_assoc])) (.nil _)))),fun _ h => h,by rw [keep_7 q7]; simp only [q7]⟩))))))
               · skip
                 refine ae (aa (aE rfl rfl rfl (o_assignN rfl rfl (av rfl (fun q8 => ?_) (fun q8 => ?_)))))
                 · skip
                   exact ae (tri_slo [(3,_),(1,_)] rfl (aa (aj jc rfl rfl (aW ny mb (.s .z) rfl rfl (vs := ey s.q y.q) rfl rfl (aj jc rfl rfl (cY (bS { StmtX.zero with k := s.k,q := s.q } { Lay.nil with q := y.q }) mb .z rfl rfl rfl rfl rfl (Nat.le_of_ble_eq_true rfl) rfl rfl (triL_nilN (aa (aj jc rfl rfl (aW ny mb (.s .z) rfl rfl (vs := ey s.q y.q) rfl rfl (aF (first := []) (cap := []) rfl rfl rfl Tryz.call34 (fun w1 h1 => mayQK s.q y.q bl w1 (hA.q.stab (fun k hk => h1.chg.block k (hbl k hk) (by simp))) (fun k hk => Nat.lt_of_lt_of_le (hbl k hk) h1.chg.size) hok.q hbd.q) (aH rfl rfl (ab (an (ag (⟨({ StmtX.zero with k := s.k,q := s.q }, { Lay.nil with q := y.q }),(.cons rfl (.cons rfl (.cons (congrArg (fun b => some (Value.bool b)) (by exact (r3 q8).symm)) (.nil _)))),fun _ h => h,by rw [keep_8 q8]; simp only [q8]⟩))))))))))))))))
                 · skip
                   refine co (ι := Nat) (fun i => [(1,.pointer (some ⟨b1,0,none⟩)),(3,.pointer (some ⟨b3,0,none⟩)),(4,.bool false),(229,.bool (decide (9 ≤ s.k ∧ s.k ≤ 11)))]) (fun i => [box b3 37 (bS { StmtX.zero with k := s.k } Lay.nil),box b1 37 (bS s y)]) (fun i => True) ?_ (fun i hj => ?_)
                   · skip
                     refine ae (tri_slo [(19,_),(4,_),(3,_),(1,_)] rfl (aa (aE rfl rfl rfl (o_assignN rfl rfl (av rfl (fun q9 => ?_) (fun q9 => ?_))))))
                     · skip
                       exact ao (ag (⟨0,(.cons rfl (.cons rfl (.cons rfl (.cons (congrArg (fun b => some (Value.bool b)) (by rw [decide_eq_true q9,decide_eq_true (by omega)])) (.nil _))))),fun _ h => h,trivial⟩))
                     · skip
                       refine ae (aa (aE rfl rfl rfl (o_assignN rfl rfl (av rfl (fun q10 => ?_) (fun q10 => ?_)))))
                       · skip
                         exact ao (ag (⟨0,(.cons rfl (.cons rfl (.cons rfl (.cons (congrArg (fun b => some (Value.bool b)) (by rw [decide_eq_true q10,decide_eq_true (by omega)])) (.nil _))))),fun _ h => h,trivial⟩))
                       · skip
                         exact aa (aE rfl rfl rfl (o_assignN rfl rfl (⟨0,(.cons rfl (.cons rfl (.cons rfl (.cons (congrArg (fun b => some (Value.bool b)) (by exact decide_eq_decide.2 (by omega))) (.nil _))))),fun _ h => h,trivial⟩)))
                   refine aD rfl (fun qz => ?_) (fun qz => ?_)
                   · skip
                     exact aa (aH rfl rfl (ab (an (ag (⟨({ StmtX.zero with k := s.k },Lay.nil),(.cons rfl (.cons rfl (.cons (congrArg (fun b => some (Value.bool b)) (by rw [pa (by omega)]; exact qz.symm)) (.nil _)))),fun _ h => h,by rw [r4 (by omega)]⟩)))))
                   · skip
                     exact ao (an (ag (⟨({ StmtX.zero with k := s.k },Lay.nil),(.cons rfl (.cons rfl (.cons (congrArg (fun b => some (Value.bool b)) (by rw [pa (by omega)]; exact qz.symm)) (.nil _)))),fun _ h => h,by rw [r4 (by omega)]⟩)))
 refine ae (aa (ah rfl rfl (ah rfl rfl ?_)))
 refine' aI [_,_,_] [] (dj := 234) (dr := 237) rfl rfl (fun g16 => ?_) ⟨_,rfl,rfl,rfl,(.nil _)⟩ rfl ?_
 rotate_left
 · skip
   exact aW hY gc (.s .z) rfl rfl (vs := bS s y) rfl rfl (aW hY gc .z rfl rfl (vs := bS j.1 j.2) rfl rfl (aF (first := []) (cap := []) rfl rfl rfl Tryz.call35 (fun w1 h1 => restK s j.1 y j.2 w1) (ab (Piece.mk rfl rfl (.nil _) (fun _ h => h)))))
 refine o_assignN rfl rfl (aq (bb rfl rfl ?_)); exact fun w1 hw1 => ⟨congrArg (fun b => Ending.returned (.bool b)) (by rw [hj]; exact rest_may s),hw1.chg⟩
end Go.Proofs.YtjbpkcbefmpfgaaGreatDoor
namespace Go.Proofs.YtjbpkcbefmpfgaaGreatDoor
open Go.WK Go.RowKit 
theorem zero64 : (Tryz.prog.info? 64).map (·.zero) = some (some (.pointer none)) := by kernel_rfl
theorem sz64 : szB Tryz.prog 64 = some 1 := by kernel_rfl
set_option maxHeartbeats 2000000 in
theorem printStK (s : StmtX) (y : Lay) (bl : List Nat) (w : World) (hV : PV w [] bl) (hA : SAt bl w s y) (hok : SOk s) (hbd : SBd s) (hT : mU s = true → (ew s).1.length ≤ 70368744177664) : Calls Tryz.prog 8 #[.agg (bS s y).toArray] w (cp w (.tuple #[.string (B (prS s).1),.int .i64 (prS s).2])) := by
 refine az (args := [.agg (bS s y).toArray]) (lent := []) (H := []) Tryz.func8 rfl Tryz.ntmps8 rfl (Sat.start _ _ _ _) ((show Tri _ [(0,_)] _ _ _ from ?_))
 have hbl : ∀ k ∈ bl,k < w.heap.size := fun k hk => (hV.pe.lt k hk).1
 obtain ⟨xC,xN,xR,xS,xI,xF,xO,hC,hN,hR_,hS,hW,hQ⟩ := id hA
 have n1 : s.cols.length ≤ 70368744177664 := hbd.nc
 have n2 : s.on.length ≤ 70368744177664 := hbd.nn
 have n3 : s.rows.length ≤ 70368744177664 := hbd.nr
 unfold prS
 refine ae (aa (cA _ rfl rfl rfl (fun b1 => aH rfl rfl (o_assignN rfl rfl (ae (ae (aa (aW hY gc .z rfl rfl (vs := bS s y) rfl rfl (aF (first := []) (cap := []) rfl rfl rfl Tryz.call10 (fun w1 h1 => mayStK s y bl w1 (hA.stab (fun k hk => h1.chg.block k (hbl k hk) (by simp))) (fun k hk => Nat.lt_of_lt_of_le (hbl k hk) h1.chg.size) hok hbd) (dB rfl rfl (triL_nilN (aD rfl (fun q0 => ?_) (fun q0 => ?_)))))))))))))
 · skip
   have q0 := cE q0
   refine ae (ar [] (.nil _) (aa (aH rfl rfl (o_assignN rfl rfl (aq (am (il rfl rfl rfl ?_))))))); exact fun w1 hw1 => ⟨by rw [if_neg (cw q0)],hw1.chg⟩
 · skip
   have q0 := cn q0
   refine ao (ag (ae (tri_slo [(1,_)] rfl (aa (aQ tR rfl rfl (cA _ rfl rfl rfl (fun b9 => aP _ rfl zero64 rfl (fun b4 => aB sz64 N0 rfl rfl rfl rfl rfl (Nat.le_of_ble_eq_true rfl) rfl ?_))))))))
   skip
   refine triL_nilN (co (ι := Option Addr × Nat) (fun j => [(4,.pointer (some ⟨b4,0,none⟩))]) (fun j => [box b4 64 [.pointer (some ⟨b9,0,none⟩)]] ++ prD b9 j.1 j.2 (ew s).1 0 (max 0 ((ew s).2 : Int))) (fun j => True) ?_ (fun j hj => ?_))
   · skip
     refine ae ?_
     have hb := hT q0
     have hmy : dX s = true := by unfold mU at q0; simp only [Bool.and_eq_true] at q0; exact q0.1
     refine Tri.heap (H' := [box b4 64 [.pointer (some ⟨b9,0,none⟩)],box b1 37 (bS s y)] ++ prD b9 none 0 [] 0 0) (fun w hw => (Sat.nilRow hw 5).sel [1,3,2,0] (by decide)) (aa (aj em rfl rfl (ak bL N1 rfl rfl rfl (triL_nilN (ay (ae (aa (aE rfl rfl rfl (o_assignN rfl rfl (av rfl (fun q1 => ?_) (fun q1 => ?_)))))))))))
     · skip
       rw [st_1 q1] at hb
       simp only [cat,raw,List.length_append,List.length_cons,List.length_nil] at hb
       rw [part_1 q1] at hmy
       simp only [Bool.and_eq_true] at hmy
       have hmc : ∀ i,i < s.cols.length → ib (s.cols.getD i ColX.zero) = true := fun i hi => iW hmy.2.2 hi
       exact ae (tri_slo [(4,_),(1,_)] rfl (aa (ak bY N0 rfl rfl rfl (aj cH rfl rfl (ak bB N1 rfl rfl rfl (e0 (parts := [_,_,_]) (dY [[99,114,101,97,116,101,32,116,97,98,108,101,32],s.t,[32,40]]) Tryz.underlying23 zs9 rfl rfl rfl rfl (by decide) (by decide) (fun b20 => aJ (pb := b9) [_,_,_] rfl rfl rfl rfl Tryz.call20 (fun w1 h1 h2 h3 => dm [[99,114,101,97,116,101,32,116,97,98,108,101,32],s.t,[32,40]] _ _ b9 _ _ _ _ _ w1 h2 (RdS.row .z w1 h1) (fun a ha => by cases ha; exact bk h1 (fun x hx => (List.mem_cons_of_mem _ (List.mem_cons_of_mem _ hx))) rfl) (by (try simp only [List.length_append,List.length_cons,List.length_nil,List.flatten_cons,List.flatten_nil] at hb ⊢); omega) (by simp)) (fun A21 c21 => triL_nilN (ae (tri_slo [(4,_),(1,_)] rfl (aa (ak bY N1 rfl rfl rfl (aj ii rfl rfl (ak kV N2 rfl rfl rfl (aY Tryz.underlying22 rfl rfl (bD rfl rfl rfl (aJ (pb := b9) [_,_,_] rfl rfl rfl rfl Tryz.call21 (fun w1 h1 h2 h3 => hZ (fun i => mV (s.cols.getD i ColX.zero)) s.cols.length 22 [] [.pointer (some ⟨b1,0,none⟩),.pointer (some ⟨b4,0,none⟩)] b9 _ _ _ _ w1 h2 (by omega) (by omega) (by (try simp only [List.nil_append,List.length_append,List.length_cons,List.length_nil,List.flatten_cons,List.flatten_nil] at hb ⊢); omega) Tryz.call22 (fun i A1 c1 l1 m1 w2 hi hs hP1 hm1 hb1 => by have hce := cenv (F := [_,_,_]) hV.pe h1 (.s .z) (.s (.s .z)); have hPV : PV w1 _ _ := ⟨hce.1,(hV.lv.chgL h1.chg (fun k hk => (hV.pe.g k hk).2))⟩; have hA2 := (hA.stab (hV.pe.st (PSub.of h1 h3))).mono (bl' := b4 :: b1 :: bl) (fun k hk => List.mem_cons_of_mem _ (List.mem_cons_of_mem _ hk)); exact print1K s y (b4 :: b1 :: bl) b4 b1 i b9 A1 c1 l1 m1 w2 hP1 hm1 (hPV.sub hs) (hce.2.stab (hce.1.st hs)) (hA2.stab (hce.1.st hs)) hi (hmc i hi) hb1)) (fun A27 c27 => triL_nilN (tri_slo [(4,_)] rfl (aa (ak bY N1 rfl rfl rfl (bf Tryz.underlying23 zs9 rfl rfl rfl rfl rfl (by decide) (by decide) (fun b29 => aJ (pb := b9) [_,_,_,_] rfl rfl rfl rfl Tryz.call20 (fun w1 h1 h2 h3 => dm [[41]] _ _ b9 _ _ _ _ _ w1 h2 (RdS.row .z w1 h1) (fun a ha => by cases ha; exact bk h1 (fun x hx => (List.mem_cons_of_mem _ (List.mem_cons_of_mem _ (List.mem_cons_of_mem _ hx)))) rfl) (by (try simp only [List.nil_append,List.length_append,List.length_cons,List.length_nil,List.flatten_cons,List.flatten_nil] at hb ⊢); omega) (by simp)) (fun A30 c30 => ab (an (ag (⟨(A30,c30),(.cons rfl (.nil _)),(fun w2 hw2 => eB (by rw [st_1 q1]; simp [cat,raw]) rfl (by rw [st_1 q1]; simp only [cat,raw]; omega) (hw2.sel [2,4,5] (by decide))),trivial⟩)))))))))))))))))))))))))))
     · skip
       refine ae (tri_slo [(11,_),(4,_),(1,_)] rfl (aa (aE rfl rfl rfl (o_assignN rfl rfl (av rfl (fun q2 => ?_) (fun q2 => ?_))))))
       · skip
         rw [st_2 q2] at hb
         simp only [raw,List.length_append,List.length_cons,List.length_nil] at hb
         exact aa (ak bY N0 rfl rfl rfl (aj cH rfl rfl (ak bB N1 rfl rfl rfl (e0 (parts := [_,_]) (dY [[100,114,111,112,32,116,97,98,108,101,32],s.t]) Tryz.underlying23 zs9 rfl rfl rfl rfl (by decide) (by decide) (fun b36 => aJ (pb := b9) [_,_,_] rfl rfl rfl rfl Tryz.call20 (fun w1 h1 h2 h3 => dm [[100,114,111,112,32,116,97,98,108,101,32],s.t] _ _ b9 _ _ _ _ _ w1 h2 (RdS.row .z w1 h1) (fun a ha => by cases ha; exact bk h1 (fun x hx => (List.mem_cons_of_mem _ (List.mem_cons_of_mem _ hx))) rfl) (by (try simp only [List.length_append,List.length_cons,List.length_nil,List.flatten_cons,List.flatten_nil] at hb ⊢); omega) (by simp)) (fun A37 c37 => ab (an (ag (⟨(A37,c37),(.cons rfl (.nil _)),(fun w2 hw2 => eB (by rw [st_2 q2]; simp [raw]) rfl (by rw [st_2 q2]; simp only [raw]; omega) (hw2.sel [1,3,4] (by decide))),trivial⟩)))))))))
       · skip
         refine ae (aa (aE rfl rfl rfl (o_assignN rfl rfl (av rfl (fun q3 => ?_) (fun q3 => ?_)))))
         · skip
           rw [st_3 q3] at hb
           simp only [cat,raw,List.length_append,List.length_cons,List.length_nil] at hb
           refine ae (tri_slo [(4,_),(1,_)] rfl (aa (ak bY N0 rfl rfl rfl (bf Tryz.underlying23 zs9 rfl rfl rfl rfl rfl (by decide) (by decide) (fun b41 => aJ (pb := b9) [_,_,_] rfl rfl rfl rfl Tryz.call20 (fun w1 h1 h2 h3 => dm [[99,114,101,97,116,101,32]] _ _ b9 _ _ _ _ _ w1 h2 (RdS.row .z w1 h1) (fun a ha => by cases ha; exact bk h1 (fun x hx => (List.mem_cons_of_mem _ (List.mem_cons_of_mem _ hx))) rfl) (by (try simp only [List.length_append,List.length_cons,List.length_nil,List.flatten_cons,List.flatten_nil] at hb ⊢); omega) (by simp)) (fun A42 c42 => triL_nilN (ae (ae (aa (aj kn rfl rfl (ak gd N2 rfl rfl rfl (triL_nilN (aD rfl (fun q4 => ?_) (fun q4 => ?_))))))))))))))
           · skip
             rw [q4] at hb
             simp only [if_true,List.length_cons,List.length_nil] at hb
             exact tri_slo [(4,_),(1,_)] rfl (aa (ak bY N1 rfl rfl rfl (bf Tryz.underlying23 zs9 rfl rfl rfl rfl rfl (by decide) (by decide) (fun b46 => aJ (pb := b9) [_,_,_,_] rfl rfl rfl rfl Tryz.call20 (fun w1 h1 h2 h3 => dm [[117,110,105,113,117,101,32]] _ _ b9 _ _ _ _ _ w1 h2 (RdS.row .z w1 h1) (fun a ha => by cases ha; exact bk h1 (fun x hx => (List.mem_cons_of_mem _ (List.mem_cons_of_mem _ (List.mem_cons_of_mem _ hx)))) rfl) (by (try simp only [List.nil_append,List.length_append,List.length_cons,List.length_nil,List.flatten_cons,List.flatten_nil] at hb ⊢); omega) (by simp)) (fun A47 c47 => triL_nilN (ae (aa (ak bY N2 rfl rfl rfl (aj fJ rfl rfl (ak bB N3 rfl rfl rfl (aj cH rfl rfl (ak bB N3 rfl rfl rfl (e0 (parts := [_,_,_,_,_]) (dY [[105,110,100,101,120,32],s.n,[32,111,110,32],s.t,[32,40]]) Tryz.underlying23 zs9 rfl rfl rfl rfl (by decide) (by decide) (fun b53 => aJ (pb := b9) [_,_,_,_,_] rfl rfl rfl rfl Tryz.call20 (fun w1 h1 h2 h3 => dm [[105,110,100,101,120,32],s.n,[32,111,110,32],s.t,[32,40]] _ _ b9 _ _ _ _ _ w1 h2 (RdS.row .z w1 h1) (fun a ha => by cases ha; exact bk h1 (fun x hx => (List.mem_cons_of_mem _ (List.mem_cons_of_mem _ (List.mem_cons_of_mem _ (List.mem_cons_of_mem _ hx))))) rfl) (by (try simp only [List.nil_append,List.length_append,List.length_cons,List.length_nil,List.flatten_cons,List.flatten_nil] at hb ⊢); omega) (by simp)) (fun A54 c54 => triL_nilN (ae (tri_slo [(4,_),(1,_)] rfl (aa (ak bY N3 rfl rfl rfl (aj gT rfl rfl (ak j6 N4 rfl rfl rfl (aY Tryz.underlying23 rfl rfl (bD rfl rfl rfl (aJ (pb := b9) [_,_,_,_,_] rfl rfl rfl rfl Tryz.call21 (fun w1 h1 h2 h3 => hZ (fun i => raw (s.on.getD i [])) s.on.length 23 [] [.pointer (some ⟨b4,0,none⟩),.pointer (some ⟨b1,0,none⟩)] b9 _ _ _ _ w1 h2 (by omega) (by omega) (by (try simp only [List.nil_append,raw,List.length_append,List.length_cons,List.length_nil,List.flatten_cons,List.flatten_nil] at hb ⊢); omega) Tryz.call23 (fun i A1 c1 l1 m1 w2 hi hs hP1 hm1 hb1 => by have hce := cenv (F := [_,_,_,_,_]) hV.pe h1 (.s (.s (.s .z))) (.s (.s (.s (.s .z)))); have hPV : PV w1 _ _ := ⟨hce.1,(hV.lv.chgL h1.chg (fun k hk => (hV.pe.g k hk).2))⟩; have hA2 := (hA.stab (hV.pe.st (PSub.of h1 h3))).mono (bl' := b4 :: b1 :: bl) (fun k hk => List.mem_cons_of_mem _ (List.mem_cons_of_mem _ hk)); exact tU s y (b4 :: b1 :: bl) b4 b1 i b9 A1 c1 l1 m1 w2 hP1 hm1 (hPV.sub hs) (hce.2.stab (hce.1.st hs)) (hA2.stab (hce.1.st hs)) hi hb1)) (fun A60 c60 => triL_nilN (tri_slo [(4,_)] rfl (aa (ak bY N3 rfl rfl rfl (bf Tryz.underlying23 zs9 rfl rfl rfl rfl rfl (by decide) (by decide) (fun b62 => aJ (pb := b9) [_,_,_,_,_,_] rfl rfl rfl rfl Tryz.call20 (fun w1 h1 h2 h3 => dm [[41]] _ _ b9 _ _ _ _ _ w1 h2 (RdS.row .z w1 h1) (fun a ha => by cases ha; exact bk h1 (fun x hx => (List.mem_cons_of_mem _ (List.mem_cons_of_mem _ (List.mem_cons_of_mem _ (List.mem_cons_of_mem _ (List.mem_cons_of_mem _ hx)))))) rfl) (by (try simp only [List.nil_append,raw,List.length_append,List.length_cons,List.length_nil,List.flatten_cons,List.flatten_nil] at hb ⊢); omega) (by simp)) (fun A63 c63 => ab (an (ag (⟨(A63,c63),(.cons rfl (.nil _)),(fun w2 hw2 => eB (by rw [st_3 q3,q4]; simp [cat,raw]) rfl (by rw [st_3 q3]; simp only [cat,raw]; omega) (hw2.sel [4,6,7] (by decide))),trivial⟩))))))))))))))))))))))))))))))))))
           · skip
             rw [q4] at hb
             simp only [Bool.false_eq_true,if_false,List.length_nil] at hb
             exact ao (ag (ae (tri_slo [(4,_),(1,_)] rfl (aa (ak bY N1 rfl rfl rfl (aj fJ rfl rfl (ak bB N2 rfl rfl rfl (aj cH rfl rfl (ak bB N2 rfl rfl rfl (e0 (parts := [_,_,_,_,_]) (dY [[105,110,100,101,120,32],s.n,[32,111,110,32],s.t,[32,40]]) Tryz.underlying23 zs9 rfl rfl rfl rfl (by decide) (by decide) (fun b53 => aJ (pb := b9) [_,_,_,_] rfl rfl rfl rfl Tryz.call20 (fun w1 h1 h2 h3 => dm [[105,110,100,101,120,32],s.n,[32,111,110,32],s.t,[32,40]] _ _ b9 _ _ _ _ _ w1 h2 (RdS.row .z w1 h1) (fun a ha => by cases ha; exact bk h1 (fun x hx => (List.mem_cons_of_mem _ (List.mem_cons_of_mem _ (List.mem_cons_of_mem _ hx)))) rfl) (by (try simp only [List.nil_append,List.length_append,List.length_cons,List.length_nil,List.flatten_cons,List.flatten_nil] at hb ⊢); omega) (by simp)) (fun A54 c54 => triL_nilN (ae (tri_slo [(4,_),(1,_)] rfl (aa (ak bY N2 rfl rfl rfl (aj gT rfl rfl (ak j6 N3 rfl rfl rfl (aY Tryz.underlying23 rfl rfl (bD rfl rfl rfl (aJ (pb := b9) [_,_,_,_] rfl rfl rfl rfl Tryz.call21 (fun w1 h1 h2 h3 => hZ (fun i => raw (s.on.getD i [])) s.on.length 23 [] [.pointer (some ⟨b4,0,none⟩),.pointer (some ⟨b1,0,none⟩)] b9 _ _ _ _ w1 h2 (by omega) (by omega) (by (try simp only [List.nil_append,raw,List.length_append,List.length_cons,List.length_nil,List.flatten_cons,List.flatten_nil] at hb ⊢); omega) Tryz.call23 (fun i A1 c1 l1 m1 w2 hi hs hP1 hm1 hb1 => by have hce := cenv (F := [_,_,_,_]) hV.pe h1 (.s (.s .z)) (.s (.s (.s .z))); have hPV : PV w1 _ _ := ⟨hce.1,(hV.lv.chgL h1.chg (fun k hk => (hV.pe.g k hk).2))⟩; have hA2 := (hA.stab (hV.pe.st (PSub.of h1 h3))).mono (bl' := b4 :: b1 :: bl) (fun k hk => List.mem_cons_of_mem _ (List.mem_cons_of_mem _ hk)); exact tU s y (b4 :: b1 :: bl) b4 b1 i b9 A1 c1 l1 m1 w2 hP1 hm1 (hPV.sub hs) (hce.2.stab (hce.1.st hs)) (hA2.stab (hce.1.st hs)) hi hb1)) (fun A60 c60 => triL_nilN (tri_slo [(4,_)] rfl (aa (ak bY N2 rfl rfl rfl (bf Tryz.underlying23 zs9 rfl rfl rfl rfl rfl (by decide) (by decide) (fun b62 => aJ (pb := b9) [_,_,_,_,_] rfl rfl rfl rfl Tryz.call20 (fun w1 h1 h2 h3 => dm [[41]] _ _ b9 _ _ _ _ _ w1 h2 (RdS.row .z w1 h1) (fun a ha => by cases ha; exact bk h1 (fun x hx => (List.mem_cons_of_mem _ (List.mem_cons_of_mem _ (List.mem_cons_of_mem _ (List.mem_cons_of_mem _ hx))))) rfl) (by (try simp only [List.nil_append,raw,List.length_append,List.length_cons,List.length_nil,List.flatten_cons,List.flatten_nil] at hb ⊢); omega) (by simp)) (fun A63 c63 => ab (an (ag (⟨(A63,c63),(.cons rfl (.nil _)),(fun w2 hw2 => eB (by rw [st_3 q3,q4]; simp [cat,raw]) rfl (by rw [st_3 q3]; simp only [cat,raw]; omega) (hw2.sel [3,5,6] (by decide))),trivial⟩)))))))))))))))))))))))))))))))
         · skip
           refine ae (tri_slo [(11,_),(4,_),(1,_)] rfl (aa (aE rfl rfl rfl (o_assignN rfl rfl (av rfl (fun q5 => ?_) (fun q5 => ?_))))))
           · skip
             rw [st_4 q5] at hb
             simp only [raw,List.length_append,List.length_cons,List.length_nil] at hb
             exact aa (ak bY N0 rfl rfl rfl (aj fJ rfl rfl (ak bB N1 rfl rfl rfl (e0 (parts := [_,_]) (dY [[100,114,111,112,32,105,110,100,101,120,32],s.n]) Tryz.underlying23 zs9 rfl rfl rfl rfl (by decide) (by decide) (fun b69 => aJ (pb := b9) [_,_,_] rfl rfl rfl rfl Tryz.call20 (fun w1 h1 h2 h3 => dm [[100,114,111,112,32,105,110,100,101,120,32],s.n] _ _ b9 _ _ _ _ _ w1 h2 (RdS.row .z w1 h1) (fun a ha => by cases ha; exact bk h1 (fun x hx => (List.mem_cons_of_mem _ (List.mem_cons_of_mem _ hx))) rfl) (by (try simp only [List.length_append,List.length_cons,List.length_nil,List.flatten_cons,List.flatten_nil] at hb ⊢); omega) (by simp)) (fun A70 c70 => ab (an (ag (⟨(A70,c70),(.cons rfl (.nil _)),(fun w2 hw2 => eB (by rw [st_4 q5]; simp [raw]) rfl (by rw [st_4 q5]; simp only [raw]; omega) (hw2.sel [1,3,4] (by decide))),trivial⟩)))))))))
           · skip
             refine ae (aa (aE rfl rfl rfl (o_assignN rfl rfl (av rfl (fun q6 => ?_) (fun q6 => ?_)))))
             · skip
               rw [st_5 q6] at hb
               simp only [cat,raw,List.length_append,List.length_cons,List.length_nil] at hb
               rw [part_5 q6] at hmy
               simp only [Bool.and_eq_true] at hmy
               have hmr : ∀ i,i < s.rows.length → f9 (s.rows.getD i []) = true := fun i hi => iW hmy.2.2 hi
               exact ae (tri_slo [(4,_),(1,_)] rfl (aa (ak bY N0 rfl rfl rfl (aj cH rfl rfl (ak bB N1 rfl rfl rfl (e0 (parts := [_,_,_]) (dY [[105,110,115,101,114,116,32,105,110,116,111,32],s.t,[32,118,97,108,117,101,115,32]]) Tryz.underlying23 zs9 rfl rfl rfl rfl (by decide) (by decide) (fun b76 => aJ (pb := b9) [_,_,_] rfl rfl rfl rfl Tryz.call20 (fun w1 h1 h2 h3 => dm [[105,110,115,101,114,116,32,105,110,116,111,32],s.t,[32,118,97,108,117,101,115,32]] _ _ b9 _ _ _ _ _ w1 h2 (RdS.row .z w1 h1) (fun a ha => by cases ha; exact bk h1 (fun x hx => (List.mem_cons_of_mem _ (List.mem_cons_of_mem _ hx))) rfl) (by (try simp only [List.length_append,List.length_cons,List.length_nil,List.flatten_cons,List.flatten_nil] at hb ⊢); omega) (by simp)) (fun A77 c77 => triL_nilN (tri_slo [(4,_),(1,_)] rfl (aa (ak bY N1 rfl rfl rfl (aj fu rfl rfl (ak iE N2 rfl rfl rfl (aY Tryz.underlying24 rfl rfl (bD rfl rfl rfl (aJ (pb := b9) [_,_,_] rfl rfl rfl rfl Tryz.call21 (fun w1 h1 h2 h3 => hZ (fun i => rowT (s.rows.getD i [])) s.rows.length 24 [] [.pointer (some ⟨b4,0,none⟩),.pointer (some ⟨b1,0,none⟩)] b9 _ _ _ _ w1 h2 (by omega) (by omega) (by (try simp only [List.nil_append,List.length_append,List.length_cons,List.length_nil,List.flatten_cons,List.flatten_nil] at hb ⊢); omega) Tryz.call24 (fun i A1 c1 l1 m1 w2 hi hs hP1 hm1 hb1 => by have hce := cenv (F := [_,_,_]) hV.pe h1 (.s .z) (.s (.s .z)); have hPV : PV w1 _ _ := ⟨hce.1,(hV.lv.chgL h1.chg (fun k hk => (hV.pe.g k hk).2))⟩; have hA2 := (hA.stab (hV.pe.st (PSub.of h1 h3))).mono (bl' := b4 :: b1 :: bl) (fun k hk => List.mem_cons_of_mem _ (List.mem_cons_of_mem _ hk)); exact print3K s y (b4 :: b1 :: bl) b4 b1 i b9 A1 c1 l1 m1 w2 hP1 hm1 (hPV.sub hs) (hce.2.stab (hce.1.st hs)) (hA2.stab (hce.1.st hs)) hi (hmr i hi) (hok.rows i hi) hb1)) (fun A83 c83 => ab (an (ag (⟨(A83,c83),(.cons rfl (.nil _)),(fun w2 hw2 => eB (by rw [st_5 q6]; simp [cat,raw]) rfl (by rw [st_5 q6]; simp only [cat,raw]; omega) (hw2.sel [1,3,4] (by decide))),trivial⟩))))))))))))))))))))
             · skip
               have hk6 : 6 ≤ s.k := by
                rcases Int.lt_or_le s.k 6 with h | h
                · exfalso
                  rw [pa (by omega)] at hmy
                  have := of_decide_eq_true hmy
                  omega
                · exact h
               exact tri_slo [(4,_),(1,_)] rfl (aa (ak bY N0 rfl rfl rfl (aW hY gc (.s .z) rfl rfl (vs := bS s y) rfl rfl (aJ (pb := b9) [_,_] rfl rfl rfl rfl Tryz.call27 (fun w1 h1 h2 h3 => othersK s y bl b9 _ _ _ _ w1 h2 (by omega) (hV.sub (PSub.of h1 h3)) (hA.stab (hV.pe.st (PSub.of h1 h3))) (by omega) hmy hok (by (try simp only [List.length_nil]); omega)) (fun A14 c14 => ab (an (ag (⟨(A14,c14),(.cons rfl (.nil _)),(fun w2 hw2 => eB (by simp) rfl (by rfl) (hw2.sel [0,2,3] (by decide))),trivial⟩))))))))
   refine ae ?_
   have hb := hT q0
   refine aa (ak bY N0 rfl rfl rfl (gX (J := Unit) (val := fun _ => .tuple #[.string (B (je _ _).1),.int .i64 (je _ _).2]) (D' := fun _ => prD b9 _ _ _ _ _) (Pu := fun _ => True) [_] (prD b9 _ _ _ _ _) [] (prL b9 _) rfl rfl rfl rfl Tryz.call28 (prD1 _ _ _ _ _ _) (prD2 _ _ _ _ _ _) (fun w1 h1 h2 => toldK b9 _ _ _ _ _ w1 h2 (by (try simp only [List.nil_append]); omega)) (fun _ _ => be rfl rfl rfl (be rfl rfl rfl (aH rfl rfl (o_assignN rfl rfl (aq (il rfl rfl rfl ?_)))))))); exact fun w1 hw1 => ⟨by rw [show max (0 : Int) ((ew s).2 : Int) = ((ew s).2 : Int) by omega,if_pos q0],hw1.chg⟩
end Go.Proofs.YtjbpkcbefmpfgaaGreatDoor
namespace Go.Proofs.YtjbpkcbefmpfgaaGreatDoor
open Go.WK Go.RowKit 
theorem uS {a b : Ex} {i : Nat} (h : ∀ j,j < i → a.as.getD j Ex.zero = b.as.getD j Ex.zero) (h1 : a.as.getD i Ex.zero = b.as.getD i Ex.zero) : ∀ j,j < i + 1 → a.as.getD j Ex.zero = b.as.getD j Ex.zero := fun j hj => by
 rcases Nat.lt_or_ge j i with h2 | h2
 · exact h j h2
 · have e : j = i := by omega
   rw [e]; exact h1
def SX (a : Ex) : Prop := ∀ (b : Ex) (cs ds : List Value) (w : World),ExC w a cs → ExC w b ds → a.size ≤ 70368744177664 → Calls Tryz.prog 17 #[.agg cs.toArray,.agg ds.toArray] w (cp w (.bool (decide (a = b))))
set_option maxHeartbeats 1000000 in
theorem sameStep (a b : Ex) (y z : SL) (xa xb : List Value) (w : World) (h1 : Rd w y.A xa) (h2 : ExsC w a.as xa) (h3 : Rd w z.A xb) (h4 : ExsC w b.as xb) (hz : a.size ≤ 70368744177664) (ih : ∀ i,i < a.as.length → SX (a.as.getD i Ex.zero)) : Calls Tryz.prog 17 #[.agg (bR a y).toArray,.agg (bR b z).toArray] w (cp w (.bool (decide (a = b)))) := by
 refine az (args := [.agg (bR a y).toArray,.agg (bR b z).toArray]) (lent := []) (H := []) Tryz.func17 rfl Tryz.ntmps17 rfl (Sat.start _ _ _ _) ((show Tri _ [(0,_),(1,_)] _ _ _ from ?_))
 have hRa : ∀ cx H,cx.w0 = w → cx.lent = [] → RdS cx H y.A _ := fun cx H q1 q2 => RdS.lent (by rw [q1]; exact h1) (fun b hb => by rw [q2]; simp)
 have hRb : ∀ cx H,cx.w0 = w → cx.lent = [] → RdS cx H z.A _ := fun cx H q1 q2 => RdS.lent (by rw [q1]; exact h3) (fun b hb => by rw [q2]; simp)
 have hxa := h2.len
 have hxb := h4.len
 have hal := as_len (e := a)
 refine ae (aa (cA _ rfl rfl rfl (fun b2 => cA _ rfl rfl rfl (fun b3 => o_assignN rfl rfl (ae (ae (aa (aj cW rfl rfl (ak bL N1 rfl rfl rfl (aj cW rfl rfl (ak bL N0 rfl rfl rfl (cK rfl rfl rfl (ah rfl rfl ?_)))))))))))))
 refine' aX [_,_,_,_,_] [(3,_),(2,_)] (dj := 11) (dr := 16) rfl rfl (fun g1 => ?_) ⟨_,rfl,rfl,rfl,(.cons rfl (.cons rfl (.nil _)))⟩ rfl ?_
 rotate_left
 · skip
   exact aj km rfl rfl (aW j5 ma (.s .z) rfl rfl (vs := Val.cs a.v) rfl rfl (aj km rfl rfl (aW j5 ma .z rfl rfl (vs := Val.cs b.v) rfl rfl (o_neqV pA rfl rfl rfl (ab (Piece.mk rfl rfl (.cons rfl (.cons rfl (.nil _))) (fun _ h => h)))))))
 refine ah rfl rfl ?_
 refine' aX [_,_,_,_,_] [(3,_),(2,_)] (dj := 18) (dr := 23) rfl rfl (fun g2 => ?_) ⟨_,rfl,rfl,rfl,(.cons rfl (.cons rfl (.nil _)))⟩ rfl ?_
 rotate_left
 · skip
   exact aj ig rfl rfl (ak bB N1 rfl rfl rfl (aj ig rfl rfl (ak bB N0 rfl rfl rfl (dE rfl rfl rfl (ab (Piece.mk rfl rfl (.cons rfl (.cons rfl (.nil _))) (fun _ h => h)))))))
 refine ah rfl rfl ?_
 refine' aX [_,_,_,_,_] [(3,_),(2,_)] (dj := 25) (dr := 30) rfl rfl (fun g3 => ?_) ⟨_,rfl,rfl,rfl,(.cons rfl (.cons rfl (.nil _)))⟩ rfl ?_
 rotate_left
 · skip
   exact aj ie rfl rfl (ak bB N1 rfl rfl rfl (aj ie rfl rfl (ak bB N0 rfl rfl rfl (dE rfl rfl rfl (ab (Piece.mk rfl rfl (.cons rfl (.cons rfl (.nil _))) (fun _ h => h)))))))
 refine ah rfl rfl ?_
 refine' aX [_,_,_,_,_] [(3,_),(2,_)] (dj := 32) (dr := 37) rfl rfl (fun g4 => ?_) ⟨_,rfl,rfl,rfl,(.cons rfl (.cons rfl (.nil _)))⟩ rfl ?_
 rotate_left
 · skip
   exact aj pE rfl rfl (ak bL N1 rfl rfl rfl (aj pE rfl rfl (ak bL N0 rfl rfl rfl (cK rfl rfl rfl (ab (Piece.mk rfl rfl (.cons rfl (.cons rfl (.nil _))) (fun _ h => h)))))))
 refine ah rfl rfl ?_
 refine' aX [_,_,_,_,_,_,_] [(3,_),(2,_)] (dj := 39) (dr := 46) rfl rfl (fun g5 => ?_) ⟨_,rfl,rfl,rfl,(.cons rfl (.cons rfl (.nil _)))⟩ rfl ?_
 rotate_left
 · skip
   exact aj eA rfl rfl (ak eJ N1 rfl rfl rfl (aY Tryz.underlying28 rfl rfl (aj eA rfl rfl (ak eJ N0 rfl rfl rfl (aY Tryz.underlying28 rfl rfl (cK rfl rfl rfl (ab (Piece.mk rfl rfl (.cons rfl (.cons rfl (.nil _))) (fun _ h => h)))))))))
 refine triL_nilN (aD rfl (fun q0 => ?_) (fun q0 => ?_))
 · skip
   refine ae (aa (o_assignN rfl rfl (aq (am (bb rfl rfl ?_))))); exact fun w1 hw1 => ⟨congrArg (fun b => Ending.returned (.bool b)) (by exact (decide_eq_false (ex_ne q0)).symm),hw1.chg⟩
 · skip
   have hlen := ex_len q0
   refine ao (ag (ae (ae (aa (o_assignN rfl rfl (ay (bz (ι := Nat) (F := fun i => [(2,.pointer (some ⟨b2,0,none⟩)),(3,.pointer (some ⟨b3,0,none⟩)),(5,.int .i64 (i : Int))]) (HH := fun i => [box b3 30 (bR b z),box b2 30 (bR a y)]) (Pu := fun i => i ≤ a.as.length ∧ ∀ j,j < i → a.as.getD j Ex.zero = b.as.getD j Ex.zero) (μ := fun i => a.as.length - i) (0) (.cons rfl (.cons rfl (.cons rfl (.nil _)))) (fun _ h => h) (⟨Nat.zero_le _,fun j hj => absurd hj (by omega)⟩) (fun i hi => ae (ae (aa (ah rfl rfl (aj eA rfl rfl (ak eJ N1 rfl rfl rfl (aY Tryz.underlying28 rfl rfl (cg rfl rfl rfl (triL_nilN (av rfl (fun q1 => ?_) (fun q1 => ?_))))))))))))))))))
   · skip
     have hil : i < a.as.length := by omega
     refine ao (ag (ae (ay (ae (tri_slo [(2,_),(3,_),(5,_)] rfl ?_)))))
     obtain ⟨ca,hca,hka⟩ := ExsC.at i h2 hil
     obtain ⟨cb,hcb,hkb⟩ := ExsC.at i h4 (by omega)
     refine bh (_) [(0,true),(1,true),(2,true),(3,true),(4,true),(5,true),(6,true),(7,true),(8,true),(9,true),(10,false),(11,false)] [10,11] (by kernel_rfl) (by kernel_rfl) (fun _ h => h) (ai rfl (aj eA rfl rfl (ab ⟨rfl,ai rfl (ak eJ N1 rfl rfl rfl (ab ⟨rfl,ai rfl (ah rfl rfl (ab ⟨rfl,ai rfl (aS Tryz.underlying28 ba rfl rfl rfl (hRa _ _ rfl rfl) (by (try simp only [List.length_append,List.length_cons,List.length_nil]); omega) (by (try simp only [List.length_append,List.length_cons,List.length_nil]); omega) (by omega) (by decide) (ab ⟨rfl,ai rfl (bF bo ba rfl rfl (hRa _ _ rfl rfl) (vs := ca) hca hka.len (by decide) (ab ⟨rfl,ai rfl (aj eA rfl rfl (ab ⟨rfl,ai rfl (ak eJ N0 rfl rfl rfl (ab ⟨rfl,ai rfl (ah rfl rfl (ab ⟨rfl,ai rfl (aS Tryz.underlying28 ba rfl rfl rfl (hRb _ _ rfl rfl) (by (try simp only [List.length_append,List.length_cons,List.length_nil]); omega) (by (try simp only [List.length_append,List.length_cons,List.length_nil]); omega) (by omega) (by decide) (ab ⟨rfl,ai rfl (bF bo ba rfl rfl (hRb _ _ rfl rfl) (vs := cb) hcb hkb.len (by decide) (ab ⟨rfl,(bH [10,11] [_,_] rfl rfl (aF (first := []) (cap := []) rfl rfl rfl Tryz.call17 (fun w1 h1 => ih i hil _ ca cb w1 (ExC.chg h1.chg _ _ hka) (ExC.chg h1.chg _ _ hkb) (by have := tc (e := a) hil; omega)) (dB rfl rfl (ab ⟨rfl,(ag (aD rfl (fun q2 => ?_) (fun q2 => ?_)))⟩))))⟩))⟩))⟩))⟩))⟩))⟩))⟩))⟩))⟩))⟩)))
     · skip
       have q2 := cE q2
       refine ae (ar [] (.nil _) (aa (o_assignN rfl rfl (aq (ap (am (am (ap (am (bb rfl rfl ?_)))))))))); exact fun w1 hw1 => ⟨congrArg (fun b => Ending.returned (.bool b)) (by exact (decide_eq_false (fun e => (of_decide_eq_false q2) (by rw [e]))).symm),hw1.chg⟩
     · skip
       have q2 := cn q2
       exact ao (an (ag (tri_slo [(2,_),(3,_),(5,_)] rfl (aa (ah rfl rfl (bn rfl rfl rfl (by (try simp only [List.length_append,List.length_cons,List.length_nil]); omega) (o_assignN rfl rfl (⟨i + 1,(.cons rfl (.cons rfl (.cons rfl (.nil _)))),fun _ h => h,⟨by omega,fun j hj => uS hi.2 (of_decide_eq_true q2) j hj⟩,by omega⟩))))))))
   · skip
     refine aZ (aw (aw (aL (ag (ae (ar [] (.nil _) (aa (o_assignN rfl rfl (aq (bb rfl rfl ?_)))))))))); exact fun w1 hw1 => ⟨congrArg (fun b => Ending.returned (.bool b)) (by exact (decide_eq_true (ex_eq q0 (fun j hj => hi.2 j (by omega)))).symm),hw1.chg⟩
end Go.Proofs.YtjbpkcbefmpfgaaGreatDoor
namespace Go.Proofs.YtjbpkcbefmpfgaaGreatDoor
open Go.WK Go.RowKit 
theorem sameAll : ∀ (n : Nat) (a : Ex),a.size < n → SX a := by
 intro n
 induction n with
 | zero => intro a h; omega
 | succ n ih =>
  intro a hs b cs ds w ha hb hz
  obtain ⟨y,xa,rfl,_,h1,h2⟩ := exC_R ha
  obtain ⟨z,xb,rfl,_,h3,h4⟩ := exC_R hb
  exact sameStep a b y z xa xb w h1 h2 h3 h4 hz (fun i hi => ih _ (by have := tc (e := a) hi; omega))
theorem oL (a b : Ex) (cs ds : List Value) (w : World) (ha : ExC w a cs) (hb : ExC w b ds) (hz : a.size ≤ 70368744177664) : Calls Tryz.prog 17 #[.agg cs.toArray,.agg ds.toArray] w (cp w (.bool (decide (a = b)))) := sameAll (a.size + 1) a (by omega) b cs ds w ha hb hz
end Go.Proofs.YtjbpkcbefmpfgaaGreatDoor
namespace Go.Proofs.YtjbpkcbefmpfgaaGreatDoor
open Go.WK Go.RowKit 
theorem nJ (x0 : Int) (x2 : ByteArray) (x3 : ByteArray) : Tryz.prog.built 30 [(0,.int .i64 x0),(2,.string x2),(3,.string x3)] = some ([.int .i64 x0,.int .i64 0,.int .i64 0,.string .empty,.string x2,.string x3,.int .i64 0,.slice none 0 0] : List Value).toArray := by kernel_rfl
end Go.Proofs.YtjbpkcbefmpfgaaGreatDoor
namespace Go.Proofs.YtjbpkcbefmpfgaaGreatDoor
open Go.WK Go.RowKit 
theorem flat71 : gY Tryz.prog 71 = some colKs := by kernel_rfl
theorem flat121 : gY Tryz.prog 121 = some ordKs := by kernel_rfl
theorem uT (l m : List ColX) (y z : SL) (bl bm : List Nat) (xa xb : List Value) (w : World) (hA : SlR colKd bl w l y xa) (hB : SlR colKd bm w m z xb) (hn : l.length ≤ 70368744177664) : Calls Tryz.prog 48 #[.slice y.A l.length y.k,.slice z.A m.length z.k] w (cp w (.bool (decide (l = m)))) := by
 refine az (args := [.slice y.A l.length y.k,.slice z.A m.length z.k]) (lent := []) (H := []) Tryz.func48 rfl Tryz.ntmps48 rfl (Sat.start _ _ _ _) ((show Tri _ [(0,_),(1,_)] _ _ _ from ae (aa (o_assignN rfl rfl (ae (ae (aa (ah rfl rfl (aY Tryz.underlying22 rfl rfl (ah rfl rfl (aY Tryz.underlying22 rfl rfl (cK rfl rfl rfl (triL_nilN (av rfl (fun q0 => ?_) (fun q0 => ?_)))))))))))))))
 · skip
   refine ae (ar [] (.nil _) (aa (o_assignN rfl rfl (aq (am (bb rfl rfl ?_)))))); exact fun w1 hw1 => ⟨congrArg (fun b => Ending.returned (.bool b)) (by exact (decide_eq_false (r5 q0)).symm),hw1.chg⟩
 · skip
   have hlen : l.length = m.length := by omega
   refine ao (ag (ae (ae (tri_slo [(0,_),(1,_)] rfl (aa (o_assignN rfl rfl (ay (bz (ι := Nat) (F := fun i => [(0,.slice y.A l.length y.k),(1,.slice z.A m.length z.k),(5,.int .i64 (i : Int))]) (HH := fun i => []) (Pu := fun i => i ≤ l.length ∧ ∀ j,j < i → l.getD j ColX.zero = m.getD j ColX.zero) (μ := fun i => l.length - i) (0) (.cons rfl (.cons rfl (.cons rfl (.nil _)))) (fun _ h => h) (⟨Nat.zero_le _,fun j hj => absurd hj (by omega)⟩) (fun i hi => ae (ae (aa (ah rfl rfl (ah rfl rfl (aY Tryz.underlying22 rfl rfl (cg rfl rfl rfl (triL_nilN (av rfl (fun q1 => ?_) (fun q1 => ?_))))))))))))))))))
   · skip
     have hil : i < l.length := by omega
     refine ao (ag (ae (ay (ae (tri_slo [(0,_),(1,_),(5,_)] rfl ?_)))))
     have hca := o8 hA i hil
     have hcb := o8 hB i (by omega)
     refine bh (_) [(0,true),(1,true),(2,true),(3,true),(4,true),(5,true),(6,true),(7,true),(8,false)] [8] (by kernel_rfl) (by kernel_rfl) (fun _ h => h) (ai rfl (ah rfl rfl (ab ⟨rfl,ai rfl (ah rfl rfl (ab ⟨rfl,ai rfl (aS Tryz.underlying22 sz71 rfl rfl rfl (hA.rd0 _ _ rfl rfl) (by (try simp only [List.length_append,List.length_cons,List.length_nil]); omega) (by (try simp only [List.length_append,List.length_cons,List.length_nil]); omega) hA.len (by decide) (ab ⟨rfl,ai rfl (bF agg71 sz71 rfl rfl (hA.rd0 _ _ rfl rfl) (vs := ColX.cs (l.getD i ColX.zero)) hca rfl (by decide) (ab ⟨rfl,ai rfl (ah rfl rfl (ab ⟨rfl,ai rfl (ah rfl rfl (ab ⟨rfl,ai rfl (aS Tryz.underlying22 sz71 rfl rfl rfl (hB.rd0 _ _ rfl rfl) (by (try simp only [List.length_append,List.length_cons,List.length_nil]); omega) (by (try simp only [List.length_append,List.length_cons,List.length_nil]); omega) hB.len (by decide) (ab ⟨rfl,ai rfl (bF agg71 sz71 rfl rfl (hB.rd0 _ _ rfl rfl) (vs := ColX.cs (m.getD i ColX.zero)) hcb rfl (by decide) (ab ⟨rfl,(bH [8] [_] rfl rfl (o_neqCol flat71 rfl rfl rfl (ab ⟨rfl,(ag (aD rfl (fun q2 => ?_) (fun q2 => ?_)))⟩)))⟩))⟩))⟩))⟩))⟩))⟩))⟩))⟩)))
     · skip
       have q2 := of_decide_eq_false (cE q2)
       refine ae (ar [] (.nil _) (aa (o_assignN rfl rfl (aq (ap (am (am (ap (am (bb rfl rfl ?_)))))))))); exact fun w1 hw1 => ⟨congrArg (fun b => Ending.returned (.bool b)) (by exact (decide_eq_false (at_ne q2)).symm),hw1.chg⟩
     · skip
       have q2 := of_decide_eq_true (cn q2)
       exact ao (an (ag (tri_slo [(0,_),(1,_),(5,_)] rfl (aa (ah rfl rfl (bn rfl rfl rfl (by (try simp only [List.length_append,List.length_cons,List.length_nil]); omega) (o_assignN rfl rfl (⟨i + 1,(.cons rfl (.cons rfl (.cons rfl (.nil _)))),fun _ h => h,⟨by omega,upd hi.2 q2⟩,by omega⟩))))))))
   · skip
     refine aZ (aw (aw (aL (ag (ae (ar [] (.nil _) (aa (o_assignN rfl rfl (aq (bb rfl rfl ?_)))))))))); exact fun w1 hw1 => ⟨congrArg (fun b => Ending.returned (.bool b)) (by exact (decide_eq_true (fj ColX.zero hlen (fun j hj => hi.2 j (by omega)))).symm),hw1.chg⟩
theorem sI (l m : List (List UInt8)) (y z : SL) (bl bm : List Nat) (xa xb : List Value) (w : World) (hA : SlR nameKd bl w l y xa) (hB : SlR nameKd bm w m z xb) (hn : l.length ≤ 70368744177664) : Calls Tryz.prog 49 #[.slice y.A l.length y.k,.slice z.A m.length z.k] w (cp w (.bool (decide (l = m)))) := by
 refine az (args := [.slice y.A l.length y.k,.slice z.A m.length z.k]) (lent := []) (H := []) Tryz.func49 rfl Tryz.ntmps49 rfl (Sat.start _ _ _ _) ((show Tri _ [(0,_),(1,_)] _ _ _ from ae (aa (o_assignN rfl rfl (ae (ae (aa (ah rfl rfl (aY Tryz.underlying23 rfl rfl (ah rfl rfl (aY Tryz.underlying23 rfl rfl (cK rfl rfl rfl (triL_nilN (av rfl (fun q0 => ?_) (fun q0 => ?_)))))))))))))))
 · skip
   refine ae (ar [] (.nil _) (aa (o_assignN rfl rfl (aq (am (bb rfl rfl ?_)))))); exact fun w1 hw1 => ⟨congrArg (fun b => Ending.returned (.bool b)) (by exact (decide_eq_false (r5 q0)).symm),hw1.chg⟩
 · skip
   have hlen : l.length = m.length := by omega
   refine ao (ag (ae (ae (tri_slo [(0,_),(1,_)] rfl (aa (o_assignN rfl rfl (ay (bz (ι := Nat) (F := fun i => [(0,.slice y.A l.length y.k),(1,.slice z.A m.length z.k),(5,.int .i64 (i : Int))]) (HH := fun i => []) (Pu := fun i => i ≤ l.length ∧ ∀ j,j < i → l.getD j [] = m.getD j []) (μ := fun i => l.length - i) (0) (.cons rfl (.cons rfl (.cons rfl (.nil _)))) (fun _ h => h) (⟨Nat.zero_le _,fun j hj => absurd hj (by omega)⟩) (fun i hi => ae (ae (aa (ah rfl rfl (ah rfl rfl (aY Tryz.underlying23 rfl rfl (cg rfl rfl rfl (triL_nilN (av rfl (fun q1 => ?_) (fun q1 => ?_))))))))))))))))))
   · skip
     have hil : i < l.length := by omega
     refine ao (ag (ae (ay (ae (tri_slo [(0,_),(1,_),(5,_)] rfl ?_)))))
     have hca := mh hA i hil
     have hcb := mh hB i (by omega)
     refine bh (_) [(0,true),(1,true),(2,true),(3,true),(4,true),(5,true),(6,true),(7,true),(8,false)] [8] (by kernel_rfl) (by kernel_rfl) (fun _ h => h) (ai rfl (ah rfl rfl (ab ⟨rfl,ai rfl (ah rfl rfl (ab ⟨rfl,ai rfl (aS Tryz.underlying23 sz9 rfl rfl rfl (hA.rd0 _ _ rfl rfl) (by (try simp only [List.length_append,List.length_cons,List.length_nil]); omega) (by (try simp only [List.length_append,List.length_cons,List.length_nil]); omega) hA.len (by decide) (ab ⟨rfl,ai rfl (aK bB rfl rfl (hA.rd0 _ _ rfl rfl) (aR hca (j := 0) rfl) (ab ⟨rfl,ai rfl (ah rfl rfl (ab ⟨rfl,ai rfl (ah rfl rfl (ab ⟨rfl,ai rfl (aS Tryz.underlying23 sz9 rfl rfl rfl (hB.rd0 _ _ rfl rfl) (by (try simp only [List.length_append,List.length_cons,List.length_nil]); omega) (by (try simp only [List.length_append,List.length_cons,List.length_nil]); omega) hB.len (by decide) (ab ⟨rfl,ai rfl (aK bB rfl rfl (hB.rd0 _ _ rfl rfl) (aR hcb (j := 0) rfl) (ab ⟨rfl,(bH [8] [_] rfl rfl (dE rfl rfl rfl (ab ⟨rfl,(ag (aD rfl (fun q2 => ?_) (fun q2 => ?_)))⟩)))⟩))⟩))⟩))⟩))⟩))⟩))⟩))⟩)))
     · skip
       have q2 := of_decide_eq_true q2
       refine ae (ar [] (.nil _) (aa (o_assignN rfl rfl (aq (ap (am (am (ap (am (bb rfl rfl ?_)))))))))); exact fun w1 hw1 => ⟨congrArg (fun b => Ending.returned (.bool b)) (by exact (decide_eq_false (at_ne q2)).symm),hw1.chg⟩
     · skip
       have q2 := Decidable.not_not.1 (of_decide_eq_false q2)
       exact ao (an (ag (tri_slo [(0,_),(1,_),(5,_)] rfl (aa (ah rfl rfl (bn rfl rfl rfl (by (try simp only [List.length_append,List.length_cons,List.length_nil]); omega) (o_assignN rfl rfl (⟨i + 1,(.cons rfl (.cons rfl (.cons rfl (.nil _)))),fun _ h => h,⟨by omega,upd hi.2 q2⟩,by omega⟩))))))))
   · skip
     refine aZ (aw (aw (aL (ag (ae (ar [] (.nil _) (aa (o_assignN rfl rfl (aq (bb rfl rfl ?_)))))))))); exact fun w1 hw1 => ⟨congrArg (fun b => Ending.returned (.bool b)) (by exact (decide_eq_true (fj ([] : List UInt8) hlen (fun j hj => hi.2 j (by omega)))).symm),hw1.chg⟩
theorem sameExsK (l m : List Ex) (y z : SL) (bl bm : List Nat) (xa xb : List Value) (w : World) (hA : SlR dI bl w l y xa) (hB : SlR dI bm w m z xb) (hn : l.length ≤ 70368744177664) (hz : ∀ i,i < l.length → (l.getD i Ex.zero).size ≤ 70368744177664) : Calls Tryz.prog 51 #[.slice y.A l.length y.k,.slice z.A m.length z.k] w (cp w (.bool (decide (l = m)))) := by
 refine az (args := [.slice y.A l.length y.k,.slice z.A m.length z.k]) (lent := []) (H := []) Tryz.func51 rfl Tryz.ntmps51 rfl (Sat.start _ _ _ _) ((show Tri _ [(0,_),(1,_)] _ _ _ from ae (aa (o_assignN rfl rfl (ae (ae (aa (ah rfl rfl (aY Tryz.underlying28 rfl rfl (ah rfl rfl (aY Tryz.underlying28 rfl rfl (cK rfl rfl rfl (triL_nilN (av rfl (fun q0 => ?_) (fun q0 => ?_)))))))))))))))
 · skip
   refine ae (ar [] (.nil _) (aa (o_assignN rfl rfl (aq (am (bb rfl rfl ?_)))))); exact fun w1 hw1 => ⟨congrArg (fun b => Ending.returned (.bool b)) (by exact (decide_eq_false (r5 q0)).symm),hw1.chg⟩
 · skip
   have hlen : l.length = m.length := by omega
   refine ao (ag (ae (ae (tri_slo [(0,_),(1,_)] rfl (aa (o_assignN rfl rfl (ay (bz (ι := Nat) (F := fun i => [(0,.slice y.A l.length y.k),(1,.slice z.A m.length z.k),(5,.int .i64 (i : Int))]) (HH := fun i => []) (Pu := fun i => i ≤ l.length ∧ ∀ j,j < i → l.getD j Ex.zero = m.getD j Ex.zero) (μ := fun i => l.length - i) (0) (.cons rfl (.cons rfl (.cons rfl (.nil _)))) (fun _ h => h) (⟨Nat.zero_le _,fun j hj => absurd hj (by omega)⟩) (fun i hi => ae (ae (aa (ah rfl rfl (ah rfl rfl (aY Tryz.underlying28 rfl rfl (cg rfl rfl rfl (triL_nilN (av rfl (fun q1 => ?_) (fun q1 => ?_))))))))))))))))))
   · skip
     have hil : i < l.length := by omega
     refine ao (ag (ae (ay (ae (tri_slo [(0,_),(1,_),(5,_)] rfl ?_)))))
     obtain ⟨ya,hca,hya⟩ := ex_at hA i hil
     obtain ⟨yb,hcb,hyb⟩ := ex_at hB i (by omega)
     refine bh (_) [(0,true),(1,true),(2,true),(3,true),(4,true),(5,true),(6,true),(7,true),(8,false),(9,false)] [8,9] (by kernel_rfl) (by kernel_rfl) (fun _ h => h) (ai rfl (ah rfl rfl (ab ⟨rfl,ai rfl (ah rfl rfl (ab ⟨rfl,ai rfl (aS Tryz.underlying28 ba rfl rfl rfl (hA.rd0 _ _ rfl rfl) (by (try simp only [List.length_append,List.length_cons,List.length_nil]); omega) (by (try simp only [List.length_append,List.length_cons,List.length_nil]); omega) hA.len (by decide) (ab ⟨rfl,ai rfl (bF bo ba rfl rfl (hA.rd0 _ _ rfl rfl) (vs := bR (l.getD i Ex.zero) ya) hca rfl (by decide) (ab ⟨rfl,ai rfl (ah rfl rfl (ab ⟨rfl,ai rfl (ah rfl rfl (ab ⟨rfl,ai rfl (aS Tryz.underlying28 ba rfl rfl rfl (hB.rd0 _ _ rfl rfl) (by (try simp only [List.length_append,List.length_cons,List.length_nil]); omega) (by (try simp only [List.length_append,List.length_cons,List.length_nil]); omega) hB.len (by decide) (ab ⟨rfl,ai rfl (bF bo ba rfl rfl (hB.rd0 _ _ rfl rfl) (vs := bR (m.getD i Ex.zero) yb) hcb rfl (by decide) (ab ⟨rfl,(bH [8,9] [_,_] rfl rfl (aF (first := []) (cap := []) rfl rfl rfl Tryz.call17 (fun w1 h1 => oL _ _ _ _ w1 (ExC.chg h1.chg _ _ (ExK.c _ _ hya)) (ExC.chg h1.chg _ _ (ExK.c _ _ hyb)) (hz i hil)) (dB rfl rfl (ab ⟨rfl,(ag (aD rfl (fun q2 => ?_) (fun q2 => ?_)))⟩))))⟩))⟩))⟩))⟩))⟩))⟩))⟩))⟩)))
     · skip
       have q2 := of_decide_eq_false (cE q2)
       refine ae (ar [] (.nil _) (aa (o_assignN rfl rfl (aq (ap (am (am (ap (am (bb rfl rfl ?_)))))))))); exact fun w1 hw1 => ⟨congrArg (fun b => Ending.returned (.bool b)) (by exact (decide_eq_false (at_ne q2)).symm),hw1.chg⟩
     · skip
       have q2 := of_decide_eq_true (cn q2)
       exact ao (an (ag (tri_slo [(0,_),(1,_),(5,_)] rfl (aa (ah rfl rfl (bn rfl rfl rfl (by (try simp only [List.length_append,List.length_cons,List.length_nil]); omega) (o_assignN rfl rfl (⟨i + 1,(.cons rfl (.cons rfl (.cons rfl (.nil _)))),fun _ h => h,⟨by omega,upd hi.2 q2⟩,by omega⟩))))))))
   · skip
     refine aZ (aw (aw (aL (ag (ae (ar [] (.nil _) (aa (o_assignN rfl rfl (aq (bb rfl rfl ?_)))))))))); exact fun w1 hw1 => ⟨congrArg (fun b => Ending.returned (.bool b)) (by exact (decide_eq_true (fj Ex.zero hlen (fun j hj => hi.2 j (by omega)))).symm),hw1.chg⟩
set_option maxRecDepth 100000 in
set_option maxHeartbeats 2000000 in
theorem sameQK (a b : QryX) (y z : QLay) (bl bm : List Nat) (w : World) (hA : QAt bl w a y) (hB : QAt bm w b z) (hbd : QBd a) : Calls Tryz.prog 50 #[.agg (ey a y).toArray,.agg (ey b z).toArray] w (cp w (.bool (decide (a = b)))) := by
 refine az (args := [.agg (ey a y).toArray,.agg (ey b z).toArray]) (lent := []) (H := []) Tryz.func50 rfl Tryz.ntmps50 rfl (Sat.start _ _ _ _) ((show Tri _ [(0,_),(1,_)] _ _ _ from ?_))
 obtain ⟨xIa,xFa,xOa,hIa,hFa,hWa,hOa⟩ := hA
 obtain ⟨xIb,xFb,xOb,hIb,hFb,hWb,hOb⟩ := hB
 have n1 : a.items.length ≤ 70368744177664 := hbd.ni
 have n2 : a.from_.length ≤ 70368744177664 := hbd.nf
 have n3 : a.ord.length ≤ 70368744177664 := hbd.no
 refine ae (aa (cA _ rfl rfl rfl (fun b2 => cA _ rfl rfl rfl (fun b3 => o_assignN rfl rfl (ae (ae (aa (aj ly rfl rfl (ak gd N1 rfl rfl rfl (aj ly rfl rfl (ak gd N0 rfl rfl rfl (oN rfl Tryz.underlying4 rfl rfl (ah rfl rfl ?_)))))))))))))
 refine' aX [_,_,_,_,_] [(3,_),(2,_)] (dj := 13) (dr := 18) rfl rfl (fun g1 => ?_) ⟨_,rfl,rfl,rfl,(.cons rfl (.cons rfl (.nil _)))⟩ rfl ?_
 rotate_left
 · skip
   exact aj kh rfl rfl (ak gd N1 rfl rfl rfl (aj kh rfl rfl (ak gd N0 rfl rfl rfl (oN rfl Tryz.underlying4 rfl rfl (ab (Piece.mk rfl rfl (.cons rfl (.cons rfl (.nil _))) (fun _ h => h)))))))
 refine ah rfl rfl ?_
 refine' aX [_,_,_,_,_] [(3,_),(2,_)] (dj := 20) (dr := 25) rfl rfl (fun g2 => ?_) ⟨_,rfl,rfl,rfl,(.cons rfl (.cons rfl (.nil _)))⟩ rfl ?_
 rotate_left
 · skip
   exact aj kl rfl rfl (ak gd N1 rfl rfl rfl (aj kl rfl rfl (ak gd N0 rfl rfl rfl (oN rfl Tryz.underlying4 rfl rfl (ab (Piece.mk rfl rfl (.cons rfl (.cons rfl (.nil _))) (fun _ h => h)))))))
 refine ah rfl rfl ?_
 refine' aX [_,_,_,_,_] [(3,_),(2,_)] (dj := 27) (dr := 32) rfl rfl (fun g3 => ?_) ⟨_,rfl,rfl,rfl,(.cons rfl (.cons rfl (.nil _)))⟩ rfl ?_
 rotate_left
 · skip
   exact aj jF rfl rfl (ak bL N1 rfl rfl rfl (aj jF rfl rfl (ak bL N0 rfl rfl rfl (cK rfl rfl rfl (ab (Piece.mk rfl rfl (.cons rfl (.cons rfl (.nil _))) (fun _ h => h)))))))
 refine ah rfl rfl ?_
 refine' aX [_,_,_,_,_,_,_] [(3,_),(2,_)] (dj := 34) (dr := 41) rfl rfl (fun g4 => ?_) ⟨_,rfl,rfl,rfl,(.cons rfl (.cons rfl (.nil _)))⟩ rfl ?_
 rotate_left
 · skip
   exact aj dy rfl rfl (ak ft N1 rfl rfl rfl (aY Tryz.underlying31 rfl rfl (aj dy rfl rfl (ak ft N0 rfl rfl rfl (aY Tryz.underlying31 rfl rfl (cK rfl rfl rfl (ab (Piece.mk rfl rfl (.cons rfl (.cons rfl (.nil _))) (fun _ h => h)))))))))
 refine ah rfl rfl ?_
 refine' aX [_,_,_,_,_,_,_] [(3,_),(2,_)] (dj := 43) (dr := 50) rfl rfl (fun g5 => ?_) ⟨_,rfl,rfl,rfl,(.cons rfl (.cons rfl (.nil _)))⟩ rfl ?_
 rotate_left
 · skip
   exact aj cV rfl rfl (ak ej N1 rfl rfl rfl (aY Tryz.underlying32 rfl rfl (aj cV rfl rfl (ak ej N0 rfl rfl rfl (aY Tryz.underlying32 rfl rfl (cK rfl rfl rfl (ab (Piece.mk rfl rfl (.cons rfl (.cons rfl (.nil _))) (fun _ h => h)))))))))
 refine ah rfl rfl ?_
 refine' aX [_,_,_,_,_,_,_] [(3,_),(2,_)] (dj := 52) (dr := 59) rfl rfl (fun g6 => ?_) ⟨_,rfl,rfl,rfl,(.cons rfl (.cons rfl (.nil _)))⟩ rfl ?_
 rotate_left
 · skip
   exact aj eM rfl rfl (ak hM N1 rfl rfl rfl (aY Tryz.underlying33 rfl rfl (aj eM rfl rfl (ak hM N0 rfl rfl rfl (aY Tryz.underlying33 rfl rfl (cK rfl rfl rfl (ab (Piece.mk rfl rfl (.cons rfl (.cons rfl (.nil _))) (fun _ h => h)))))))))
 refine ah rfl rfl ?_
 refine' aX [_,_,_,_,_,_] [(3,_),(2,_)] (dj := 61) (dr := 67) rfl rfl (fun g7 => ?_) ⟨_,rfl,rfl,rfl,(.cons rfl (.cons rfl (.nil _)))⟩ rfl ?_
 rotate_left
 · skip
   exact aj ja rfl rfl (aW bo ba (.s .z) rfl rfl (vs := bR a.wh y.V) rfl rfl (aj ja rfl rfl (aW bo ba .z rfl rfl (vs := bR b.wh z.V) rfl rfl (aF (first := []) (cap := []) rfl rfl rfl Tryz.call17 (fun w1 h1 => oL _ _ _ _ w1 (ExC.chg h1.chg _ _ (ExK.c _ _ hWa)) (ExC.chg h1.chg _ _ (ExK.c _ _ hWb)) hbd.wh) (dB rfl rfl (ab (Piece.mk rfl rfl (.cons rfl (.cons rfl (.nil _))) (fun _ h => h))))))))
 refine triL_nilN (aD rfl (fun q0 => ?_) (fun q0 => ?_))
 · skip
   have q0 : sqB a b = true := q0
   refine ae (aa (o_assignN rfl rfl (aq (am (bb rfl rfl ?_))))); exact fun w1 hw1 => ⟨congrArg (fun b => Ending.returned (.bool b)) (by exact (decide_eq_false (sq_ne q0)).symm),hw1.chg⟩
 · skip
   have q0 : sqB a b = false := q0
   obtain ⟨_,hli,hlf,hlo⟩ := sq_no q0
   refine ao (ag (ae (ae (aa (o_assignN rfl rfl (ay (bz (ι := Nat) (F := fun i => [(2,.pointer (some ⟨b2,0,none⟩)),(3,.pointer (some ⟨b3,0,none⟩)),(5,.int .i64 (i : Int))]) (HH := fun i => [box b3 35 (ey b z),box b2 35 (ey a y)]) (Pu := fun i => i ≤ a.items.length ∧ ∀ j,j < i → a.items.getD j ItemX.zero = b.items.getD j ItemX.zero) (μ := fun i => a.items.length - i) (0) (.cons rfl (.cons rfl (.cons rfl (.nil _)))) (fun _ h => h) (⟨Nat.zero_le _,fun j hj => absurd hj (by omega)⟩) (fun i hi => ae (ae (aa (ah rfl rfl (aj dy rfl rfl (ak ft N1 rfl rfl rfl (aY Tryz.underlying31 rfl rfl (cg rfl rfl rfl (triL_nilN (av rfl (fun q1 => ?_) (fun q1 => ?_))))))))))))))))))
   · skip
     have hil : i < a.items.length := by omega
     refine ao (ag (ae (ay (ae ?_))))
     obtain ⟨ya,hca,hya⟩ := mg hIa i hil
     obtain ⟨yb,hcb,hyb⟩ := mg hIb i (by omega)
     by_cases hs : (a.items.getD i ItemX.zero).s = (b.items.getD i ItemX.zero).s
     · skip
       have hd : decide ((a.items.getD i ItemX.zero).s ≠ (b.items.getD i ItemX.zero).s) = false := decide_eq_false (fun h => h hs)
       refine tri_slo [(2,_),(3,_),(5,_)] rfl (bh (_) [(0,true),(1,true),(2,true),(3,true),(4,true),(5,true),(6,true),(7,true),(8,true),(9,true),(10,true),(11,true),(12,true),(13,true),(14,true),(15,true),(16,true),(17,true),(18,true),(19,true),(20,true),(21,true),(22,true),(23,true),(24,true),(25,true),(26,false),(27,false),(28,false)] [26,27,28] (by kernel_rfl) (by kernel_rfl) (fun _ h => h) (ai rfl (aj dy rfl rfl (ab ⟨rfl,ai rfl (ak ft N1 rfl rfl rfl (ab ⟨rfl,ai rfl (ah rfl rfl (ab ⟨rfl,ai rfl (aS Tryz.underlying31 kU rfl rfl rfl (hIa.rd0 _ _ rfl rfl) (by (try simp only [List.length_append,List.length_cons,List.length_nil]); omega) (by (try simp only [List.length_append,List.length_cons,List.length_nil]); omega) hIa.len (by decide) (ab ⟨rfl,ai rfl (aT jD rfl rfl (hIa.rd0 _ _ rfl rfl) (aR hca (j := 0) rfl) (ab ⟨rfl,ai rfl (aK bB rfl rfl (hIa.rd0 _ _ rfl rfl) (aR hca (j := 8) rfl) (ab ⟨rfl,ai rfl (aj dy rfl rfl (ab ⟨rfl,ai rfl (ak ft N0 rfl rfl rfl (ab ⟨rfl,ai rfl (ah rfl rfl (ab ⟨rfl,ai rfl (aS Tryz.underlying31 kU rfl rfl rfl (hIb.rd0 _ _ rfl rfl) (by (try simp only [List.length_append,List.length_cons,List.length_nil]); omega) (by (try simp only [List.length_append,List.length_cons,List.length_nil]); omega) hIb.len (by decide) (ab ⟨rfl,ai rfl (aT jD rfl rfl (hIb.rd0 _ _ rfl rfl) (aR hcb (j := 0) rfl) (ab ⟨rfl,ai rfl (aK bB rfl rfl (hIb.rd0 _ _ rfl rfl) (aR hcb (j := 8) rfl) (ab ⟨rfl,ai rfl (dE rfl rfl rfl ?_)⟩))⟩))⟩))⟩))⟩))⟩))⟩))⟩))⟩))⟩))⟩))⟩))))
       rw [hd]
       refine ab ⟨rfl,ai rfl (ah rfl rfl (ab ⟨rfl,ai rfl (aj dy rfl rfl (ab ⟨rfl,ai rfl (ak ft N1 rfl rfl rfl (ab ⟨rfl,ai rfl (ah rfl rfl (ab ⟨rfl,ai rfl (aS Tryz.underlying31 kU rfl rfl rfl (hIa.rd0 _ _ rfl rfl) (by (try simp only [List.length_append,List.length_cons,List.length_nil]); omega) (by (try simp only [List.length_append,List.length_cons,List.length_nil]); omega) hIa.len (by decide) (ab ⟨rfl,ai rfl (aT pH rfl rfl (hIa.rd0 _ _ rfl rfl) (aR hca (j := 0) rfl) (ab ⟨rfl,ai rfl (bF bo ba rfl rfl (hIa.rd0 _ _ rfl rfl) (vs := bR ((a.items.getD i ItemX.zero).e) ya) (fX (p := []) (cs := bR ((a.items.getD i ItemX.zero).e) ya) (r := [_]) hca) rfl (by decide) (ab ⟨rfl,ai rfl (aj dy rfl rfl (ab ⟨rfl,ai rfl (ak ft N0 rfl rfl rfl (ab ⟨rfl,ai rfl (ah rfl rfl (ab ⟨rfl,ai rfl (aS Tryz.underlying31 kU rfl rfl rfl (hIb.rd0 _ _ rfl rfl) (by (try simp only [List.length_append,List.length_cons,List.length_nil]); omega) (by (try simp only [List.length_append,List.length_cons,List.length_nil]); omega) hIb.len (by decide) (ab ⟨rfl,ai rfl (aT pH rfl rfl (hIb.rd0 _ _ rfl rfl) (aR hcb (j := 0) rfl) (ab ⟨rfl,ai rfl (bF bo ba rfl rfl (hIb.rd0 _ _ rfl rfl) (vs := bR ((b.items.getD i ItemX.zero).e) yb) (fX (p := []) (cs := bR ((b.items.getD i ItemX.zero).e) yb) (r := [_]) hcb) rfl (by decide) (ab ⟨rfl,(bH [26,27,28] [_,_,_] rfl rfl (aF (first := []) (cap := []) rfl rfl rfl Tryz.call17 (fun w1 h1 => oL _ _ _ _ w1 (ExC.chg h1.chg _ _ (ExK.c _ _ hya)) (ExC.chg h1.chg _ _ (ExK.c _ _ hyb)) (hbd.items i hil).1) (dB rfl rfl (iP rfl rfl rfl rfl (ab ⟨rfl,(ag (aD rfl (fun q2 => ?_) (fun q2 => ?_)))⟩)))))⟩))⟩))⟩))⟩))⟩))⟩))⟩))⟩))⟩))⟩))⟩))⟩))⟩))⟩
       · skip
         refine ae (ar [] (.nil _) (aa (o_assignN rfl rfl (aq (ap (am (am (ap (am (bb rfl rfl ?_)))))))))); exact fun w1 hw1 => ⟨congrArg (fun b => Ending.returned (.bool b)) (by exact (decide_eq_false (qn (td (.inr (of_decide_eq_false (cE q2)))))).symm),hw1.chg⟩
       · skip
         exact ao (an (ag (tri_slo [(2,_),(3,_),(5,_)] rfl (aa (ah rfl rfl (bn rfl rfl rfl (by (try simp only [List.length_append,List.length_cons,List.length_nil]); omega) (o_assignN rfl rfl (⟨i + 1,(.cons rfl (.cons rfl (.cons rfl (.nil _)))),fun _ h => h,⟨by omega,upd hi.2 (mi hs (of_decide_eq_true (cn q2)))⟩,by omega⟩))))))))
     · skip
       have hd : decide ((a.items.getD i ItemX.zero).s ≠ (b.items.getD i ItemX.zero).s) = true := decide_eq_true hs
       refine tri_slo [(2,_),(3,_),(5,_)] rfl (bh (_) [(0,true),(1,true),(2,true),(3,true),(4,true),(5,true),(6,true),(7,true),(8,true),(9,true),(10,true),(11,true),(12,true),(13,true),(14,true),(15,true),(16,true),(17,true),(18,true),(19,true),(20,true),(21,true),(22,true),(23,true),(24,true),(25,true),(26,false),(27,false),(28,false)] [26,27,28] (by kernel_rfl) (by kernel_rfl) (fun _ h => h) (ai rfl (aj dy rfl rfl (ab ⟨rfl,ai rfl (ak ft N1 rfl rfl rfl (ab ⟨rfl,ai rfl (ah rfl rfl (ab ⟨rfl,ai rfl (aS Tryz.underlying31 kU rfl rfl rfl (hIa.rd0 _ _ rfl rfl) (by (try simp only [List.length_append,List.length_cons,List.length_nil]); omega) (by (try simp only [List.length_append,List.length_cons,List.length_nil]); omega) hIa.len (by decide) (ab ⟨rfl,ai rfl (aT jD rfl rfl (hIa.rd0 _ _ rfl rfl) (aR hca (j := 0) rfl) (ab ⟨rfl,ai rfl (aK bB rfl rfl (hIa.rd0 _ _ rfl rfl) (aR hca (j := 8) rfl) (ab ⟨rfl,ai rfl (aj dy rfl rfl (ab ⟨rfl,ai rfl (ak ft N0 rfl rfl rfl (ab ⟨rfl,ai rfl (ah rfl rfl (ab ⟨rfl,ai rfl (aS Tryz.underlying31 kU rfl rfl rfl (hIb.rd0 _ _ rfl rfl) (by (try simp only [List.length_append,List.length_cons,List.length_nil]); omega) (by (try simp only [List.length_append,List.length_cons,List.length_nil]); omega) hIb.len (by decide) (ab ⟨rfl,ai rfl (aT jD rfl rfl (hIb.rd0 _ _ rfl rfl) (aR hcb (j := 0) rfl) (ab ⟨rfl,ai rfl (aK bB rfl rfl (hIb.rd0 _ _ rfl rfl) (aR hcb (j := 8) rfl) (ab ⟨rfl,ai rfl (dE rfl rfl rfl ?_)⟩))⟩))⟩))⟩))⟩))⟩))⟩))⟩))⟩))⟩))⟩))⟩))))
       rw [hd]
       refine ab ⟨rfl,ai rfl (ah rfl rfl (ab ⟨rfl,ai rfl (bG rfl rfl (ab ⟨rfl,ai rfl (bG rfl rfl (ab ⟨rfl,ai rfl (bG rfl rfl (ab ⟨rfl,ai rfl (bG rfl rfl (ab ⟨rfl,ai rfl (bG rfl rfl (ab ⟨rfl,ai rfl (bG rfl rfl (ab ⟨rfl,ai rfl (bG rfl rfl (ab ⟨rfl,ai rfl (bG rfl rfl (ab ⟨rfl,ai rfl (bG rfl rfl (ab ⟨rfl,ai rfl (bG rfl rfl (ab ⟨rfl,ai rfl (bG rfl rfl (ab ⟨rfl,ai rfl (bG rfl rfl (ab ⟨rfl,(bH [26,27,28] [_,_,_] rfl rfl (bG rfl rfl (bG rfl rfl (fL rfl rfl rfl rfl (ab ⟨rfl,(ag (cq rfl (ae (ar [] (.nil _) (aa (o_assignN rfl rfl (aq (ap ?_))))))))⟩)))))⟩))⟩))⟩))⟩))⟩))⟩))⟩))⟩))⟩))⟩))⟩))⟩))⟩))⟩; refine am (am (ap (am (bb rfl rfl ?_)))); exact fun w1 hw1 => ⟨congrArg (fun b => Ending.returned (.bool b)) (by exact (decide_eq_false (qn (td (.inl hs)))).symm),hw1.chg⟩
   · skip
     have hxi : ∀ j,j < a.items.length → _ = _ := fun j hj => hi.2 j (by omega)
     refine aZ (aw (aw (aL (ag (ae (ae (tri_slo [(2,_),(3,_)] rfl (aa (o_assignN rfl rfl (ay (bz (ι := Nat) (F := fun i => [(2,.pointer (some ⟨b2,0,none⟩)),(3,.pointer (some ⟨b3,0,none⟩)),(6,.int .i64 (i : Int))]) (HH := fun i => [box b3 35 (ey b z),box b2 35 (ey a y)]) (Pu := fun i => i ≤ a.from_.length ∧ ∀ j,j < i → a.from_.getD j SrcX.zero = b.from_.getD j SrcX.zero) (μ := fun i => a.from_.length - i) (0) (.cons rfl (.cons rfl (.cons rfl (.nil _)))) (fun _ h => h) (⟨Nat.zero_le _,fun j hj => absurd hj (by omega)⟩) (fun i hi => ae (ae (aa (ah rfl rfl (aj cV rfl rfl (ak ej N1 rfl rfl rfl (aY Tryz.underlying32 rfl rfl (cg rfl rfl rfl (triL_nilN (av rfl (fun q4 => ?_) (fun q4 => ?_))))))))))))))))))))))
     · skip
       have hil : i < a.from_.length := by omega
       refine ao (ag (ae (ay (ae ?_))))
       obtain ⟨ya,hca,hya⟩ := o6 hFa i hil
       obtain ⟨yb,hcb,hyb⟩ := o6 hFb i (by omega)
       have h3c : ((a.from_.getD i SrcX.zero).t ≠ (b.from_.getD i SrcX.zero).t) ∨ ((a.from_.getD i SrcX.zero).t = (b.from_.getD i SrcX.zero).t ∧ (a.from_.getD i SrcX.zero).s ≠ (b.from_.getD i SrcX.zero).s) ∨ ((a.from_.getD i SrcX.zero).t = (b.from_.getD i SrcX.zero).t ∧ (a.from_.getD i SrcX.zero).s = (b.from_.getD i SrcX.zero).s) := by
        by_cases h1 : (a.from_.getD i SrcX.zero).t = (b.from_.getD i SrcX.zero).t
        · by_cases h2 : (a.from_.getD i SrcX.zero).s = (b.from_.getD i SrcX.zero).s
          · exact .inr (.inr ⟨h1,h2⟩)
          · exact .inr (.inl ⟨h1,h2⟩)
        · exact .inl h1
       rcases h3c with hs | ⟨ht,hs⟩ | ⟨ht,hs⟩
       · skip
         have hd : decide ((a.from_.getD i SrcX.zero).t ≠ (b.from_.getD i SrcX.zero).t) = true := decide_eq_true hs
         refine tri_slo [(2,_),(3,_),(6,_)] rfl (bh (_) [(0,true),(1,true),(2,true),(3,true),(4,true),(5,true),(6,true),(7,true),(8,true),(9,true),(10,true),(11,true),(12,true),(13,true),(14,true),(15,true),(16,true),(17,true),(18,true),(19,true),(20,true),(21,true),(22,true),(23,true),(24,true),(25,true),(26,true),(27,true),(28,true),(29,true),(30,true),(31,true),(32,true),(33,true),(34,true),(35,true),(36,true),(37,true),(38,true),(39,true),(40,true),(41,false),(42,false),(43,false)] [41,42,43] (by kernel_rfl) (by kernel_rfl) (fun _ h => h) (ai rfl (aj cV rfl rfl (ab ⟨rfl,ai rfl (ak ej N1 rfl rfl rfl (ab ⟨rfl,ai rfl (ah rfl rfl (ab ⟨rfl,ai rfl (aS Tryz.underlying32 fI rfl rfl rfl (hFa.rd0 _ _ rfl rfl) (by (try simp only [List.length_append,List.length_cons,List.length_nil]); omega) (by (try simp only [List.length_append,List.length_cons,List.length_nil]); omega) hFa.len (by decide) (ab ⟨rfl,ai rfl (aT jG rfl rfl (hFa.rd0 _ _ rfl rfl) (aR hca (j := 0) rfl) (ab ⟨rfl,ai rfl (aK bB rfl rfl (hFa.rd0 _ _ rfl rfl) (aR hca (j := 0) rfl) (ab ⟨rfl,ai rfl (aj cV rfl rfl (ab ⟨rfl,ai rfl (ak ej N0 rfl rfl rfl (ab ⟨rfl,ai rfl (ah rfl rfl (ab ⟨rfl,ai rfl (aS Tryz.underlying32 fI rfl rfl rfl (hFb.rd0 _ _ rfl rfl) (by (try simp only [List.length_append,List.length_cons,List.length_nil]); omega) (by (try simp only [List.length_append,List.length_cons,List.length_nil]); omega) hFb.len (by decide) (ab ⟨rfl,ai rfl (aT jG rfl rfl (hFb.rd0 _ _ rfl rfl) (aR hcb (j := 0) rfl) (ab ⟨rfl,ai rfl (aK bB rfl rfl (hFb.rd0 _ _ rfl rfl) (aR hcb (j := 0) rfl) (ab ⟨rfl,ai rfl (dE rfl rfl rfl ?_)⟩))⟩))⟩))⟩))⟩))⟩))⟩))⟩))⟩))⟩))⟩))⟩))))
         rw [hd]
         refine ab ⟨rfl,ai rfl (ah rfl rfl (ab ⟨rfl,ai rfl (bG rfl rfl (ab ⟨rfl,ai rfl (bG rfl rfl (ab ⟨rfl,ai rfl (bG rfl rfl (ab ⟨rfl,ai rfl (bG rfl rfl (ab ⟨rfl,ai rfl (bG rfl rfl (ab ⟨rfl,ai rfl (bG rfl rfl (ab ⟨rfl,ai rfl (bG rfl rfl (ab ⟨rfl,ai rfl (bG rfl rfl (ab ⟨rfl,ai rfl (bG rfl rfl (ab ⟨rfl,ai rfl (bG rfl rfl (ab ⟨rfl,ai rfl (bG rfl rfl (ab ⟨rfl,ai rfl (bG rfl rfl (ab ⟨rfl,ai rfl (bG rfl rfl ?_)⟩))⟩))⟩))⟩))⟩))⟩))⟩))⟩))⟩))⟩))⟩))⟩))⟩))⟩
         try rw [he]
         refine ab ⟨rfl,ai rfl (fL rfl rfl rfl rfl (ab ⟨rfl,ai rfl (ah rfl rfl (ab ⟨rfl,ai rfl (bG rfl rfl (ab ⟨rfl,ai rfl (bG rfl rfl (ab ⟨rfl,ai rfl (bG rfl rfl (ab ⟨rfl,ai rfl (bG rfl rfl (ab ⟨rfl,ai rfl (bG rfl rfl (ab ⟨rfl,ai rfl (bG rfl rfl (ab ⟨rfl,ai rfl (bG rfl rfl (ab ⟨rfl,ai rfl (bG rfl rfl (ab ⟨rfl,ai rfl (bG rfl rfl (ab ⟨rfl,ai rfl (bG rfl rfl (ab ⟨rfl,ai rfl (bG rfl rfl (ab ⟨rfl,ai rfl (bG rfl rfl (ab ⟨rfl,(bH [41,42,43] [_,_,_] rfl rfl (bG rfl rfl (bG rfl rfl (fL rfl rfl rfl rfl (ab ⟨rfl,(ag (cq rfl (ae (ar [] (.nil _) (aa (o_assignN rfl rfl ?_))))))⟩)))))⟩))⟩))⟩))⟩))⟩))⟩))⟩))⟩))⟩))⟩))⟩))⟩))⟩))⟩))⟩; refine aq (ap (am (am (ap (am (bb rfl rfl ?_)))))); exact fun w1 hw1 => ⟨congrArg (fun b => Ending.returned (.bool b)) (by exact (decide_eq_false (pf (r6 (.inl hs)))).symm),hw1.chg⟩
       · skip
         have hd : decide ((a.from_.getD i SrcX.zero).t ≠ (b.from_.getD i SrcX.zero).t) = false := decide_eq_false (fun h => h ht)
         have he : decide ((a.from_.getD i SrcX.zero).s ≠ (b.from_.getD i SrcX.zero).s) = true := decide_eq_true hs
         refine tri_slo [(2,_),(3,_),(6,_)] rfl (bh (_) [(0,true),(1,true),(2,true),(3,true),(4,true),(5,true),(6,true),(7,true),(8,true),(9,true),(10,true),(11,true),(12,true),(13,true),(14,true),(15,true),(16,true),(17,true),(18,true),(19,true),(20,true),(21,true),(22,true),(23,true),(24,true),(25,true),(26,true),(27,true),(28,true),(29,true),(30,true),(31,true),(32,true),(33,true),(34,true),(35,true),(36,true),(37,true),(38,true),(39,true),(40,true),(41,false),(42,false),(43,false)] [41,42,43] (by kernel_rfl) (by kernel_rfl) (fun _ h => h) (ai rfl (aj cV rfl rfl (ab ⟨rfl,ai rfl (ak ej N1 rfl rfl rfl (ab ⟨rfl,ai rfl (ah rfl rfl (ab ⟨rfl,ai rfl (aS Tryz.underlying32 fI rfl rfl rfl (hFa.rd0 _ _ rfl rfl) (by (try simp only [List.length_append,List.length_cons,List.length_nil]); omega) (by (try simp only [List.length_append,List.length_cons,List.length_nil]); omega) hFa.len (by decide) (ab ⟨rfl,ai rfl (aT jG rfl rfl (hFa.rd0 _ _ rfl rfl) (aR hca (j := 0) rfl) (ab ⟨rfl,ai rfl (aK bB rfl rfl (hFa.rd0 _ _ rfl rfl) (aR hca (j := 0) rfl) (ab ⟨rfl,ai rfl (aj cV rfl rfl (ab ⟨rfl,ai rfl (ak ej N0 rfl rfl rfl (ab ⟨rfl,ai rfl (ah rfl rfl (ab ⟨rfl,ai rfl (aS Tryz.underlying32 fI rfl rfl rfl (hFb.rd0 _ _ rfl rfl) (by (try simp only [List.length_append,List.length_cons,List.length_nil]); omega) (by (try simp only [List.length_append,List.length_cons,List.length_nil]); omega) hFb.len (by decide) (ab ⟨rfl,ai rfl (aT jG rfl rfl (hFb.rd0 _ _ rfl rfl) (aR hcb (j := 0) rfl) (ab ⟨rfl,ai rfl (aK bB rfl rfl (hFb.rd0 _ _ rfl rfl) (aR hcb (j := 0) rfl) (ab ⟨rfl,ai rfl (dE rfl rfl rfl ?_)⟩))⟩))⟩))⟩))⟩))⟩))⟩))⟩))⟩))⟩))⟩))⟩))))
         rw [hd]
         refine ab ⟨rfl,ai rfl (ah rfl rfl (ab ⟨rfl,ai rfl (aj cV rfl rfl (ab ⟨rfl,ai rfl (ak ej N1 rfl rfl rfl (ab ⟨rfl,ai rfl (ah rfl rfl (ab ⟨rfl,ai rfl (aS Tryz.underlying32 fI rfl rfl rfl (hFa.rd0 _ _ rfl rfl) (by (try simp only [List.length_append,List.length_cons,List.length_nil]); omega) (by (try simp only [List.length_append,List.length_cons,List.length_nil]); omega) hFa.len (by decide) (ab ⟨rfl,ai rfl (aT jC rfl rfl (hFa.rd0 _ _ rfl rfl) (aR hca (j := 0) rfl) (ab ⟨rfl,ai rfl (aK bB rfl rfl (hFa.rd0 _ _ rfl rfl) (aR hca (j := 1) rfl) (ab ⟨rfl,ai rfl (aj cV rfl rfl (ab ⟨rfl,ai rfl (ak ej N0 rfl rfl rfl (ab ⟨rfl,ai rfl (ah rfl rfl (ab ⟨rfl,ai rfl (aS Tryz.underlying32 fI rfl rfl rfl (hFb.rd0 _ _ rfl rfl) (by (try simp only [List.length_append,List.length_cons,List.length_nil]); omega) (by (try simp only [List.length_append,List.length_cons,List.length_nil]); omega) hFb.len (by decide) (ab ⟨rfl,ai rfl (aT jC rfl rfl (hFb.rd0 _ _ rfl rfl) (aR hcb (j := 0) rfl) (ab ⟨rfl,ai rfl (aK bB rfl rfl (hFb.rd0 _ _ rfl rfl) (aR hcb (j := 1) rfl) (ab ⟨rfl,ai rfl (dE rfl rfl rfl ?_)⟩))⟩))⟩))⟩))⟩))⟩))⟩))⟩))⟩))⟩))⟩))⟩))⟩))⟩
         try rw [he]
         refine ab ⟨rfl,ai rfl (iP rfl rfl rfl rfl (ab ⟨rfl,ai rfl (ah rfl rfl (ab ⟨rfl,ai rfl (bG rfl rfl (ab ⟨rfl,ai rfl (bG rfl rfl (ab ⟨rfl,ai rfl (bG rfl rfl (ab ⟨rfl,ai rfl (bG rfl rfl (ab ⟨rfl,ai rfl (bG rfl rfl (ab ⟨rfl,ai rfl (bG rfl rfl (ab ⟨rfl,ai rfl (bG rfl rfl (ab ⟨rfl,ai rfl (bG rfl rfl (ab ⟨rfl,ai rfl (bG rfl rfl (ab ⟨rfl,ai rfl (bG rfl rfl (ab ⟨rfl,ai rfl (bG rfl rfl (ab ⟨rfl,ai rfl (bG rfl rfl (ab ⟨rfl,(bH [41,42,43] [_,_,_] rfl rfl (bG rfl rfl (bG rfl rfl (fL rfl rfl rfl rfl (ab ⟨rfl,(ag (cq rfl (ae (ar [] (.nil _) (aa (o_assignN rfl rfl ?_))))))⟩)))))⟩))⟩))⟩))⟩))⟩))⟩))⟩))⟩))⟩))⟩))⟩))⟩))⟩))⟩))⟩; refine aq (ap (am (am (ap (am (bb rfl rfl ?_)))))); exact fun w1 hw1 => ⟨congrArg (fun b => Ending.returned (.bool b)) (by exact (decide_eq_false (pf (r6 (.inr (.inl hs))))).symm),hw1.chg⟩
       · skip
         have hd : decide ((a.from_.getD i SrcX.zero).t ≠ (b.from_.getD i SrcX.zero).t) = false := decide_eq_false (fun h => h ht)
         have he : decide ((a.from_.getD i SrcX.zero).s ≠ (b.from_.getD i SrcX.zero).s) = false := decide_eq_false (fun h => h hs)
         refine tri_slo [(2,_),(3,_),(6,_)] rfl (bh (_) [(0,true),(1,true),(2,true),(3,true),(4,true),(5,true),(6,true),(7,true),(8,true),(9,true),(10,true),(11,true),(12,true),(13,true),(14,true),(15,true),(16,true),(17,true),(18,true),(19,true),(20,true),(21,true),(22,true),(23,true),(24,true),(25,true),(26,true),(27,true),(28,true),(29,true),(30,true),(31,true),(32,true),(33,true),(34,true),(35,true),(36,true),(37,true),(38,true),(39,true),(40,true),(41,false),(42,false),(43,false)] [41,42,43] (by kernel_rfl) (by kernel_rfl) (fun _ h => h) (ai rfl (aj cV rfl rfl (ab ⟨rfl,ai rfl (ak ej N1 rfl rfl rfl (ab ⟨rfl,ai rfl (ah rfl rfl (ab ⟨rfl,ai rfl (aS Tryz.underlying32 fI rfl rfl rfl (hFa.rd0 _ _ rfl rfl) (by (try simp only [List.length_append,List.length_cons,List.length_nil]); omega) (by (try simp only [List.length_append,List.length_cons,List.length_nil]); omega) hFa.len (by decide) (ab ⟨rfl,ai rfl (aT jG rfl rfl (hFa.rd0 _ _ rfl rfl) (aR hca (j := 0) rfl) (ab ⟨rfl,ai rfl (aK bB rfl rfl (hFa.rd0 _ _ rfl rfl) (aR hca (j := 0) rfl) (ab ⟨rfl,ai rfl (aj cV rfl rfl (ab ⟨rfl,ai rfl (ak ej N0 rfl rfl rfl (ab ⟨rfl,ai rfl (ah rfl rfl (ab ⟨rfl,ai rfl (aS Tryz.underlying32 fI rfl rfl rfl (hFb.rd0 _ _ rfl rfl) (by (try simp only [List.length_append,List.length_cons,List.length_nil]); omega) (by (try simp only [List.length_append,List.length_cons,List.length_nil]); omega) hFb.len (by decide) (ab ⟨rfl,ai rfl (aT jG rfl rfl (hFb.rd0 _ _ rfl rfl) (aR hcb (j := 0) rfl) (ab ⟨rfl,ai rfl (aK bB rfl rfl (hFb.rd0 _ _ rfl rfl) (aR hcb (j := 0) rfl) (ab ⟨rfl,ai rfl (dE rfl rfl rfl ?_)⟩))⟩))⟩))⟩))⟩))⟩))⟩))⟩))⟩))⟩))⟩))⟩))))
         rw [hd]
         refine ab ⟨rfl,ai rfl (ah rfl rfl (ab ⟨rfl,ai rfl (aj cV rfl rfl (ab ⟨rfl,ai rfl (ak ej N1 rfl rfl rfl (ab ⟨rfl,ai rfl (ah rfl rfl (ab ⟨rfl,ai rfl (aS Tryz.underlying32 fI rfl rfl rfl (hFa.rd0 _ _ rfl rfl) (by (try simp only [List.length_append,List.length_cons,List.length_nil]); omega) (by (try simp only [List.length_append,List.length_cons,List.length_nil]); omega) hFa.len (by decide) (ab ⟨rfl,ai rfl (aT jC rfl rfl (hFa.rd0 _ _ rfl rfl) (aR hca (j := 0) rfl) (ab ⟨rfl,ai rfl (aK bB rfl rfl (hFa.rd0 _ _ rfl rfl) (aR hca (j := 1) rfl) (ab ⟨rfl,ai rfl (aj cV rfl rfl (ab ⟨rfl,ai rfl (ak ej N0 rfl rfl rfl (ab ⟨rfl,ai rfl (ah rfl rfl (ab ⟨rfl,ai rfl (aS Tryz.underlying32 fI rfl rfl rfl (hFb.rd0 _ _ rfl rfl) (by (try simp only [List.length_append,List.length_cons,List.length_nil]); omega) (by (try simp only [List.length_append,List.length_cons,List.length_nil]); omega) hFb.len (by decide) (ab ⟨rfl,ai rfl (aT jC rfl rfl (hFb.rd0 _ _ rfl rfl) (aR hcb (j := 0) rfl) (ab ⟨rfl,ai rfl (aK bB rfl rfl (hFb.rd0 _ _ rfl rfl) (aR hcb (j := 1) rfl) (ab ⟨rfl,ai rfl (dE rfl rfl rfl ?_)⟩))⟩))⟩))⟩))⟩))⟩))⟩))⟩))⟩))⟩))⟩))⟩))⟩))⟩
         try rw [he]
         refine ab ⟨rfl,ai rfl (iP rfl rfl rfl rfl (ab ⟨rfl,ai rfl (ah rfl rfl (ab ⟨rfl,ai rfl (aj cV rfl rfl (ab ⟨rfl,ai rfl (ak ej N1 rfl rfl rfl (ab ⟨rfl,ai rfl (ah rfl rfl (ab ⟨rfl,ai rfl (aS Tryz.underlying32 fI rfl rfl rfl (hFa.rd0 _ _ rfl rfl) (by (try simp only [List.length_append,List.length_cons,List.length_nil]); omega) (by (try simp only [List.length_append,List.length_cons,List.length_nil]); omega) hFa.len (by decide) (ab ⟨rfl,ai rfl (aT lz rfl rfl (hFa.rd0 _ _ rfl rfl) (aR hca (j := 0) rfl) (ab ⟨rfl,ai rfl (bF bo ba rfl rfl (hFa.rd0 _ _ rfl rfl) (vs := bR ((a.from_.getD i SrcX.zero).e) ya) (fX (p := [.string (B (a.from_.getD i SrcX.zero).t),.string (B (a.from_.getD i SrcX.zero).s)]) (cs := bR ((a.from_.getD i SrcX.zero).e) ya) (r := []) hca) rfl (by decide) (ab ⟨rfl,ai rfl (aj cV rfl rfl (ab ⟨rfl,ai rfl (ak ej N0 rfl rfl rfl (ab ⟨rfl,ai rfl (ah rfl rfl (ab ⟨rfl,ai rfl (aS Tryz.underlying32 fI rfl rfl rfl (hFb.rd0 _ _ rfl rfl) (by (try simp only [List.length_append,List.length_cons,List.length_nil]); omega) (by (try simp only [List.length_append,List.length_cons,List.length_nil]); omega) hFb.len (by decide) (ab ⟨rfl,ai rfl (aT lz rfl rfl (hFb.rd0 _ _ rfl rfl) (aR hcb (j := 0) rfl) (ab ⟨rfl,ai rfl (bF bo ba rfl rfl (hFb.rd0 _ _ rfl rfl) (vs := bR ((b.from_.getD i SrcX.zero).e) yb) (fX (p := [.string (B (b.from_.getD i SrcX.zero).t),.string (B (b.from_.getD i SrcX.zero).s)]) (cs := bR ((b.from_.getD i SrcX.zero).e) yb) (r := []) hcb) rfl (by decide) (ab ⟨rfl,(bH [41,42,43] [_,_,_] rfl rfl (aF (first := []) (cap := []) rfl rfl rfl Tryz.call17 (fun w1 h1 => oL _ _ _ _ w1 (ExC.chg h1.chg _ _ (ExK.c _ _ hya)) (ExC.chg h1.chg _ _ (ExK.c _ _ hyb)) (hbd.from_ i hil).1) (dB rfl rfl (iP rfl rfl rfl rfl (ab ⟨rfl,(ag (aD rfl (fun q7 => ?_) (fun q7 => ?_)))⟩)))))⟩))⟩))⟩))⟩))⟩))⟩))⟩))⟩))⟩))⟩))⟩))⟩))⟩))⟩))⟩
         · skip
           refine ae (ar [] (.nil _) (aa (o_assignN rfl rfl (aq (ap (am (am (ap (am (bb rfl rfl ?_)))))))))); exact fun w1 hw1 => ⟨congrArg (fun b => Ending.returned (.bool b)) (by exact (decide_eq_false (pf (r6 (.inr (.inr (of_decide_eq_false (cE q7))))))).symm),hw1.chg⟩
         · skip
           exact ao (an (ag (tri_slo [(2,_),(3,_),(6,_)] rfl (aa (ah rfl rfl (bn rfl rfl rfl (by (try simp only [List.length_append,List.length_cons,List.length_nil]); omega) (o_assignN rfl rfl (⟨i + 1,(.cons rfl (.cons rfl (.cons rfl (.nil _)))),fun _ h => h,⟨by omega,upd hi.2 (pc ht hs (of_decide_eq_true (cn q7)))⟩,by omega⟩))))))))
     · skip
       have hxf : ∀ j,j < a.from_.length → _ = _ := fun j hj => hi.2 j (by omega)
       refine aZ (aw (aw (aL (ag (ae (ae (tri_slo [(2,_),(3,_)] rfl (aa (o_assignN rfl rfl (ay (bz (ι := Nat) (F := fun i => [(2,.pointer (some ⟨b2,0,none⟩)),(3,.pointer (some ⟨b3,0,none⟩)),(7,.int .i64 (i : Int))]) (HH := fun i => [box b3 35 (ey b z),box b2 35 (ey a y)]) (Pu := fun i => i ≤ a.ord.length ∧ ∀ j,j < i → a.ord.getD j OrdX.zero = b.ord.getD j OrdX.zero) (μ := fun i => a.ord.length - i) (0) (.cons rfl (.cons rfl (.cons rfl (.nil _)))) (fun _ h => h) (⟨Nat.zero_le _,fun j hj => absurd hj (by omega)⟩) (fun i hi => ae (ae (aa (ah rfl rfl (aj eM rfl rfl (ak hM N1 rfl rfl rfl (aY Tryz.underlying33 rfl rfl (cg rfl rfl rfl (triL_nilN (av rfl (fun q8 => ?_) (fun q8 => ?_))))))))))))))))))))))
       · skip
         have hil : i < a.ord.length := by omega
         refine ao (ag (ae (ay (ae (tri_slo [(2,_),(3,_),(7,_)] rfl ?_)))))
         have hca := o9 hOa i hil
         have hcb := o9 hOb i (by omega)
         refine bh (_) [(0,true),(1,true),(2,true),(3,true),(4,true),(5,true),(6,true),(7,true),(8,true),(9,true),(10,false)] [10] (by kernel_rfl) (by kernel_rfl) (fun _ h => h) (ai rfl (aj eM rfl rfl (ab ⟨rfl,ai rfl (ak hM N1 rfl rfl rfl (ab ⟨rfl,ai rfl (ah rfl rfl (ab ⟨rfl,ai rfl (aS Tryz.underlying33 jE rfl rfl rfl (hOa.rd0 _ _ rfl rfl) (by (try simp only [List.length_append,List.length_cons,List.length_nil]); omega) (by (try simp only [List.length_append,List.length_cons,List.length_nil]); omega) hOa.len (by decide) (ab ⟨rfl,ai rfl (bF pu jE rfl rfl (hOa.rd0 _ _ rfl rfl) (vs := OrdX.cs (a.ord.getD i OrdX.zero)) hca rfl (by decide) (ab ⟨rfl,ai rfl (aj eM rfl rfl (ab ⟨rfl,ai rfl (ak hM N0 rfl rfl rfl (ab ⟨rfl,ai rfl (ah rfl rfl (ab ⟨rfl,ai rfl (aS Tryz.underlying33 jE rfl rfl rfl (hOb.rd0 _ _ rfl rfl) (by (try simp only [List.length_append,List.length_cons,List.length_nil]); omega) (by (try simp only [List.length_append,List.length_cons,List.length_nil]); omega) hOb.len (by decide) (ab ⟨rfl,ai rfl (bF pu jE rfl rfl (hOb.rd0 _ _ rfl rfl) (vs := OrdX.cs (b.ord.getD i OrdX.zero)) hcb rfl (by decide) (ab ⟨rfl,(bH [10] [_] rfl rfl (o_neqOrd flat121 rfl rfl rfl (ab ⟨rfl,(ag (aD rfl (fun q9 => ?_) (fun q9 => ?_)))⟩)))⟩))⟩))⟩))⟩))⟩))⟩))⟩))⟩))⟩))⟩)))
         · skip
           refine ae (ar [] (.nil _) (aa (o_assignN rfl rfl (aq (ap (am (am (ap (am (bb rfl rfl ?_)))))))))); exact fun w1 hw1 => ⟨congrArg (fun b => Ending.returned (.bool b)) (by exact (decide_eq_false (ords_ne (of_decide_eq_false (cE q9)))).symm),hw1.chg⟩
         · skip
           exact ao (an (ag (tri_slo [(2,_),(3,_),(7,_)] rfl (aa (ah rfl rfl (bn rfl rfl rfl (by (try simp only [List.length_append,List.length_cons,List.length_nil]); omega) (o_assignN rfl rfl (⟨i + 1,(.cons rfl (.cons rfl (.cons rfl (.nil _)))),fun _ h => h,⟨by omega,upd hi.2 (of_decide_eq_true (cn q9))⟩,by omega⟩))))))))
       · skip
         have hxo : ∀ j,j < a.ord.length → _ = _ := fun j hj => hi.2 j (by omega)
         refine aZ (aw (aw (aL (ag (ae (ar [] (.nil _) (aa (o_assignN rfl rfl (aq (bb rfl rfl ?_)))))))))); exact fun w1 hw1 => ⟨congrArg (fun b => Ending.returned (.bool b)) (by exact (decide_eq_true (sq_eq q0 hxi hxf hxo)).symm),hw1.chg⟩
end Go.Proofs.YtjbpkcbefmpfgaaGreatDoor
namespace Go.Proofs.YtjbpkcbefmpfgaaGreatDoor
open Go.WK Go.RowKit 
set_option maxRecDepth 100000 in
set_option maxHeartbeats 2000000 in
theorem sameStK (a b : StmtX) (y z : Lay) (bl bm : List Nat) (w : World) (hA : SAt bl w a y) (hB : SAt bm w b z) (hbl : ∀ k ∈ bl,k < w.heap.size) (hbm : ∀ k ∈ bm,k < w.heap.size) (hbd : SBd a) : Calls Tryz.prog 16 #[.agg (bS a y).toArray,.agg (bS b z).toArray] w (cp w (.bool (decide (a = b)))) := by
 refine az (args := [.agg (bS a y).toArray,.agg (bS b z).toArray]) (lent := []) (H := []) Tryz.func16 rfl Tryz.ntmps16 rfl (Sat.start _ _ _ _) ((show Tri _ [(0,_),(1,_)] _ _ _ from ?_))
 obtain ⟨xCa,xNa,xRa,xSa,xIa,xFa,xOa,hCa,hNa,hRa,hSa,hWa,hQa⟩ := id hA
 obtain ⟨xCb,xNb,xRb,xSb,xIb,xFb,xOb,hCb,hNb,hRb,hSb,hWb,hQb⟩ := id hB
 have n1 : a.rows.length ≤ 70368744177664 := hbd.nr
 have n2 : a.sets.length ≤ 70368744177664 := hbd.ns
 refine ae (aa (cA _ rfl rfl rfl (fun b2 => cA _ rfl rfl rfl (fun b3 => o_assignN rfl rfl (ae (ae (aa (aj em rfl rfl (ak bL N1 rfl rfl rfl (aj em rfl rfl (ak bL N0 rfl rfl rfl (cK rfl rfl rfl (ah rfl rfl ?_)))))))))))))
 refine' aX [_,_,_,_,_] [(3,_),(2,_)] (dj := 12) (dr := 17) rfl rfl (fun g1 => ?_) ⟨_,rfl,rfl,rfl,(.cons rfl (.cons rfl (.nil _)))⟩ rfl ?_
 rotate_left
 · skip
   exact aj cH rfl rfl (ak bB N1 rfl rfl rfl (aj cH rfl rfl (ak bB N0 rfl rfl rfl (dE rfl rfl rfl (ab (Piece.mk rfl rfl (.cons rfl (.cons rfl (.nil _))) (fun _ h => h)))))))
 refine ah rfl rfl ?_
 refine' aX [_,_,_,_,_] [(3,_),(2,_)] (dj := 19) (dr := 24) rfl rfl (fun g2 => ?_) ⟨_,rfl,rfl,rfl,(.cons rfl (.cons rfl (.nil _)))⟩ rfl ?_
 rotate_left
 · skip
   exact aj fJ rfl rfl (ak bB N1 rfl rfl rfl (aj fJ rfl rfl (ak bB N0 rfl rfl rfl (dE rfl rfl rfl (ab (Piece.mk rfl rfl (.cons rfl (.cons rfl (.nil _))) (fun _ h => h)))))))
 refine ah rfl rfl ?_
 refine' aX [_,_,_,_,_] [(3,_),(2,_)] (dj := 26) (dr := 31) rfl rfl (fun g3 => ?_) ⟨_,rfl,rfl,rfl,(.cons rfl (.cons rfl (.nil _)))⟩ rfl ?_
 rotate_left
 · skip
   exact aj kn rfl rfl (ak gd N1 rfl rfl rfl (aj kn rfl rfl (ak gd N0 rfl rfl rfl (oN rfl Tryz.underlying4 rfl rfl (ab (Piece.mk rfl rfl (.cons rfl (.cons rfl (.nil _))) (fun _ h => h)))))))
 refine ah rfl rfl ?_
 refine' aX [_,_,_,_,_,_] [(3,_),(2,_)] (dj := 33) (dr := 39) rfl rfl (fun g4 => ?_) ⟨_,rfl,rfl,rfl,(.cons rfl (.cons rfl (.nil _)))⟩ rfl ?_
 rotate_left
 · skip
   exact aj ii rfl rfl (ak kV N1 rfl rfl rfl (aj ii rfl rfl (ak kV N0 rfl rfl rfl (aF (first := []) (cap := []) rfl rfl rfl Tryz.call48 (fun w1 h1 => uT a.cols b.cols y.C z.C bl bm xCa xCb w1 (hCa.stab (fun k hk => h1.chg.block k (hbl k hk) (by simp))) (hCb.stab (fun k hk => h1.chg.block k (hbm k hk) (by simp))) hbd.nc) (dB rfl rfl (ab (Piece.mk rfl rfl (.cons rfl (.cons rfl (.nil _))) (fun _ h => h))))))))
 refine ah rfl rfl ?_
 refine' aX [_,_,_,_,_,_] [(3,_),(2,_)] (dj := 41) (dr := 47) rfl rfl (fun g5 => ?_) ⟨_,rfl,rfl,rfl,(.cons rfl (.cons rfl (.nil _)))⟩ rfl ?_
 rotate_left
 · skip
   exact aj gT rfl rfl (ak j6 N1 rfl rfl rfl (aj gT rfl rfl (ak j6 N0 rfl rfl rfl (aF (first := []) (cap := []) rfl rfl rfl Tryz.call49 (fun w1 h1 => sI a.on b.on y.N z.N bl bm xNa xNb w1 (hNa.stab (fun k hk => h1.chg.block k (hbl k hk) (by simp))) (hNb.stab (fun k hk => h1.chg.block k (hbm k hk) (by simp))) hbd.nn) (dB rfl rfl (ab (Piece.mk rfl rfl (.cons rfl (.cons rfl (.nil _))) (fun _ h => h))))))))
 refine ah rfl rfl ?_
 refine' aX [_,_,_,_,_,_] [(3,_),(2,_)] (dj := 49) (dr := 55) rfl rfl (fun g6 => ?_) ⟨_,rfl,rfl,rfl,(.cons rfl (.cons rfl (.nil _)))⟩ rfl ?_
 rotate_left
 · skip
   exact aj fv rfl rfl (aW bo ba (.s .z) rfl rfl (vs := bR a.wh y.W) rfl rfl (aj fv rfl rfl (aW bo ba .z rfl rfl (vs := bR b.wh z.W) rfl rfl (aF (first := []) (cap := []) rfl rfl rfl Tryz.call17 (fun w1 h1 => oL _ _ _ _ w1 (ExC.chg h1.chg _ _ (ExK.c _ _ hWa)) (ExC.chg h1.chg _ _ (ExK.c _ _ hWb)) hbd.wh) (dB rfl rfl (ab (Piece.mk rfl rfl (.cons rfl (.cons rfl (.nil _))) (fun _ h => h))))))))
 refine ah rfl rfl ?_
 refine' aX [_,_,_,_,_,_] [(3,_),(2,_)] (dj := 57) (dr := 63) rfl rfl (fun g7 => ?_) ⟨_,rfl,rfl,rfl,(.cons rfl (.cons rfl (.nil _)))⟩ rfl ?_
 rotate_left
 · skip
   exact aj jc rfl rfl (aW ny mb (.s .z) rfl rfl (vs := ey a.q y.q) rfl rfl (aj jc rfl rfl (aW ny mb .z rfl rfl (vs := ey b.q z.q) rfl rfl (aF (first := []) (cap := []) rfl rfl rfl Tryz.call50 (fun w1 h1 => sameQK a.q b.q y.q z.q bl bm w1 (hA.q.stab (fun k hk => h1.chg.block k (hbl k hk) (by simp))) (hB.q.stab (fun k hk => h1.chg.block k (hbm k hk) (by simp))) hbd.q) (dB rfl rfl (ab (Piece.mk rfl rfl (.cons rfl (.cons rfl (.nil _))) (fun _ h => h))))))))
 refine ah rfl rfl ?_
 refine' aX [_,_,_,_,_,_,_] [(3,_),(2,_)] (dj := 65) (dr := 72) rfl rfl (fun g8 => ?_) ⟨_,rfl,rfl,rfl,(.cons rfl (.cons rfl (.nil _)))⟩ rfl ?_
 rotate_left
 · skip
   exact aj fu rfl rfl (ak iE N1 rfl rfl rfl (aY Tryz.underlying24 rfl rfl (aj fu rfl rfl (ak iE N0 rfl rfl rfl (aY Tryz.underlying24 rfl rfl (cK rfl rfl rfl (ab (Piece.mk rfl rfl (.cons rfl (.cons rfl (.nil _))) (fun _ h => h)))))))))
 refine ah rfl rfl ?_
 refine' aX [_,_,_,_,_,_,_] [(3,_),(2,_)] (dj := 74) (dr := 81) rfl rfl (fun g9 => ?_) ⟨_,rfl,rfl,rfl,(.cons rfl (.cons rfl (.nil _)))⟩ rfl ?_
 rotate_left
 · skip
   exact aj dR rfl rfl (ak f3 N1 rfl rfl rfl (aY Tryz.underlying25 rfl rfl (aj dR rfl rfl (ak f3 N0 rfl rfl rfl (aY Tryz.underlying25 rfl rfl (cK rfl rfl rfl (ab (Piece.mk rfl rfl (.cons rfl (.cons rfl (.nil _))) (fun _ h => h)))))))))
 refine triL_nilN (aD rfl (fun q0 => ?_) (fun q0 => ?_))
 · skip
   have q0 : ssB a b = true := q0
   refine ae (aa (o_assignN rfl rfl (aq (am (bb rfl rfl ?_))))); exact fun w1 hw1 => ⟨congrArg (fun b => Ending.returned (.bool b)) (by exact (decide_eq_false (ss_ne q0)).symm),hw1.chg⟩
 · skip
   have q0 : ssB a b = false := q0
   obtain ⟨_,hlr,hls⟩ := ss_no q0
   refine ao (ag (ae (ae (aa (o_assignN rfl rfl (ay (bz (ι := Nat) (F := fun i => [(2,.pointer (some ⟨b2,0,none⟩)),(3,.pointer (some ⟨b3,0,none⟩)),(5,.int .i64 (i : Int))]) (HH := fun i => [box b3 37 (bS b z),box b2 37 (bS a y)]) (Pu := fun i => i ≤ a.rows.length ∧ ∀ j,j < i → a.rows.getD j [] = b.rows.getD j []) (μ := fun i => a.rows.length - i) (0) (.cons rfl (.cons rfl (.cons rfl (.nil _)))) (fun _ h => h) (⟨Nat.zero_le _,fun j hj => absurd hj (by omega)⟩) (fun i hi => ae (ae (aa (ah rfl rfl (aj fu rfl rfl (ak iE N1 rfl rfl rfl (aY Tryz.underlying24 rfl rfl (cg rfl rfl rfl (triL_nilN (av rfl (fun q1 => ?_) (fun q1 => ?_))))))))))))))))))
   · skip
     have hil : i < a.rows.length := by omega
     refine ao (ag (ae (ay (ae (tri_slo [(2,_),(3,_),(5,_)] rfl ?_)))))
     obtain ⟨yra,xra,hca,hRa2⟩ := kN hRa i hil
     obtain ⟨yrb,xrb,hcb,hRb2⟩ := kN hRb i (by omega)
     refine bh (_) [(0,true),(1,true),(2,true),(3,true),(4,true),(5,true),(6,true),(7,true),(8,true),(9,true),(10,false),(11,false)] [10,11] (by kernel_rfl) (by kernel_rfl) (fun _ h => h) (ai rfl (aj fu rfl rfl (ab ⟨rfl,ai rfl (ak iE N1 rfl rfl rfl (ab ⟨rfl,ai rfl (ah rfl rfl (ab ⟨rfl,ai rfl (aS Tryz.underlying24 sz28 rfl rfl rfl (hRa.rd0 _ _ rfl rfl) (by (try simp only [List.length_append,List.length_cons,List.length_nil]); omega) (by (try simp only [List.length_append,List.length_cons,List.length_nil]); omega) hRa.len (by decide) (ab ⟨rfl,ai rfl (aK eJ rfl rfl (hRa.rd0 _ _ rfl rfl) (aR hca (j := 0) rfl) (ab ⟨rfl,ai rfl (aj fu rfl rfl (ab ⟨rfl,ai rfl (ak iE N0 rfl rfl rfl (ab ⟨rfl,ai rfl (ah rfl rfl (ab ⟨rfl,ai rfl (aS Tryz.underlying24 sz28 rfl rfl rfl (hRb.rd0 _ _ rfl rfl) (by (try simp only [List.length_append,List.length_cons,List.length_nil]); omega) (by (try simp only [List.length_append,List.length_cons,List.length_nil]); omega) hRb.len (by decide) (ab ⟨rfl,ai rfl (aK eJ rfl rfl (hRb.rd0 _ _ rfl rfl) (aR hcb (j := 0) rfl) (ab ⟨rfl,(bH [10,11] [_,_] rfl rfl (aF (first := []) (cap := []) rfl rfl rfl Tryz.call51 (fun w1 h1 => sameExsK _ _ yra yrb bl bm xra xrb w1 (hRa2.stab (fun k hk => h1.chg.block k (hbl k hk) (by simp))) (hRb2.stab (fun k hk => h1.chg.block k (hbm k hk) (by simp))) (hbd.rows i hil).1 (hbd.rows i hil).2) (dB rfl rfl (ab ⟨rfl,(ag (aD rfl (fun q2 => ?_) (fun q2 => ?_)))⟩))))⟩))⟩))⟩))⟩))⟩))⟩))⟩))⟩))⟩))⟩)))
     · skip
       refine ae (ar [] (.nil _) (aa (o_assignN rfl rfl (aq (ap (am (am (ap (am (bb rfl rfl ?_)))))))))); exact fun w1 hw1 => ⟨congrArg (fun b => Ending.returned (.bool b)) (by exact (decide_eq_false (rows_ne (of_decide_eq_false (cE q2)))).symm),hw1.chg⟩
     · skip
       exact ao (an (ag (tri_slo [(2,_),(3,_),(5,_)] rfl (aa (ah rfl rfl (bn rfl rfl rfl (by (try simp only [List.length_append,List.length_cons,List.length_nil]); omega) (o_assignN rfl rfl (⟨i + 1,(.cons rfl (.cons rfl (.cons rfl (.nil _)))),fun _ h => h,⟨by omega,upd hi.2 (of_decide_eq_true (cn q2))⟩,by omega⟩))))))))
   · skip
     have hxr : ∀ j,j < a.rows.length → _ = _ := fun j hj => hi.2 j (by omega)
     refine aZ (aw (aw (aL (ag (ae (ae (tri_slo [(2,_),(3,_)] rfl (aa (o_assignN rfl rfl (ay (bz (ι := Nat) (F := fun i => [(2,.pointer (some ⟨b2,0,none⟩)),(3,.pointer (some ⟨b3,0,none⟩)),(6,.int .i64 (i : Int))]) (HH := fun i => [box b3 37 (bS b z),box b2 37 (bS a y)]) (Pu := fun i => i ≤ a.sets.length ∧ ∀ j,j < i → a.sets.getD j SetX.zero = b.sets.getD j SetX.zero) (μ := fun i => a.sets.length - i) (0) (.cons rfl (.cons rfl (.cons rfl (.nil _)))) (fun _ h => h) (⟨Nat.zero_le _,fun j hj => absurd hj (by omega)⟩) (fun i hi => ae (ae (aa (ah rfl rfl (aj dR rfl rfl (ak f3 N1 rfl rfl rfl (aY Tryz.underlying25 rfl rfl (cg rfl rfl rfl (triL_nilN (av rfl (fun q3 => ?_) (fun q3 => ?_))))))))))))))))))))))
     · skip
       have hil : i < a.sets.length := by omega
       refine ao (ag (ae (ay (ae ?_))))
       obtain ⟨ya,hca,hya⟩ := o7 hSa i hil
       obtain ⟨yb,hcb,hyb⟩ := o7 hSb i (by omega)
       by_cases hs : (a.sets.getD i SetX.zero).n = (b.sets.getD i SetX.zero).n
       · skip
         have hd : decide ((a.sets.getD i SetX.zero).n ≠ (b.sets.getD i SetX.zero).n) = false := decide_eq_false (fun h => h hs)
         refine tri_slo [(2,_),(3,_),(6,_)] rfl (bh (_) [(0,true),(1,true),(2,true),(3,true),(4,true),(5,true),(6,true),(7,true),(8,true),(9,true),(10,true),(11,true),(12,true),(13,true),(14,true),(15,true),(16,true),(17,true),(18,true),(19,true),(20,true),(21,true),(22,true),(23,true),(24,true),(25,true),(26,false),(27,false),(28,false)] [26,27,28] (by kernel_rfl) (by kernel_rfl) (fun _ h => h) (ai rfl (aj dR rfl rfl (ab ⟨rfl,ai rfl (ak f3 N1 rfl rfl rfl (ab ⟨rfl,ai rfl (ah rfl rfl (ab ⟨rfl,ai rfl (aS Tryz.underlying25 nw rfl rfl rfl (hSa.rd0 _ _ rfl rfl) (by (try simp only [List.length_append,List.length_cons,List.length_nil]); omega) (by (try simp only [List.length_append,List.length_cons,List.length_nil]); omega) hSa.len (by decide) (ab ⟨rfl,ai rfl (aT lB rfl rfl (hSa.rd0 _ _ rfl rfl) (aR hca (j := 0) rfl) (ab ⟨rfl,ai rfl (aK bB rfl rfl (hSa.rd0 _ _ rfl rfl) (aR hca (j := 0) rfl) (ab ⟨rfl,ai rfl (aj dR rfl rfl (ab ⟨rfl,ai rfl (ak f3 N0 rfl rfl rfl (ab ⟨rfl,ai rfl (ah rfl rfl (ab ⟨rfl,ai rfl (aS Tryz.underlying25 nw rfl rfl rfl (hSb.rd0 _ _ rfl rfl) (by (try simp only [List.length_append,List.length_cons,List.length_nil]); omega) (by (try simp only [List.length_append,List.length_cons,List.length_nil]); omega) hSb.len (by decide) (ab ⟨rfl,ai rfl (aT lB rfl rfl (hSb.rd0 _ _ rfl rfl) (aR hcb (j := 0) rfl) (ab ⟨rfl,ai rfl (aK bB rfl rfl (hSb.rd0 _ _ rfl rfl) (aR hcb (j := 0) rfl) (ab ⟨rfl,ai rfl (dE rfl rfl rfl ?_)⟩))⟩))⟩))⟩))⟩))⟩))⟩))⟩))⟩))⟩))⟩))⟩))))
         rw [hd]
         refine ab ⟨rfl,ai rfl (ah rfl rfl (ab ⟨rfl,ai rfl (aj dR rfl rfl (ab ⟨rfl,ai rfl (ak f3 N1 rfl rfl rfl (ab ⟨rfl,ai rfl (ah rfl rfl (ab ⟨rfl,ai rfl (aS Tryz.underlying25 nw rfl rfl rfl (hSa.rd0 _ _ rfl rfl) (by (try simp only [List.length_append,List.length_cons,List.length_nil]); omega) (by (try simp only [List.length_append,List.length_cons,List.length_nil]); omega) hSa.len (by decide) (ab ⟨rfl,ai rfl (aT pI rfl rfl (hSa.rd0 _ _ rfl rfl) (aR hca (j := 0) rfl) (ab ⟨rfl,ai rfl (bF bo ba rfl rfl (hSa.rd0 _ _ rfl rfl) (vs := bR ((a.sets.getD i SetX.zero).e) ya) (fX (p := [.string (B (a.sets.getD i SetX.zero).n)]) (cs := bR ((a.sets.getD i SetX.zero).e) ya) (r := []) hca) rfl (by decide) (ab ⟨rfl,ai rfl (aj dR rfl rfl (ab ⟨rfl,ai rfl (ak f3 N0 rfl rfl rfl (ab ⟨rfl,ai rfl (ah rfl rfl (ab ⟨rfl,ai rfl (aS Tryz.underlying25 nw rfl rfl rfl (hSb.rd0 _ _ rfl rfl) (by (try simp only [List.length_append,List.length_cons,List.length_nil]); omega) (by (try simp only [List.length_append,List.length_cons,List.length_nil]); omega) hSb.len (by decide) (ab ⟨rfl,ai rfl (aT pI rfl rfl (hSb.rd0 _ _ rfl rfl) (aR hcb (j := 0) rfl) (ab ⟨rfl,ai rfl (bF bo ba rfl rfl (hSb.rd0 _ _ rfl rfl) (vs := bR ((b.sets.getD i SetX.zero).e) yb) (fX (p := [.string (B (b.sets.getD i SetX.zero).n)]) (cs := bR ((b.sets.getD i SetX.zero).e) yb) (r := []) hcb) rfl (by decide) (ab ⟨rfl,(bH [26,27,28] [_,_,_] rfl rfl (aF (first := []) (cap := []) rfl rfl rfl Tryz.call17 (fun w1 h1 => oL _ _ _ _ w1 (ExC.chg h1.chg _ _ (ExK.c _ _ hya)) (ExC.chg h1.chg _ _ (ExK.c _ _ hyb)) (hbd.sets i hil).1) (dB rfl rfl (iP rfl rfl rfl rfl (ab ⟨rfl,(ag (aD rfl (fun q4 => ?_) (fun q4 => ?_)))⟩)))))⟩))⟩))⟩))⟩))⟩))⟩))⟩))⟩))⟩))⟩))⟩))⟩))⟩))⟩
         · skip
           refine ae (ar [] (.nil _) (aa (o_assignN rfl rfl (aq (ap (am (am (ap (am (bb rfl rfl ?_)))))))))); exact fun w1 hw1 => ⟨congrArg (fun b => Ending.returned (.bool b)) (by exact (decide_eq_false (te (set_ne (.inr (of_decide_eq_false (cE q4)))))).symm),hw1.chg⟩
         · skip
           exact ao (an (ag (tri_slo [(2,_),(3,_),(6,_)] rfl (aa (ah rfl rfl (bn rfl rfl rfl (by (try simp only [List.length_append,List.length_cons,List.length_nil]); omega) (o_assignN rfl rfl (⟨i + 1,(.cons rfl (.cons rfl (.cons rfl (.nil _)))),fun _ h => h,⟨by omega,upd hi.2 (pd hs (of_decide_eq_true (cn q4)))⟩,by omega⟩))))))))
       · skip
         have hd : decide ((a.sets.getD i SetX.zero).n ≠ (b.sets.getD i SetX.zero).n) = true := decide_eq_true hs
         refine tri_slo [(2,_),(3,_),(6,_)] rfl (bh (_) [(0,true),(1,true),(2,true),(3,true),(4,true),(5,true),(6,true),(7,true),(8,true),(9,true),(10,true),(11,true),(12,true),(13,true),(14,true),(15,true),(16,true),(17,true),(18,true),(19,true),(20,true),(21,true),(22,true),(23,true),(24,true),(25,true),(26,false),(27,false),(28,false)] [26,27,28] (by kernel_rfl) (by kernel_rfl) (fun _ h => h) (ai rfl (aj dR rfl rfl (ab ⟨rfl,ai rfl (ak f3 N1 rfl rfl rfl (ab ⟨rfl,ai rfl (ah rfl rfl (ab ⟨rfl,ai rfl (aS Tryz.underlying25 nw rfl rfl rfl (hSa.rd0 _ _ rfl rfl) (by (try simp only [List.length_append,List.length_cons,List.length_nil]); omega) (by (try simp only [List.length_append,List.length_cons,List.length_nil]); omega) hSa.len (by decide) (ab ⟨rfl,ai rfl (aT lB rfl rfl (hSa.rd0 _ _ rfl rfl) (aR hca (j := 0) rfl) (ab ⟨rfl,ai rfl (aK bB rfl rfl (hSa.rd0 _ _ rfl rfl) (aR hca (j := 0) rfl) (ab ⟨rfl,ai rfl (aj dR rfl rfl (ab ⟨rfl,ai rfl (ak f3 N0 rfl rfl rfl (ab ⟨rfl,ai rfl (ah rfl rfl (ab ⟨rfl,ai rfl (aS Tryz.underlying25 nw rfl rfl rfl (hSb.rd0 _ _ rfl rfl) (by (try simp only [List.length_append,List.length_cons,List.length_nil]); omega) (by (try simp only [List.length_append,List.length_cons,List.length_nil]); omega) hSb.len (by decide) (ab ⟨rfl,ai rfl (aT lB rfl rfl (hSb.rd0 _ _ rfl rfl) (aR hcb (j := 0) rfl) (ab ⟨rfl,ai rfl (aK bB rfl rfl (hSb.rd0 _ _ rfl rfl) (aR hcb (j := 0) rfl) (ab ⟨rfl,ai rfl (dE rfl rfl rfl ?_)⟩))⟩))⟩))⟩))⟩))⟩))⟩))⟩))⟩))⟩))⟩))⟩))))
         rw [hd]
         refine ab ⟨rfl,ai rfl (ah rfl rfl (ab ⟨rfl,ai rfl (bG rfl rfl (ab ⟨rfl,ai rfl (bG rfl rfl (ab ⟨rfl,ai rfl (bG rfl rfl (ab ⟨rfl,ai rfl (bG rfl rfl (ab ⟨rfl,ai rfl (bG rfl rfl (ab ⟨rfl,ai rfl (bG rfl rfl (ab ⟨rfl,ai rfl (bG rfl rfl (ab ⟨rfl,ai rfl (bG rfl rfl (ab ⟨rfl,ai rfl (bG rfl rfl (ab ⟨rfl,ai rfl (bG rfl rfl (ab ⟨rfl,ai rfl (bG rfl rfl (ab ⟨rfl,ai rfl (bG rfl rfl (ab ⟨rfl,(bH [26,27,28] [_,_,_] rfl rfl (bG rfl rfl (bG rfl rfl (fL rfl rfl rfl rfl (ab ⟨rfl,(ag (cq rfl (ae (ar [] (.nil _) (aa (o_assignN rfl rfl (aq (ap ?_))))))))⟩)))))⟩))⟩))⟩))⟩))⟩))⟩))⟩))⟩))⟩))⟩))⟩))⟩))⟩))⟩; refine am (am (ap (am (bb rfl rfl ?_)))); exact fun w1 hw1 => ⟨congrArg (fun b => Ending.returned (.bool b)) (by exact (decide_eq_false (te (set_ne (.inl hs)))).symm),hw1.chg⟩
     · skip
       have hxs : ∀ j,j < a.sets.length → _ = _ := fun j hj => hi.2 j (by omega)
       refine aZ (aw (aw (aL (ag (ae (ar [] (.nil _) (aa (o_assignN rfl rfl (aq (bb rfl rfl ?_)))))))))); exact fun w1 hw1 => ⟨congrArg (fun b => Ending.returned (.bool b)) (by exact (decide_eq_true (ss_eq q0 hxr hxs)).symm),hw1.chg⟩
end Go.Proofs.YtjbpkcbefmpfgaaGreatDoor
namespace Go.Proofs.YtjbpkcbefmpfgaaGreatDoor
open Go.WK Go.RowKit 
theorem flatF : gY Tryz.prog 55 = some fKs := by kernel_rfl
theorem qV (x0_0 : Int) (x0_1 : Int) (x0_2 : Int) (x0_3 : ByteArray) (x0_4 : ByteArray) (x0_5 : ByteArray) (x0_6 : Int) (A0_7 : Option Addr) (n0_7 c0_7 : Nat) (x1 : ByteArray) : Tryz.prog.built 53 [(0,.agg (([.int .i64 x0_0,.int .i64 x0_1,.int .i64 x0_2,.string x0_3,.string x0_4,.string x0_5,.int .i64 x0_6,.slice A0_7 n0_7 c0_7] : List Value)).toArray),(1,.string x1)] = some ([.int .i64 x0_0,.int .i64 x0_1,.int .i64 x0_2,.string x0_3,.string x0_4,.string x0_5,.int .i64 x0_6,.slice A0_7 n0_7 c0_7,.string x1] : List Value).toArray := by kernel_rfl
theorem qW (A2 : Option Addr) (n2 c2 : Nat) (A3 : Option Addr) (n3 c3 : Nat) : Tryz.prog.built 35 [(2,.slice A2 n2 c2),(3,.slice A3 n3 c3)] = some ([.bool false,.bool false,.slice A2 n2 c2,.slice A3 n3 c3,.int .i64 0,.int .i64 0,.int .i64 0,.string .empty,.string .empty,.string .empty,.int .i64 0,.slice none 0 0,.slice none 0 0,.bool false,.int .i64 0] : List Value).toArray := by kernel_rfl
theorem qX (x0 : Int) (x9_0 : Bool) (x9_1 : Bool) (A9_2 : Option Addr) (n9_2 c9_2 : Nat) (A9_3 : Option Addr) (n9_3 c9_3 : Nat) (x9_4 : Int) (x9_5 : Int) (x9_6 : Int) (x9_7 : ByteArray) (x9_8 : ByteArray) (x9_9 : ByteArray) (x9_10 : Int) (A9_11 : Option Addr) (n9_11 c9_11 : Nat) (A9_12 : Option Addr) (n9_12 c9_12 : Nat) (x9_13 : Bool) (x9_14 : Int) : Tryz.prog.built 37 [(0,.int .i64 x0),(9,.agg (([.bool x9_0,.bool x9_1,.slice A9_2 n9_2 c9_2,.slice A9_3 n9_3 c9_3,.int .i64 x9_4,.int .i64 x9_5,.int .i64 x9_6,.string x9_7,.string x9_8,.string x9_9,.int .i64 x9_10,.slice A9_11 n9_11 c9_11,.slice A9_12 n9_12 c9_12,.bool x9_13,.int .i64 x9_14] : List Value)).toArray)] = some ([.int .i64 x0,.string .empty,.string .empty,.slice none 0 0,.slice none 0 0,.bool false,.slice none 0 0,.slice none 0 0,.int .i64 0,.int .i64 0,.int .i64 0,.string .empty,.string .empty,.string .empty,.int .i64 0,.slice none 0 0,.bool x9_0,.bool x9_1,.slice A9_2 n9_2 c9_2,.slice A9_3 n9_3 c9_3,.int .i64 x9_4,.int .i64 x9_5,.int .i64 x9_6,.string x9_7,.string x9_8,.string x9_9,.int .i64 x9_10,.slice A9_11 n9_11 c9_11,.slice A9_12 n9_12 c9_12,.bool x9_13,.int .i64 x9_14] : List Value).toArray := by kernel_rfl
theorem nameE (s : List UInt8) (w : World)  : Calls Tryz.prog 41 #[.string (B s)] w (cp w (.agg (bR (nmX s) SL.nil).toArray)) := by
 refine az (args := [.string (B s)]) (lent := []) (H := []) Tryz.func41 rfl Tryz.ntmps41 rfl (Sat.start _ _ _ _) ((show Tri _ [(0,_)] _ _ _ from ae (aa (aP _ rfl dq rfl (fun b2 => triL_nilN (ae (aa (ah rfl rfl (aQ (lT _ _) rfl rfl (dL (us := [.int .i64 0,.int .i64 0,.int .i64 0,.string .empty,.string .empty,.string .empty,.int .i64 0,.slice none 0 0]) (cs := bR (nmX s) SL.nil) rfl rfl rfl ba .z rfl rfl rfl (triL_nilN (aq (cP rfl bo ba N0 rfl rfl ?_))))))))))))); exact fun w1 hw1 => ⟨rfl,hw1.chg⟩
theorem awPV2 {P : Program} {n : Nat} {w w1 : World} {H : List Chunk} {b c : Nat} {e1 z1 n1 e2 z2 n2 : Nat} {x1 x2 : List Value} {m1 m2 k1 k2 : Nat} (hL : LV w) (hg : 10 ≤ w.heap.size) (h1 : Sat ⟨P,n,[],w,[]⟩ H w1) (hb : row (.slice (some ⟨b,0,none⟩) m1 k1) e1 z1 n1 x1 ∈ H) (hc : row (.slice (some ⟨c,0,none⟩) m2 k2) e2 z2 n2 x2 ∈ H) : PV w1 [] [b,c] := by
 have q1 := h1.lt hb (k := b) rfl
 have q2 := h1.lt hc (k := c) rfl
 have q3 := h1.chg.size
 refine ⟨⟨fun k hk => ⟨?_,by simp⟩,fun k hk => ⟨?_,by simp⟩⟩,hL.chg h1.chg⟩
 · simp only [List.mem_cons,List.not_mem_nil,or_false] at hk
   rcases hk with rfl | rfl
   · exact q1
   · exact q2
 · have : w.heap.size ≤ w1.heap.size := q3
   omega
theorem awPV1 {P : Program} {n : Nat} {w w1 : World} {H : List Chunk} {b : Nat} {e1 z1 n1 : Nat} {x1 : List Value} {m1 k1 : Nat} (hL : LV w) (hg : 10 ≤ w.heap.size) (h1 : Sat ⟨P,n,[],w,[]⟩ H w1) (hb : row (.slice (some ⟨b,0,none⟩) m1 k1) e1 z1 n1 x1 ∈ H) : PV w1 [] [b] := by
 have q1 := h1.lt hb (k := b) rfl
 have q3 := h1.chg.size
 refine ⟨⟨fun k hk => ⟨?_,by simp⟩,fun k hk => ⟨?_,by simp⟩⟩,hL.chg h1.chg⟩
 · simp only [List.mem_cons,List.not_mem_nil,or_false] at hk
   subst hk
   exact q1
 · have : w.heap.size ≤ w1.heap.size := q3
   omega
set_option maxRecDepth 100000 in
set_option maxHeartbeats 2000000 in
theorem pL  (w : World) (hE : LE w) (hX : LX w) (hL : LV w) (hg : 10 ≤ w.heap.size) : Calls Tryz.prog 12 #[] w (cp w (.bool true)) := by
 refine az (args := []) (lent := []) (H := []) Tryz.func12 rfl Tryz.ntmps12 rfl (Sat.start _ _ _ _) ((show Tri _ [] _ _ _ from ae (aa (o_assignN rfl rfl (ae (aa (gX (J := List Nat × List Value) (val := fun j => .tuple #[.agg j.2.toArray,errS (cu awT1)]) (D' := fun j => [stC j.1 (stR (cu awT1)) j.2]) (Pu := fun j => j.2.length = 31 ∧ allOne j.2 = true) [] [] _ [] rfl rfl rfl rfl Tryz.call15 (by simp) (by simp) (fun w1 h1 h2 => qT awT1 w1 (by decide) (hE.chg h1.chg) aw_s1) (fun j hj => ?_))))))))
 rw [aw_1]
 refine ah rfl rfl (be rfl rfl rfl (be rfl rfl rfl (aP _ rfl jb rfl (fun b1 => dL (us := [.int .i64 0,.string .empty,.string .empty,.slice none 0 0,.slice none 0 0,.bool false,.slice none 0 0,.slice none 0 0,.int .i64 0,.int .i64 0,.int .i64 0,.string .empty,.string .empty,.string .empty,.int .i64 0,.slice none 0 0,.bool false,.bool false,.slice none 0 0,.slice none 0 0,.int .i64 0,.int .i64 0,.int .i64 0,.string .empty,.string .empty,.string .empty,.int .i64 0,.slice none 0 0,.slice none 0 0,.bool false,.int .i64 0]) (cs := j.2) rfl hj.1 hj.2 gc .z rfl rfl rfl (o_assignN rfl rfl (ae (tri_slo [(2,_),(1,_)] rfl ?_)))))))
 obtain ⟨blp,cs⟩ := j
 refine Tri.know (fun w2 hw2 => ((fun ⟨y,hy,_⟩ => ⟨y,hy⟩ : (∃ y,cs = bS fk y ∧ SAt blp w2 fk y) → ∃ y,cs = bS fk y) (st_at (hw2.holds _ (Nth.mem (.s .z))).1))) (fun ⟨y,hy⟩ => ?_)
 subst hy
 refine aa (aF (first := []) (cap := []) rfl rfl rfl Tryz.call41 (fun w1 h1 => nameE [97] w1) (aQ (oG _ _ _ _ _ _ _ _ _ _) rfl rfl (aQ (nJ _ _ _) rfl rfl (aQ (qV _ _ _ _ _ _ _ _ _ _ _) rfl rfl (e0 (parts := [_,_]) awI Tryz.underlying31 zs53 rfl rfl rfl rfl (by decide) (by decide) (fun b18 => aQ (oF _) rfl rfl (bf Tryz.underlying32 zs87 rfl rfl rfl rfl rfl (by decide) (by decide) (fun b20 => aQ (qW _ _ _ _ _ _) rfl rfl (aQ (qX _ _ _ _ _ _ _ _ _ _ _ _ _ _ _ _ _ _ _ _ _ _ _ _) rfl rfl (aP _ rfl jb rfl (fun b3 => dL (us := [.int .i64 0,.string .empty,.string .empty,.slice none 0 0,.slice none 0 0,.bool false,.slice none 0 0,.slice none 0 0,.int .i64 0,.int .i64 0,.int .i64 0,.string .empty,.string .empty,.string .empty,.int .i64 0,.slice none 0 0,.bool false,.bool false,.slice none 0 0,.slice none 0 0,.int .i64 0,.int .i64 0,.int .i64 0,.string .empty,.string .empty,.string .empty,.int .i64 0,.slice none 0 0,.slice none 0 0,.bool false,.int .i64 0]) (cs := bS fk (awY b18 b20)) rfl rfl rfl gc .z rfl rfl rfl (triL_nilN (ae (tri_slo [(3,_),(2,_),(1,_)] rfl (aa (aW hY gc .z rfl rfl (vs := bS fk (awY b18 b20)) rfl rfl (aF (first := []) (cap := []) rfl rfl rfl Tryz.call8 (fun w1 h1 => printStK fk (awY b18 b20) [b18,b20] w1 (awPV2 hL hg h1 (Nth.mem (.s (.s .z))) (Nth.mem (.s .z))) (aw_at (RdS.row (.s (.s .z)) w1 h1) (RdS.row (.s .z) w1 h1)) aw_ok aw_bd (fun _ => by rw [aw_6]; decide)) ?_)))))))))))))))))
 rw [aw_3]
 refine ah rfl rfl (be rfl rfl rfl (be rfl rfl rfl (aH rfl rfl (o_assignN rfl rfl (ae (tri_slo [(5,_),(4,_),(3,_),(2,_),(1,_)] rfl (aa (aF (first := []) (cap := []) rfl rfl rfl Tryz.call41 (fun w1 h1 => nameE [97] w1) (bf Tryz.underlying28 zs30 rfl rfl rfl rfl rfl (by decide) (by decide) (fun b30 => aQ (ei _ _ _ _) rfl rfl (aF (first := []) (cap := []) rfl rfl rfl Tryz.call13 (fun w1 h1 => sF notA ⟨some ⟨b30,0,none⟩,1⟩ [b30] w1 (awPV1 hL hg h1 (Nth.mem .z)) (nota_at (RdS.row .z w1 h1)) nota_ok (by rw [aw_8]; decide) (fun _ => by rw [aw_7]; decide)) ?_)))))))))))
 rw [aw_4]
 refine ah rfl rfl (be rfl rfl rfl (be rfl rfl rfl (aH rfl rfl (o_assignN rfl rfl (ae (tri_slo [(7,_),(6,_),(5,_),(4,_),(3,_),(2,_),(1,_)] rfl (aa (gX (J := List Nat × List Value) (val := fun j => .tuple #[.agg j.2.toArray,errS (cu awT2)]) (D' := fun j => [stC j.1 (stR (cu awT2)) j.2]) (Pu := fun j => j.2.length = 31 ∧ allOne j.2 = true) [] [] _ [] rfl rfl rfl rfl Tryz.call15 (by simp) (by simp) (fun w1 h1 h2 => qT awT2 w1 (by decide) (hE.chg h1.chg) aw_s2) (fun k hk => ?_)))))))))
 rw [aw_2]
 refine ah rfl rfl (be rfl rfl rfl (be rfl rfl rfl (aP _ rfl jb rfl (fun b8 => dL (us := [.int .i64 0,.string .empty,.string .empty,.slice none 0 0,.slice none 0 0,.bool false,.slice none 0 0,.slice none 0 0,.int .i64 0,.int .i64 0,.int .i64 0,.string .empty,.string .empty,.string .empty,.int .i64 0,.slice none 0 0,.bool false,.bool false,.slice none 0 0,.slice none 0 0,.int .i64 0,.int .i64 0,.int .i64 0,.string .empty,.string .empty,.string .empty,.int .i64 0,.slice none 0 0,.slice none 0 0,.bool false,.int .i64 0]) (cs := k.2) rfl hk.1 hk.2 gc .z rfl rfl rfl (o_assignN rfl rfl (ae (tri_slo [(9,_),(7,_),(6,_),(5,_),(4,_),(3,_),(2,_),(1,_)] rfl (aa (ah rfl rfl (mz ifE (.inl ⟨rfl,rfl⟩) rfl rfl (ah rfl rfl ?_)))))))))))
 refine' aI [_,_,_] [(9,_),(7,_),(6,_),(5,_),(4,_),(3,_)] (dj := 41) (dr := 44) rfl rfl (fun g1 => ?_) ⟨_,rfl,rfl,rfl,(.cons rfl (.cons rfl (.cons rfl (.cons rfl (.cons rfl (.cons rfl (.nil _)))))))⟩ rfl ?_
 rotate_left
 · skip
   exact aW hY gc (.s (.s (.s (.s (.s (.s .z)))))) rfl rfl (vs := bS fk y) rfl rfl (aW hY gc (.s (.s (.s .z))) rfl rfl (vs := bS fk (awY b18 b20)) rfl rfl (aF (first := []) (cap := []) rfl rfl rfl Tryz.call16 (fun w1 h1 => sameStK fk fk y (awY b18 b20) blp [b18,b20] w1 (st_at' (h1.holds _ (Nth.mem (.s (.s (.s (.s (.s (.s (.s .z))))))))).1) (aw_at (RdS.row (.s (.s (.s (.s (.s .z))))) w1 h1) (RdS.row (.s (.s (.s (.s .z)))) w1 h1)) (h1.holds _ (Nth.mem (.s (.s (.s (.s (.s (.s (.s .z))))))))).2 (fun k hk => ((awPV2 hL hg h1 (Nth.mem (.s (.s (.s (.s (.s .z)))))) (Nth.mem (.s (.s (.s (.s .z)))))).pe.lt k hk).1) aw_bd) (ab (Piece.mk rfl rfl (.cons rfl (.cons rfl (.cons rfl (.cons rfl (.cons rfl (.cons rfl (.nil _))))))) (fun _ h => h)))))
 refine ah rfl rfl ?_
 refine' aI [_,_] [(9,_),(7,_),(6,_),(5,_),(3,_)] (dj := 46) (dr := 48) rfl rfl (fun g2 => ?_) ⟨_,rfl,rfl,rfl,(.cons rfl (.cons rfl (.cons rfl (.cons rfl (.cons rfl (.nil _))))))⟩ rfl ?_
 rotate_left
 · skip
   exact ah rfl rfl (bE rfl rfl rfl (ab (Piece.mk rfl rfl (.cons rfl (.cons rfl (.cons rfl (.cons rfl (.cons rfl (.nil _)))))) (fun _ h => h))))
 refine ah rfl rfl ?_
 refine' aI [_,_] [(9,_),(7,_),(6,_),(3,_)] (dj := 50) (dr := 52) rfl rfl (fun g3 => ?_) ⟨_,rfl,rfl,rfl,(.cons rfl (.cons rfl (.cons rfl (.cons rfl (.nil _)))))⟩ rfl ?_
 rotate_left
 · skip
   exact ah rfl rfl (aE rfl rfl rfl (ab (Piece.mk rfl rfl (.cons rfl (.cons rfl (.cons rfl (.cons rfl (.nil _))))) (fun _ h => h))))
 refine ah rfl rfl ?_
 refine' aI [_,_] [(9,_),(7,_),(3,_)] (dj := 54) (dr := 56) rfl rfl (fun g4 => ?_) ⟨_,rfl,rfl,rfl,(.cons rfl (.cons rfl (.cons rfl (.nil _))))⟩ rfl ?_
 rotate_left
 · skip
   exact ah rfl rfl (bE rfl rfl rfl (ab (Piece.mk rfl rfl (.cons rfl (.cons rfl (.cons rfl (.nil _)))) (fun _ h => h))))
 refine ah rfl rfl ?_
 refine' aI [_,_] [(9,_),(3,_)] (dj := 58) (dr := 60) rfl rfl (fun g5 => ?_) ⟨_,rfl,rfl,rfl,(.cons rfl (.cons rfl (.nil _)))⟩ rfl ?_
 rotate_left
 · skip
   exact ah rfl rfl (aE rfl rfl rfl (ab (Piece.mk rfl rfl (.cons rfl (.cons rfl (.nil _))) (fun _ h => h))))
 refine ah rfl rfl ?_
 refine' aI [_,_,_,_] [(3,_)] (dj := 62) (dr := 66) rfl rfl (fun g6 => ?_) ⟨_,rfl,rfl,rfl,(.cons rfl (.nil _))⟩ rfl ?_
 rotate_left
 · skip
   exact ah rfl rfl (aF (first := []) (cap := []) rfl rfl rfl Tryz.call18 (fun w1 h1 => so (.error (190,13)) w1 (hX.chg h1.chg)) (aQ (fZ _ _) rfl rfl (sN (ks := fKs) (vs := [.int .i64 190,.int .i64 13]) flatF rfl rfl rfl rfl rfl (ab (Piece.mk rfl rfl (.cons rfl (.nil _)) (fun _ h => h))))))
 refine ah rfl rfl ?_
 refine' aI [_,_] [] (dj := 68) (dr := 70) rfl rfl (fun g7 => ?_) ⟨_,rfl,rfl,rfl,(.nil _)⟩ rfl ?_
 rotate_left
 · skip
   exact aW hY gc (.s (.s (.s .z))) rfl rfl (vs := bS fk (awY b18 b20)) rfl rfl (aF (first := []) (cap := []) rfl rfl rfl Tryz.call10 (fun w1 h1 => mayStK fk (awY b18 b20) [b18,b20] w1 (aw_at (RdS.row (.s (.s (.s (.s (.s .z))))) w1 h1) (RdS.row (.s (.s (.s (.s .z)))) w1 h1)) (fun k hk => ((awPV2 hL hg h1 (Nth.mem (.s (.s (.s (.s (.s .z)))))) (Nth.mem (.s (.s (.s (.s .z)))))).pe.lt k hk).1) aw_ok aw_bd) (ab (Piece.mk rfl rfl (.nil _) (fun _ h => h))))
 refine o_assignN rfl rfl (aq (bb rfl rfl ?_)); exact fun w1 hw1 => ⟨congrArg (fun b => Ending.returned (.bool b)) (by rw [decide_eq_true (rfl : fk = fk),aw_5]; rfl),hw1.chg⟩
end Go.Proofs.YtjbpkcbefmpfgaaGreatDoor
namespace Go.Proofs.YtjbpkcbefmpfgaaGreatDoor
open Go.WK Go.RowKit 
theorem faultS (r : Except Flt StmtX) (w : World) (hX : LX w) : Calls Tryz.prog 18 #[errS r] w (cp w (.agg #[.int .i64 (fcS r).1,.int .i64 (fcS r).2])) := by
 cases r with
 | ok s => exact so (.ok []) w hX
 | error x => exact so (.error (x.1,x.2)) w hX
end Go.Proofs.YtjbpkcbefmpfgaaGreatDoor
namespace Go.Proofs.YtjbpkcbefmpfgaaGreatDoor
open Go.WK Go.RowKit Go.WK.FL
theorem fo55_1 : br Tryz.prog 55 1 = some 1 := by kernel_rfl
set_option maxRecDepth 100000 in
set_option maxHeartbeats 2000000 in
theorem qY (s t : List UInt8) (w : World) (hE : LE w) (hX : LX w) (hL : LV w) (hg : 10 ≤ w.heap.size) (hs0 : s.length ≤ 140737488355328) (ht0 : t.length ≤ 140737488355328) : Calls Tryz.prog 7 #[.string (B s),.string (B t)] w (cp w (.bool true)) := by
 refine az (args := [.string (B s),.string (B t)]) (lent := []) (H := []) Tryz.func7 rfl Tryz.ntmps7 rfl (Sat.start _ _ _ _) ((show Tri _ [(0,_),(1,_)] _ _ _ from ae (aa (o_assignN rfl rfl (ae (ae (aa (ah rfl rfl (ct Tryz.underlying9 rfl rfl (eV rfl rfl rfl (ah rfl rfl ?_)))))))))))
 refine' aX [_,_,_] [(0,_),(1,_)] (dj := 19) (dr := 22) rfl rfl (fun g1 => ?_) ⟨_,rfl,rfl,rfl,(.cons rfl (.cons rfl (.nil _)))⟩ rfl ?_
 rotate_left
 · skip
   exact ah rfl rfl (ct Tryz.underlying9 rfl rfl (eV rfl rfl rfl (ab (Piece.mk rfl rfl (.cons rfl (.cons rfl (.nil _))) (fun _ h => h)))))
 refine triL_nilN (aD rfl (fun q0 => ?_) (fun q0 => ?_))
 · skip
   refine ae (aa (aF (first := []) (cap := []) rfl rfl rfl Tryz.call12 (fun w1 h1 => pL w1 (hE.chg h1.chg) (hX.chg h1.chg) (hL.chg h1.chg) (by have : w.heap.size ≤ w1.heap.size := h1.chg.size; omega)) (o_assignN rfl rfl (aq (am (bb rfl rfl ?_)))))); exact fun w1 hw1 => ⟨congrArg (fun b => Ending.returned (.bool b)) (by rfl),hw1.chg⟩
 · skip
   simp only [Bool.or_eq_false_iff,decide_eq_false_iff_not] at q0
   have hs1 : s.length ≤ 2000 := by omega
   have ht1 : t.length ≤ 2000 := by omega
   refine ao (ag (ae (aa (ah rfl rfl (gX (J := List Nat × List Value) (val := fun j => .tuple #[.agg j.2.toArray,errS (cu s)]) (D' := fun j => [stC j.1 (stR (cu s)) j.2]) (Pu := fun j => j.2.length = 31 ∧ allOne j.2 = true) [] [] _ [] rfl rfl rfl rfl Tryz.call15 (by simp) (by simp) (fun w1 h1 h2 => nu s w1 (by omega) (hE.chg h1.chg)) (fun j hj => ah rfl rfl (be rfl rfl rfl (be rfl rfl rfl (aP _ rfl jb rfl (fun b5 => dL (us := [.int .i64 0,.string .empty,.string .empty,.slice none 0 0,.slice none 0 0,.bool false,.slice none 0 0,.slice none 0 0,.int .i64 0,.int .i64 0,.int .i64 0,.string .empty,.string .empty,.string .empty,.int .i64 0,.slice none 0 0,.bool false,.bool false,.slice none 0 0,.slice none 0 0,.int .i64 0,.int .i64 0,.int .i64 0,.string .empty,.string .empty,.string .empty,.int .i64 0,.slice none 0 0,.slice none 0 0,.bool false,.int .i64 0]) (cs := j.2) rfl hj.1 hj.2 gc .z rfl rfl rfl (o_assignN rfl rfl (ae (tri_slo [(6,_),(0,_),(1,_)] rfl (aa (ah rfl rfl (aF (first := []) (cap := []) rfl rfl rfl Tryz.call18 (fun w1 h1 => faultS (cu s) w1 (hX.chg h1.chg)) (aP _ rfl lu rfl (fun b7 => aB jZ (by repeat (first | exact Nth.z | apply Nth.s)) rfl rfl rfl rfl rfl (Nat.le_of_ble_eq_true rfl) rfl (triL_nilN (ae (aa (ah rfl rfl (oS (first := []) (cap := []) (fun v => .tuple #[v,.agg #[.int .i64 (fc (cQ s)).1,.int .i64 (fc (cQ s)).2]]) rfl rfl rfl Tryz.call19 (fun w1 h1 => lexRef s w1 (by omega)) (fun A34 c34 => ah rfl rfl (be rfl rfl rfl (be rfl rfl rfl (aP _ rfl lu rfl (fun b9 => aH rfl rfl (aB jZ (by repeat (first | exact Nth.z | apply Nth.s)) rfl rfl rfl rfl rfl (Nat.le_of_ble_eq_true rfl) rfl (triL_nilN (ae (tri_slo [(8,_),(9,_),(7,_),(6,_),(0,_),(1,_)] rfl (aa (ah rfl rfl (oS (first := []) (cap := []) (fun v => .tuple #[v,.agg #[.int .i64 (fc (cQ t)).1,.int .i64 (fc (cQ t)).2]]) rfl rfl rfl Tryz.call19 (fun w1 h1 => lexRef t w1 (by omega)) (fun A39 c39 => ah rfl rfl (be rfl rfl rfl (be rfl rfl rfl (aP _ rfl lu rfl (fun b11 => aH rfl rfl (aB jZ (by repeat (first | exact Nth.z | apply Nth.s)) rfl rfl rfl rfl rfl (Nat.le_of_ble_eq_true rfl) rfl ?_))))))))))))))))))))))))))))))))))))))))); refine triL_nilN (ae (ae (tri_slo [(11,_),(8,_),(9,_),(7,_),(6,_),(0,_),(1,_)] rfl (aa (ah rfl rfl (mz ifE (errSIs _) rfl rfl (ah rfl rfl ?_)))))))
   refine' aX [_,_,_] [(11,_),(8,_),(7,_),(0,_),(1,_)] (dj := 44) (dr := 47) rfl rfl (fun g2 => ?_) ⟨_,rfl,rfl,rfl,(.cons rfl (.cons rfl (.cons rfl (.cons rfl (.cons rfl (.nil _))))))⟩ rfl ?_
   rotate_left
   · skip
     exact aj pn rfl rfl (ak agg38 (by repeat (first | exact Nth.z | apply Nth.s)) rfl rfl rfl (cK rfl rfl rfl (ab (Piece.mk rfl rfl (.cons rfl (.cons rfl (.cons rfl (.cons rfl (.cons rfl (.nil _)))))) (fun _ h => h)))))
   refine ah rfl rfl ?_
   refine' aX [_,_,_] [(8,_),(7,_),(0,_),(1,_)] (dj := 49) (dr := 52) rfl rfl (fun g3 => ?_) ⟨_,rfl,rfl,rfl,(.cons rfl (.cons rfl (.cons rfl (.cons rfl (.nil _)))))⟩ rfl ?_
   rotate_left
   · skip
     exact aj pn rfl rfl (ak agg38 (by repeat (first | exact Nth.z | apply Nth.s)) rfl rfl rfl (cK rfl rfl rfl (ab (Piece.mk rfl rfl (.cons rfl (.cons rfl (.cons rfl (.cons rfl (.nil _))))) (fun _ h => h)))))
   refine triL_nilN (aD rfl (fun q1 => ?_) (fun q1 => ?_))
   · skip
     refine ae (tri_slo [(7,_)] rfl (aa (aj pn rfl rfl (ak agg38 (by repeat (first | exact Nth.z | apply Nth.s)) rfl rfl rfl (fO rfl rfl rfl ?_)))))
     rw [decide_eq_true (sg s)]
     refine ah rfl rfl (aF (first := []) (cap := []) rfl rfl rfl Tryz.call12 (fun w1 h1 => pL w1 (hE.chg h1.chg) (hX.chg h1.chg) (hL.chg h1.chg) (by have : w.heap.size ≤ w1.heap.size := h1.chg.size; omega)) (fL rfl rfl rfl rfl (o_assignN rfl rfl (aq (am (bb rfl rfl ?_)))))); exact fun w1 hw1 => ⟨congrArg (fun b => Ending.returned (.bool b)) (by rfl),hw1.chg⟩
   · skip
     obtain ⟨x,l,m,hx,hl,hm⟩ := qK q1
     rw [hx,hl,hm]
     simp only [tks,fcS]
     have hl1 := lex_some hl
     have hl2 := tks_le hl rfl
     have ff := qI hs1 ht1 hl hm hx
     refine ao (ag (ae (aa (o_assignN rfl rfl (ae (ae (aa (o_assignN rfl rfl (ay (bz (ι := Nat) (F := fun i => [(0,.string (B s)),(1,.string (B t)),(7,.pointer (some ⟨b7,0,none⟩)),(8,.slice A34 l.length c34),(12,.int .i64 (toT l x.2 i)),(13,.int .i64 (i : Int))]) (HH := fun i => [box b7 55 [.int .i64 x.1,.int .i64 x.2],row (.slice A34 l.length c34) 62 3 l.length (toksV l)]) (Pu := fun i => i ≤ l.length - 1) (μ := fun i => l.length - i) (0) (.cons rfl (.cons rfl (.cons rfl (.cons rfl (.cons rfl (.cons rfl (.nil _))))))) (fun w2 hw2 => hw2.sel [4,3] (by decide)) (Nat.zero_le _) (fun i hi => ae (ae (aa (ah rfl rfl (bn rfl rfl rfl (by (try simp only [List.length_append,List.length_cons,List.length_nil]); omega) (ah rfl rfl (aY Tryz.underlying58 rfl rfl (cg rfl rfl rfl (triL_nilN (av rfl (fun q2 => ?_) (fun q2 => ?_)))))))))))))))))))))
     · skip
       refine ao (ag (co (ι := Unit) (fun u => [(0,.string (B s)),(1,.string (B t)),(7,.pointer (some ⟨b7,0,none⟩)),(8,.slice A34 l.length c34),(12,.int .i64 (toT l x.2 (i + 1))),(13,.int .i64 (i : Int))]) (fun u => [box b7 55 [.int .i64 x.1,.int .i64 x.2],row (.slice A34 l.length c34) 62 3 l.length (toksV l)]) (fun u => True) ?_ (fun u hj => ?_)))
       · skip
         refine ay (ae (tri_slo [(0,_),(1,_),(7,_),(8,_),(12,_),(13,_)] rfl (kW (by kernel_rfl) (by kernel_rfl) (ah rfl rfl (ah rfl rfl (aS Tryz.underlying58 cR rfl rfl rfl (RdS.row (.s .z)) (by (try simp only [List.length_append,List.length_cons,List.length_nil]); omega) (by (try simp only [List.length_append,List.length_cons,List.length_nil]); omega) (by rw [bN]) (by decide) (aT lw rfl rfl (RdS.row (.s .z)) (oX l i (by omega)) (aK bL rfl rfl (RdS.row (.s .z)) (oW l i (by omega)) (aj fo55_1 rfl rfl (ak bL (by repeat (first | exact Nth.z | apply Nth.s)) rfl rfl rfl (aE rfl rfl rfl (triL_nilN (av rfl (fun q3 => ?_) (fun q3 => ?_))))))))))))))
         · skip
           exact tri_slo [(0,_),(1,_),(7,_),(8,_),(13,_)] rfl (aa (ah rfl rfl (ah rfl rfl (bn rfl rfl rfl (by (try simp only [List.length_append,List.length_cons,List.length_nil]); omega) (aS Tryz.underlying58 cR rfl rfl rfl (RdS.row (.s .z)) (by (try simp only [List.length_append,List.length_cons,List.length_nil]); omega) (by (try simp only [List.length_append,List.length_cons,List.length_nil]); omega) (by rw [bN]) (by decide) (aT lw rfl rfl (RdS.row (.s .z)) (oX l (i + 1) (by omega)) (aK bL rfl rfl (RdS.row (.s .z)) (oW l (i + 1) (by omega)) (aH rfl rfl (ab (an (ag (⟨(),(.cons rfl (.cons rfl (.cons rfl (.cons rfl (.cons (congrArg (fun z : Int => some (Value.int .i64 z)) (by rw [toT,if_pos q3])) (.cons rfl (.nil _))))))),fun _ h => h,trivial⟩))))))))))))
         · skip
           exact ao (an (ag (⟨(),(.cons rfl (.cons rfl (.cons rfl (.cons rfl (.cons (congrArg (fun z : Int => some (Value.int .i64 z)) (by rw [toT,if_neg q3])) (.cons rfl (.nil _))))))),fun _ h => h,trivial⟩)))
       exact aa (ah rfl rfl (bn rfl rfl rfl (by (try simp only [List.length_append,List.length_cons,List.length_nil]); omega) (o_assignN rfl rfl (⟨i + 1,(.cons rfl (.cons rfl (.cons rfl (.cons rfl (.cons rfl (.cons rfl (.nil _))))))),fun _ h => h,(by omega),by omega⟩))))
     · skip
       obtain rfl : i = l.length - 1 := by omega
       refine aZ (aw (aw (aL (ag (ae (ae (tri_slo [(0,_),(1,_),(7,_),(8,_),(12,_)] rfl (aa (ah rfl rfl (cg rfl rfl rfl (triL_nilN (av rfl (fun q4 => ?_) (fun q4 => ?_)))))))))))))
       · skip
         have hT := ff.1 q4
         refine ae (tri_slo [(7,_),(8,_)] rfl (bh (_) [(0,true),(1,true),(2,true),(3,true),(4,true),(5,true),(6,true),(7,true),(8,true),(9,false),(10,false),(11,false),(12,false),(13,false)] [9,10,11,12,13] (by kernel_rfl) (by kernel_rfl) (fun _ h => h) (ai rfl (ah rfl rfl (ab ⟨rfl,ai rfl (ah rfl rfl (ab ⟨rfl,ai rfl (aY Tryz.underlying58 rfl rfl (ab ⟨rfl,ai rfl (oQ rfl rfl rfl (by (try simp only [List.length_append,List.length_cons,List.length_nil]); omega) (dK (v' := .int .i64 ((l.length - 1 : Nat) : Int)) (congrArg (Value.int .i64) (by omega)) (ab ⟨rfl,ai rfl (aS Tryz.underlying58 cR rfl rfl rfl (RdS.row (.s .z)) (by (try simp only [List.length_append,List.length_cons,List.length_nil]); omega) (by (try simp only [List.length_append,List.length_cons,List.length_nil]); omega) (by rw [bN]) (by decide) (ab ⟨rfl,ai rfl (aT lw rfl rfl (RdS.row (.s .z)) (oX l (l.length - 1) (by omega)) (ab ⟨rfl,ai rfl (aK bL rfl rfl (RdS.row (.s .z)) (oW l (l.length - 1) (by omega)) (ab ⟨rfl,ai rfl (aj fo55_1 rfl rfl (ab ⟨rfl,ai rfl (ak bL (by repeat (first | exact Nth.z | apply Nth.s)) rfl rfl rfl (ab ⟨rfl,(bH [9,10,11,12,13] [_,_,_,_,_] rfl rfl (aE rfl rfl rfl ?_))⟩))⟩))⟩))⟩))⟩))⟩)))⟩))⟩))⟩)))))
         rw [decide_eq_true hT]
         refine ah rfl rfl (aF (first := []) (cap := []) rfl rfl rfl Tryz.call12 (fun w1 h1 => pL w1 (hE.chg h1.chg) (hX.chg h1.chg) (hL.chg h1.chg) (by have : w.heap.size ≤ w1.heap.size := h1.chg.size; omega)) (fL rfl rfl rfl rfl (aH rfl rfl (ab ⟨rfl,(ag (aq (am (bb rfl rfl ?_))))⟩)))); exact fun w1 hw1 => ⟨congrArg (fun b => Ending.returned (.bool b)) (by rfl),hw1.chg⟩
       · skip
         obtain ⟨k,hk1,hk2,hk3⟩ := ff.2 q4
         rw [hk1]
         refine ao (ag (ae (aa (ah rfl rfl (ah rfl rfl (gt Tryz.underlying9 rfl rfl rfl (by (try simp only [List.length_append,List.length_cons,List.length_nil]); omega) (by (try simp only [List.length_append,List.length_cons,List.length_nil]); omega) (o_cat (m := [10]) rfl rfl rfl (by simp; omega) (ah rfl rfl (o_cat rfl rfl rfl (by simp; omega) (gX (J := List Nat × List Value) (val := fun j => .tuple #[.agg j.2.toArray,errS (cu (s.take k ++ [10] ++ t))]) (D' := fun j => [stC j.1 (stR (cu (s.take k ++ [10] ++ t))) j.2]) (Pu := fun j => j.2.length = 31 ∧ allOne j.2 = true) [] [] _ [] rfl rfl rfl rfl Tryz.call15 (by simp) (by simp) (fun w1 h1 h2 => nu (s.take k ++ [10] ++ t) w1 (by simp; omega) (hE.chg h1.chg)) (fun j2 hj2 => ?_)))))))))))
         rw [hk3]
         refine ah rfl rfl (be rfl rfl rfl (be rfl rfl rfl (aP _ rfl jb rfl (fun b14 => dL (us := [.int .i64 0,.string .empty,.string .empty,.slice none 0 0,.slice none 0 0,.bool false,.slice none 0 0,.slice none 0 0,.int .i64 0,.int .i64 0,.int .i64 0,.string .empty,.string .empty,.string .empty,.int .i64 0,.slice none 0 0,.bool false,.bool false,.slice none 0 0,.slice none 0 0,.int .i64 0,.int .i64 0,.int .i64 0,.string .empty,.string .empty,.string .empty,.int .i64 0,.slice none 0 0,.slice none 0 0,.bool false,.int .i64 0]) (cs := j2.2) rfl hj2.1 hj2.2 gc .z rfl rfl rfl (o_assignN rfl rfl (ae (tri_slo [(15,_),(7,_)] rfl (bh (_) [(0,true),(2,true),(1,false),(3,false),(4,false),(5,false),(6,false),(7,false)] [3,4,5,6,7] (by kernel_rfl) (by kernel_rfl) (fun _ h => h) (ai rfl (ah rfl rfl (ab ⟨rfl,ai rfl (aW lQ jZ (.s (.s .z)) rfl rfl (vs := [.int .i64 x.1,.int .i64 x.2]) rfl rfl (ab ⟨rfl,(aN rfl (aF (first := []) (cap := []) rfl rfl rfl Tryz.call18 (fun w1 h1 => faultS (.error x) w1 (hX.chg h1.chg)) (ab ⟨rfl,fun _ _ h => Sat.dropS 0 h,(bH [3,4,5,6,7] [_,_,_,_,_] rfl rfl (sN (ks := fKs) (vs := fcs (.error x)) flatF (fcs_fits _) (fcs_same _) rfl rfl rfl (ah rfl rfl (aF (first := []) (cap := []) rfl rfl rfl Tryz.call12 (fun w1 h1 => pL w1 (hE.chg h1.chg) (hX.chg h1.chg) (hL.chg h1.chg) (by have : w.heap.size ≤ w1.heap.size := h1.chg.size; omega)) (fL rfl rfl rfl rfl (aH rfl rfl (ab ⟨rfl,(ag (aq (bb rfl rfl ?_)))⟩)))))))⟩)))⟩))⟩))))))))))); exact fun w1 hw1 => ⟨congrArg (fun b => Ending.returned (.bool b)) (by rfl),hw1.chg⟩
end Go.Proofs.YtjbpkcbefmpfgaaGreatDoor
namespace Go.Proofs.YtjbpkcbefmpfgaaGreatDoor
open Go.WK Go.RowKit
theorem tySyn : (Tryz.prog.globals[6]?).map (·.type) = some 46 := by kernel_rfl
theorem tyRng : (Tryz.prog.globals[7]?).map (·.type) = some 46 := by kernel_rfl
theorem tV : Tryz.prog.cellsOf 254 = 1 := by kernel_rfl
theorem qZ : Tryz.prog.cellsOf 9 = 1 := by kernel_rfl
theorem star : "*" ++ "errors.errorString" = "*errors.errorString" := by decide
theorem rowEs (u : TypeId) (h : Tryz.prog.typeName? 3 u = some "*errors.errorString") : u = 252 :=
 typeName_ptr_named (nm := "errors.errorString") (by rw [star]; kernel_rfl) (by kernel_rfl) (by decide) u (by rw [star]; exact h)
theorem synIs {W : World} {rest : List (String × DataW Unit)} (h : laidMet Tryz.prog (("strconv.ErrSyntax", Rows.laid_strconv_ErrSyntax) :: rest) W) : ∃ tp p, W.var? Tryz.prog "strconv.ErrSyntax" = some #[.iface tp p] := by
 obtain ⟨a,s,hv,_⟩ := laid_sentinel h gSyn tySyn Tryz.underlying46 rowEs Tryz.underlying252 Tryz.underlying254 rfl rfl Tryz.underlying9 tV qZ
 exact ⟨_,_,hv⟩
theorem rngIs {W : World} {rest : List (String × DataW Unit)} (h : laidMet Tryz.prog (("strconv.ErrRange", Rows.laid_strconv_ErrRange) :: rest) W) : ∃ tp p, W.var? Tryz.prog "strconv.ErrRange" = some #[.iface tp p] := by
 obtain ⟨a,s,hv,_⟩ := laid_sentinel h gRng tyRng Tryz.underlying46 rowEs Tryz.underlying252 Tryz.underlying254 rfl rfl Tryz.underlying9 tV qZ
 exact ⟨_,_,hv⟩
theorem tyTab : (Tryz.prog.globals[2]?).map (·.type) = some 231 := by kernel_rfl
theorem cellsU : Tryz.prog.cellsOf 200 = 1 := by kernel_rfl
theorem cellsTab : Tryz.prog.cellsOf 231 = 20 := by kernel_rfl
theorem rtIs : (Tryz.prog.cutTypes.find? (·.1 == "internal/reflectlite.rtype")).map (·.2) = some 180 := by kernel_rfl
theorem oneRow : ((List.range 286).filter fun t => Tryz.prog.rowNamed t [101,114,114,111,114]) = [46] := by kernel_rfl
theorem tsize : Tryz.prog.types.size = 286 := by kernel_rfl
abbrev plainL : List (String × DataW Unit) := [("math/bits.deBruijn32tab", Rows.laid_math_bits_deBruijn32tab), ("math/bits.deBruijn64tab", Rows.laid_math_bits_deBruijn64tab), ("internal/strconv.uint64pow10", Rows.laid_internal_strconv_uint64pow10), ("unicode/utf8.acceptRanges", Rows.laid_unicode_utf8_acceptRanges), ("strconv.ErrRange", Rows.laid_strconv_ErrRange), ("strconv.ErrSyntax", Rows.laid_strconv_ErrSyntax), ("unicode.CaseRanges", Rows.laid_unicode_CaseRanges), ("unicode/utf8.first", Rows.laid_unicode_utf8_first)]
abbrev ra : List (String × DataW Unit) := Rows.parsePrintsUptoRow.laid
theorem tW : (ra.filter fun x => x.2.handleName?.isSome) = [("errors.errorType", Rows.laid_errors_errorType)] := by kernel_rfl
theorem restL : (ra.filter fun x => x.2.handleName?.isNone) = plainL := by kernel_rfl
theorem errTyIs {W : World} (h : handlesMet Tryz.prog [("errors.errorType", Rows.laid_errors_errorType)] W) : W.cell? ⟨0, 0, none⟩ = some (.iface 180 (.agg #[.pointer (some ⟨10, 46, none⟩)])) := by
 obtain ⟨name,u,ty,e1,e2,e3,e4,e5⟩ := h _ (List.mem_singleton.2 rfl)
 have en : name = [101,114,114,111,114] := (Option.some.inj e1).symm
 subst en
 obtain rfl := Option.some.inj (rtIs.symm.trans e2)
 have hm : ty ∈ (List.range 286).filter fun t => Tryz.prog.rowNamed t [101,114,114,111,114] := List.mem_filter.2 ⟨List.mem_range.2 (by rw [← tsize]; exact e3),e4⟩
 rw [oneRow] at hm
 obtain rfl := List.mem_singleton.1 hm
 have hh : typeHandle Tryz.prog 46 = .pointer (some ⟨10,46,none⟩) := by kernel_rfl
 rw [hh] at e5
 simpa using World.var?_cell sk e5 0
noncomputable def base0 (os : Os) : World :=
 let w0 := World.holding Tryz.prog os ⟨#[], #[],[]⟩
 { w0 with heap := w0.heap.modify 0 fun
   | .cells _ t frozen => .cells #[.iface 180 (.agg #[.pointer (some ⟨10,46,none⟩)])] t frozen
   | o => o }
noncomputable def laidW (os : Os) : World := (base0 os).layVars Tryz.prog plainL
theorem laidW_os (os : Os) : (laidW os).os = os := World.layVars_os _ _ _
theorem uU (os : Os) (args : Array Value) : laidMetH Tryz.prog ra ((laidW os).forCall (fun _ _ => 0) ⟨#[],args,[]⟩).memory :=
 nH tW restL (nG args (by kernel_rfl) (by kernel_rfl)) (handlesMet_of_B (by kernel_rfl))
theorem maxIs {W : World} (h : W.ShapedOpen Tryz.prog) : ∃ m,W.cell? ⟨3,0,none⟩ = some (.int .i64 m) :=
 cell_of_shapedOpen_int (P := Tryz.prog) (g := 3) (t := 3) (zero := #[.int .i64 0]) h (of_decide_eq_true (by kernel_rfl)) (by kernel_rfl) rfl (by kernel_rfl) (by kernel_rfl) Tryz.underlying3
theorem size10 {W : World} (h : W.ShapedOpen Tryz.prog) : 10 ≤ W.heap.size := by
 have e : (((begin Tryz.prog (fun _ _ => 0) default).world.heap[9]?).bind Obj.row?).isSome = true := by kernel_rfl
 obtain ⟨⟨zero,t⟩,e⟩ := Option.isSome_iff_exists.1 e
 obtain ⟨cs,hc,_⟩ := h.1 9 zero t (of_decide_eq_true (by kernel_rfl)) e
 rcases Nat.lt_or_ge 9 W.heap.size with hl | hl
 · exact hl
 · rw [Array.getElem?_eq_none hl] at hc; cases hc
structure Known (W : World) : Prop where
 E : LE W
 X : LX W
 V : LV W
 g : 10 ≤ W.heap.size
theorem known {W : World} (h : laidMetH Tryz.prog ra W) (hs : W.ShapedOpen Tryz.prog) : Known W := by
 have hsp := nb (laid := ra) h tW
 rw [restL] at hsp
 obtain ⟨hpl,hha⟩ := hsp
 exact ⟨⟨synIs hpl.tail.tail.tail.tail.tail,rngIs hpl.tail.tail.tail.tail⟩,⟨errTyIs hha⟩,⟨maxIs hs,Lib.tabIs_of_head gTab tyTab Tryz.underlying231 Tryz.underlying200 cellsU cellsTab hpl.tail.tail⟩,size10 hs⟩
end Go.Proofs.YtjbpkcbefmpfgaaGreatDoor
