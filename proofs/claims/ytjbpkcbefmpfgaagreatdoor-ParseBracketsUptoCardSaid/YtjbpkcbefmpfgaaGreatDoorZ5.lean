/- Parts of the proof, joined and made shorter by a program: Dk4, Dk5, Lw1, Lw2, PSent. -/
import Derived.Test.YtjbpkcbefmpfgaaGreatDoorZ4
import Derived.Test.YtjbpkcbefmpfgaaGreatDoorRows
import Derived.Stop.LaidErr
import Derived.HandedShaped
import Derived.KernelRfl
namespace Go.Proofs.YtjbpkcbefmpfgaaGreatDoor
open Go.WK Go.RowKit 
theorem flat71 : fU Tryz.prog 71 = some colKs := by kernel_rfl
theorem flat121 : fU Tryz.prog 121 = some ordKs := by kernel_rfl
theorem sI (l m : List ColX) (y z : SL) (bl bm : List Nat) (xa xb : List Value) (w : World) (hA : SlR colKd bl w l y xa) (hB : SlR colKd bm w m z xb) (hn : l.length ≤ 70368744177664) : Calls Tryz.prog 48 #[.slice y.A l.length y.k,.slice z.A m.length z.k] w (cj w (.bool (decide (l = m)))) := by
 refine ax (args := [.slice y.A l.length y.k,.slice z.A m.length z.k]) (lent := []) (H := []) Tryz.func48 rfl Tryz.ntmps48 rfl (Sat.start _ _ _ _) ((show Tri _ [(0,_),(1,_)] _ _ _ from ae (aa (o_assignN rfl rfl (ae (ae (aa (ai rfl rfl (aU Tryz.underlying22 rfl rfl (ai rfl rfl (aU Tryz.underlying22 rfl rfl (cw rfl rfl rfl (triL_nilN (ar rfl (fun q0 => ?_) (fun q0 => ?_)))))))))))))))
 · skip
   refine ae (aw [] (.nil _) (aa (o_assignN rfl rfl (aq (am (aW rfl rfl ?_)))))); exact fun w1 hw1 => ⟨congrArg (fun b => Ending.returned (.bool b)) (by exact (decide_eq_false (qh q0)).symm),hw1.chg⟩
 · skip
   have hlen : l.length = m.length := by omega
   refine an (ag (ae (ae (tri_slo [(0,_),(1,_)] rfl (aa (o_assignN rfl rfl (av (bC (ι := Nat) (F := fun i => [(0,.slice y.A l.length y.k),(1,.slice z.A m.length z.k),(5,.int .i64 (i : Int))]) (HH := fun i => []) (Pu := fun i => i ≤ l.length ∧ ∀ j,j < i → l.getD j ColX.zero = m.getD j ColX.zero) (μ := fun i => l.length - i) (0) (.cons rfl (.cons rfl (.cons rfl (.nil _)))) (fun _ h => h) (⟨Nat.zero_le _,fun j hj => absurd hj (by omega)⟩) (fun i hi => ae (ae (aa (ai rfl rfl (ai rfl rfl (aU Tryz.underlying22 rfl rfl (cv rfl rfl rfl (triL_nilN (ar rfl (fun q1 => ?_) (fun q1 => ?_))))))))))))))))))
   · skip
     have hil : i < l.length := by omega
     refine an (ag (ae (av (ae (tri_slo [(0,_),(1,_),(5,_)] rfl ?_)))))
     have hca := nG hA i hil
     have hcb := nG hB i (by omega)
     refine bo (_) [(0,true),(1,true),(2,true),(3,true),(4,true),(5,true),(6,true),(7,true),(8,false)] [8] (by kernel_rfl) (by kernel_rfl) (fun _ h => h) (ah rfl (ai rfl rfl (ab ⟨rfl,ah rfl (ai rfl rfl (ab ⟨rfl,ah rfl (aT Tryz.underlying22 sz71 rfl rfl rfl (hA.rd0 _ _ rfl rfl) (by (try simp only [List.length_append,List.length_cons,List.length_nil]); omega) (by (try simp only [List.length_append,List.length_cons,List.length_nil]); omega) hA.len (by decide) (ab ⟨rfl,ah rfl (bv agg71 sz71 rfl rfl (hA.rd0 _ _ rfl rfl) (vs := ColX.cs (l.getD i ColX.zero)) hca rfl (by decide) (ab ⟨rfl,ah rfl (ai rfl rfl (ab ⟨rfl,ah rfl (ai rfl rfl (ab ⟨rfl,ah rfl (aT Tryz.underlying22 sz71 rfl rfl rfl (hB.rd0 _ _ rfl rfl) (by (try simp only [List.length_append,List.length_cons,List.length_nil]); omega) (by (try simp only [List.length_append,List.length_cons,List.length_nil]); omega) hB.len (by decide) (ab ⟨rfl,ah rfl (bv agg71 sz71 rfl rfl (hB.rd0 _ _ rfl rfl) (vs := ColX.cs (m.getD i ColX.zero)) hcb rfl (by decide) (ab ⟨rfl,(bE [8] [_] rfl rfl (o_neqCol flat71 rfl rfl rfl (ab ⟨rfl,(ag (aF rfl (fun q2 => ?_) (fun q2 => ?_)))⟩)))⟩))⟩))⟩))⟩))⟩))⟩))⟩))⟩)))
     · skip
       have q2 := of_decide_eq_false (cn q2)
       refine ae (aw [] (.nil _) (aa (o_assignN rfl rfl (aq (ap (am (am (ap (am (aW rfl rfl ?_)))))))))); exact fun w1 hw1 => ⟨congrArg (fun b => Ending.returned (.bool b)) (by exact (decide_eq_false (at_ne q2)).symm),hw1.chg⟩
     · skip
       have q2 := of_decide_eq_true (bS q2)
       exact an (ao (ag (tri_slo [(0,_),(1,_),(5,_)] rfl (aa (ai rfl rfl (bD rfl rfl rfl (by (try simp only [List.length_append,List.length_cons,List.length_nil]); omega) (o_assignN rfl rfl (⟨i + 1,(.cons rfl (.cons rfl (.cons rfl (.nil _)))),fun _ h => h,⟨by omega,upd hi.2 q2⟩,by omega⟩))))))))
   · skip
     refine bg (au (au (aK (ag (ae (aw [] (.nil _) (aa (o_assignN rfl rfl (aq (aW rfl rfl ?_)))))))))); exact fun w1 hw1 => ⟨congrArg (fun b => Ending.returned (.bool b)) (by exact (decide_eq_true (eA ColX.zero hlen (fun j hj => hi.2 j (by omega)))).symm),hw1.chg⟩
theorem qF (l m : List (List UInt8)) (y z : SL) (bl bm : List Nat) (xa xb : List Value) (w : World) (hA : SlR nameKd bl w l y xa) (hB : SlR nameKd bm w m z xb) (hn : l.length ≤ 70368744177664) : Calls Tryz.prog 49 #[.slice y.A l.length y.k,.slice z.A m.length z.k] w (cj w (.bool (decide (l = m)))) := by
 refine ax (args := [.slice y.A l.length y.k,.slice z.A m.length z.k]) (lent := []) (H := []) Tryz.func49 rfl Tryz.ntmps49 rfl (Sat.start _ _ _ _) ((show Tri _ [(0,_),(1,_)] _ _ _ from ae (aa (o_assignN rfl rfl (ae (ae (aa (ai rfl rfl (aU Tryz.underlying23 rfl rfl (ai rfl rfl (aU Tryz.underlying23 rfl rfl (cw rfl rfl rfl (triL_nilN (ar rfl (fun q0 => ?_) (fun q0 => ?_)))))))))))))))
 · skip
   refine ae (aw [] (.nil _) (aa (o_assignN rfl rfl (aq (am (aW rfl rfl ?_)))))); exact fun w1 hw1 => ⟨congrArg (fun b => Ending.returned (.bool b)) (by exact (decide_eq_false (qh q0)).symm),hw1.chg⟩
 · skip
   have hlen : l.length = m.length := by omega
   refine an (ag (ae (ae (tri_slo [(0,_),(1,_)] rfl (aa (o_assignN rfl rfl (av (bC (ι := Nat) (F := fun i => [(0,.slice y.A l.length y.k),(1,.slice z.A m.length z.k),(5,.int .i64 (i : Int))]) (HH := fun i => []) (Pu := fun i => i ≤ l.length ∧ ∀ j,j < i → l.getD j [] = m.getD j []) (μ := fun i => l.length - i) (0) (.cons rfl (.cons rfl (.cons rfl (.nil _)))) (fun _ h => h) (⟨Nat.zero_le _,fun j hj => absurd hj (by omega)⟩) (fun i hi => ae (ae (aa (ai rfl rfl (ai rfl rfl (aU Tryz.underlying23 rfl rfl (cv rfl rfl rfl (triL_nilN (ar rfl (fun q1 => ?_) (fun q1 => ?_))))))))))))))))))
   · skip
     have hil : i < l.length := by omega
     refine an (ag (ae (av (ae (tri_slo [(0,_),(1,_),(5,_)] rfl ?_)))))
     have hca := kQ hA i hil
     have hcb := kQ hB i (by omega)
     refine bo (_) [(0,true),(1,true),(2,true),(3,true),(4,true),(5,true),(6,true),(7,true),(8,false)] [8] (by kernel_rfl) (by kernel_rfl) (fun _ h => h) (ah rfl (ai rfl rfl (ab ⟨rfl,ah rfl (ai rfl rfl (ab ⟨rfl,ah rfl (aT Tryz.underlying23 sz9 rfl rfl rfl (hA.rd0 _ _ rfl rfl) (by (try simp only [List.length_append,List.length_cons,List.length_nil]); omega) (by (try simp only [List.length_append,List.length_cons,List.length_nil]); omega) hA.len (by decide) (ab ⟨rfl,ah rfl (aH bn rfl rfl (hA.rd0 _ _ rfl rfl) (aL hca (j := 0) rfl) (ab ⟨rfl,ah rfl (ai rfl rfl (ab ⟨rfl,ah rfl (ai rfl rfl (ab ⟨rfl,ah rfl (aT Tryz.underlying23 sz9 rfl rfl rfl (hB.rd0 _ _ rfl rfl) (by (try simp only [List.length_append,List.length_cons,List.length_nil]); omega) (by (try simp only [List.length_append,List.length_cons,List.length_nil]); omega) hB.len (by decide) (ab ⟨rfl,ah rfl (aH bn rfl rfl (hB.rd0 _ _ rfl rfl) (aL hcb (j := 0) rfl) (ab ⟨rfl,(bE [8] [_] rfl rfl (db rfl rfl rfl (ab ⟨rfl,(ag (aF rfl (fun q2 => ?_) (fun q2 => ?_)))⟩)))⟩))⟩))⟩))⟩))⟩))⟩))⟩))⟩)))
     · skip
       have q2 := of_decide_eq_true q2
       refine ae (aw [] (.nil _) (aa (o_assignN rfl rfl (aq (ap (am (am (ap (am (aW rfl rfl ?_)))))))))); exact fun w1 hw1 => ⟨congrArg (fun b => Ending.returned (.bool b)) (by exact (decide_eq_false (at_ne q2)).symm),hw1.chg⟩
     · skip
       have q2 := Decidable.not_not.1 (of_decide_eq_false q2)
       exact an (ao (ag (tri_slo [(0,_),(1,_),(5,_)] rfl (aa (ai rfl rfl (bD rfl rfl rfl (by (try simp only [List.length_append,List.length_cons,List.length_nil]); omega) (o_assignN rfl rfl (⟨i + 1,(.cons rfl (.cons rfl (.cons rfl (.nil _)))),fun _ h => h,⟨by omega,upd hi.2 q2⟩,by omega⟩))))))))
   · skip
     refine bg (au (au (aK (ag (ae (aw [] (.nil _) (aa (o_assignN rfl rfl (aq (aW rfl rfl ?_)))))))))); exact fun w1 hw1 => ⟨congrArg (fun b => Ending.returned (.bool b)) (by exact (decide_eq_true (eA ([] : List UInt8) hlen (fun j hj => hi.2 j (by omega)))).symm),hw1.chg⟩
theorem sameExsK (l m : List Ex) (y z : SL) (bl bm : List Nat) (xa xb : List Value) (w : World) (hA : SlR exKd bl w l y xa) (hB : SlR exKd bm w m z xb) (hn : l.length ≤ 70368744177664) (hz : ∀ i,i < l.length → (l.getD i Ex.zero).size ≤ 70368744177664) : Calls Tryz.prog 51 #[.slice y.A l.length y.k,.slice z.A m.length z.k] w (cj w (.bool (decide (l = m)))) := by
 refine ax (args := [.slice y.A l.length y.k,.slice z.A m.length z.k]) (lent := []) (H := []) Tryz.func51 rfl Tryz.ntmps51 rfl (Sat.start _ _ _ _) ((show Tri _ [(0,_),(1,_)] _ _ _ from ae (aa (o_assignN rfl rfl (ae (ae (aa (ai rfl rfl (aU Tryz.underlying28 rfl rfl (ai rfl rfl (aU Tryz.underlying28 rfl rfl (cw rfl rfl rfl (triL_nilN (ar rfl (fun q0 => ?_) (fun q0 => ?_)))))))))))))))
 · skip
   refine ae (aw [] (.nil _) (aa (o_assignN rfl rfl (aq (am (aW rfl rfl ?_)))))); exact fun w1 hw1 => ⟨congrArg (fun b => Ending.returned (.bool b)) (by exact (decide_eq_false (qh q0)).symm),hw1.chg⟩
 · skip
   have hlen : l.length = m.length := by omega
   refine an (ag (ae (ae (tri_slo [(0,_),(1,_)] rfl (aa (o_assignN rfl rfl (av (bC (ι := Nat) (F := fun i => [(0,.slice y.A l.length y.k),(1,.slice z.A m.length z.k),(5,.int .i64 (i : Int))]) (HH := fun i => []) (Pu := fun i => i ≤ l.length ∧ ∀ j,j < i → l.getD j Ex.zero = m.getD j Ex.zero) (μ := fun i => l.length - i) (0) (.cons rfl (.cons rfl (.cons rfl (.nil _)))) (fun _ h => h) (⟨Nat.zero_le _,fun j hj => absurd hj (by omega)⟩) (fun i hi => ae (ae (aa (ai rfl rfl (ai rfl rfl (aU Tryz.underlying28 rfl rfl (cv rfl rfl rfl (triL_nilN (ar rfl (fun q1 => ?_) (fun q1 => ?_))))))))))))))))))
   · skip
     have hil : i < l.length := by omega
     refine an (ag (ae (av (ae (tri_slo [(0,_),(1,_),(5,_)] rfl ?_)))))
     obtain ⟨ya,hca,hya⟩ := ex_at hA i hil
     obtain ⟨yb,hcb,hyb⟩ := ex_at hB i (by omega)
     refine bo (_) [(0,true),(1,true),(2,true),(3,true),(4,true),(5,true),(6,true),(7,true),(8,false),(9,false)] [8,9] (by kernel_rfl) (by kernel_rfl) (fun _ h => h) (ah rfl (ai rfl rfl (ab ⟨rfl,ah rfl (ai rfl rfl (ab ⟨rfl,ah rfl (aT Tryz.underlying28 aX rfl rfl rfl (hA.rd0 _ _ rfl rfl) (by (try simp only [List.length_append,List.length_cons,List.length_nil]); omega) (by (try simp only [List.length_append,List.length_cons,List.length_nil]); omega) hA.len (by decide) (ab ⟨rfl,ah rfl (bv aY aX rfl rfl (hA.rd0 _ _ rfl rfl) (vs := bH (l.getD i Ex.zero) ya) hca rfl (by decide) (ab ⟨rfl,ah rfl (ai rfl rfl (ab ⟨rfl,ah rfl (ai rfl rfl (ab ⟨rfl,ah rfl (aT Tryz.underlying28 aX rfl rfl rfl (hB.rd0 _ _ rfl rfl) (by (try simp only [List.length_append,List.length_cons,List.length_nil]); omega) (by (try simp only [List.length_append,List.length_cons,List.length_nil]); omega) hB.len (by decide) (ab ⟨rfl,ah rfl (bv aY aX rfl rfl (hB.rd0 _ _ rfl rfl) (vs := bH (m.getD i Ex.zero) yb) hcb rfl (by decide) (ab ⟨rfl,(bE [8,9] [_,_] rfl rfl (aA (first := []) (cap := []) rfl rfl rfl Tryz.call17 (fun w1 h1 => me _ _ _ _ w1 (ExC.chg h1.chg _ _ (ExK.c _ _ hya)) (ExC.chg h1.chg _ _ (ExK.c _ _ hyb)) (hz i hil)) (cZ rfl rfl (ab ⟨rfl,(ag (aF rfl (fun q2 => ?_) (fun q2 => ?_)))⟩))))⟩))⟩))⟩))⟩))⟩))⟩))⟩))⟩)))
     · skip
       have q2 := of_decide_eq_false (cn q2)
       refine ae (aw [] (.nil _) (aa (o_assignN rfl rfl (aq (ap (am (am (ap (am (aW rfl rfl ?_)))))))))); exact fun w1 hw1 => ⟨congrArg (fun b => Ending.returned (.bool b)) (by exact (decide_eq_false (at_ne q2)).symm),hw1.chg⟩
     · skip
       have q2 := of_decide_eq_true (bS q2)
       exact an (ao (ag (tri_slo [(0,_),(1,_),(5,_)] rfl (aa (ai rfl rfl (bD rfl rfl rfl (by (try simp only [List.length_append,List.length_cons,List.length_nil]); omega) (o_assignN rfl rfl (⟨i + 1,(.cons rfl (.cons rfl (.cons rfl (.nil _)))),fun _ h => h,⟨by omega,upd hi.2 q2⟩,by omega⟩))))))))
   · skip
     refine bg (au (au (aK (ag (ae (aw [] (.nil _) (aa (o_assignN rfl rfl (aq (aW rfl rfl ?_)))))))))); exact fun w1 hw1 => ⟨congrArg (fun b => Ending.returned (.bool b)) (by exact (decide_eq_true (eA Ex.zero hlen (fun j hj => hi.2 j (by omega)))).symm),hw1.chg⟩
set_option maxRecDepth 100000 in
set_option maxHeartbeats 2000000 in
theorem sameQK (a b : QryX) (y z : QLay) (bl bm : List Nat) (w : World) (hA : QAt bl w a y) (hB : QAt bm w b z) (hbd : QBd a) : Calls Tryz.prog 50 #[.agg (dL a y).toArray,.agg (dL b z).toArray] w (cj w (.bool (decide (a = b)))) := by
 refine ax (args := [.agg (dL a y).toArray,.agg (dL b z).toArray]) (lent := []) (H := []) Tryz.func50 rfl Tryz.ntmps50 rfl (Sat.start _ _ _ _) ((show Tri _ [(0,_),(1,_)] _ _ _ from ?_))
 obtain ⟨xIa,xFa,xOa,hIa,hFa,hWa,hOa⟩ := hA
 obtain ⟨xIb,xFb,xOb,hIb,hFb,hWb,hOb⟩ := hB
 have n1 : a.items.length ≤ 70368744177664 := hbd.ni
 have n2 : a.from_.length ≤ 70368744177664 := hbd.nf
 have n3 : a.ord.length ≤ 70368744177664 := hbd.no
 refine ae (aa (cl _ rfl rfl rfl (fun b2 => cl _ rfl rfl rfl (fun b3 => o_assignN rfl rfl (ae (ae (aa (aj kq rfl rfl (ak fg N1 rfl rfl rfl (aj kq rfl rfl (ak fg N0 rfl rfl rfl (na rfl Tryz.underlying4 rfl rfl (ai rfl rfl ?_)))))))))))))
 refine' bd [_,_,_,_,_] [(3,_),(2,_)] (dj := 13) (dr := 18) rfl rfl (fun g1 => ?_) ⟨_,rfl,rfl,rfl,(.cons rfl (.cons rfl (.nil _)))⟩ rfl ?_
 rotate_left
 · skip
   exact aj jk rfl rfl (ak fg N1 rfl rfl rfl (aj jk rfl rfl (ak fg N0 rfl rfl rfl (na rfl Tryz.underlying4 rfl rfl (ab (Piece.mk rfl rfl (.cons rfl (.cons rfl (.nil _))) (fun _ h => h)))))))
 refine ai rfl rfl ?_
 refine' bd [_,_,_,_,_] [(3,_),(2,_)] (dj := 20) (dr := 25) rfl rfl (fun g2 => ?_) ⟨_,rfl,rfl,rfl,(.cons rfl (.cons rfl (.nil _)))⟩ rfl ?_
 rotate_left
 · skip
   exact aj jl rfl rfl (ak fg N1 rfl rfl rfl (aj jl rfl rfl (ak fg N0 rfl rfl rfl (na rfl Tryz.underlying4 rfl rfl (ab (Piece.mk rfl rfl (.cons rfl (.cons rfl (.nil _))) (fun _ h => h)))))))
 refine ai rfl rfl ?_
 refine' bd [_,_,_,_,_] [(3,_),(2,_)] (dj := 27) (dr := 32) rfl rfl (fun g3 => ?_) ⟨_,rfl,rfl,rfl,(.cons rfl (.cons rfl (.nil _)))⟩ rfl ?_
 rotate_left
 · skip
   exact aj iD rfl rfl (ak bK N1 rfl rfl rfl (aj iD rfl rfl (ak bK N0 rfl rfl rfl (cw rfl rfl rfl (ab (Piece.mk rfl rfl (.cons rfl (.cons rfl (.nil _))) (fun _ h => h)))))))
 refine ai rfl rfl ?_
 refine' bd [_,_,_,_,_,_,_] [(3,_),(2,_)] (dj := 34) (dr := 41) rfl rfl (fun g4 => ?_) ⟨_,rfl,rfl,rfl,(.cons rfl (.cons rfl (.nil _)))⟩ rfl ?_
 rotate_left
 · skip
   exact aj cJ rfl rfl (ak dV N1 rfl rfl rfl (aU Tryz.underlying31 rfl rfl (aj cJ rfl rfl (ak dV N0 rfl rfl rfl (aU Tryz.underlying31 rfl rfl (cw rfl rfl rfl (ab (Piece.mk rfl rfl (.cons rfl (.cons rfl (.nil _))) (fun _ h => h)))))))))
 refine ai rfl rfl ?_
 refine' bd [_,_,_,_,_,_,_] [(3,_),(2,_)] (dj := 43) (dr := 50) rfl rfl (fun g5 => ?_) ⟨_,rfl,rfl,rfl,(.cons rfl (.cons rfl (.nil _)))⟩ rfl ?_
 rotate_left
 · skip
   exact aj cB rfl rfl (ak dD N1 rfl rfl rfl (aU Tryz.underlying32 rfl rfl (aj cB rfl rfl (ak dD N0 rfl rfl rfl (aU Tryz.underlying32 rfl rfl (cw rfl rfl rfl (ab (Piece.mk rfl rfl (.cons rfl (.cons rfl (.nil _))) (fun _ h => h)))))))))
 refine ai rfl rfl ?_
 refine' bd [_,_,_,_,_,_,_] [(3,_),(2,_)] (dj := 52) (dr := 59) rfl rfl (fun g6 => ?_) ⟨_,rfl,rfl,rfl,(.cons rfl (.cons rfl (.nil _)))⟩ rfl ?_
 rotate_left
 · skip
   exact aj eb rfl rfl (ak f8 N1 rfl rfl rfl (aU Tryz.underlying33 rfl rfl (aj eb rfl rfl (ak f8 N0 rfl rfl rfl (aU Tryz.underlying33 rfl rfl (cw rfl rfl rfl (ab (Piece.mk rfl rfl (.cons rfl (.cons rfl (.nil _))) (fun _ h => h)))))))))
 refine ai rfl rfl ?_
 refine' bd [_,_,_,_,_,_] [(3,_),(2,_)] (dj := 61) (dr := 67) rfl rfl (fun g7 => ?_) ⟨_,rfl,rfl,rfl,(.cons rfl (.cons rfl (.nil _)))⟩ rfl ?_
 rotate_left
 · skip
   exact aj gX rfl rfl (aQ aY aX (.s .z) rfl rfl (vs := bH a.wh y.V) rfl rfl (aj gX rfl rfl (aQ aY aX .z rfl rfl (vs := bH b.wh z.V) rfl rfl (aA (first := []) (cap := []) rfl rfl rfl Tryz.call17 (fun w1 h1 => me _ _ _ _ w1 (ExC.chg h1.chg _ _ (ExK.c _ _ hWa)) (ExC.chg h1.chg _ _ (ExK.c _ _ hWb)) hbd.wh) (cZ rfl rfl (ab (Piece.mk rfl rfl (.cons rfl (.cons rfl (.nil _))) (fun _ h => h))))))))
 refine triL_nilN (aF rfl (fun q0 => ?_) (fun q0 => ?_))
 · skip
   have q0 : sqB a b = true := q0
   refine ae (aa (o_assignN rfl rfl (aq (am (aW rfl rfl ?_))))); exact fun w1 hw1 => ⟨congrArg (fun b => Ending.returned (.bool b)) (by exact (decide_eq_false (sq_ne q0)).symm),hw1.chg⟩
 · skip
   have q0 : sqB a b = false := q0
   obtain ⟨_,hli,hlf,hlo⟩ := sq_no q0
   refine an (ag (ae (ae (aa (o_assignN rfl rfl (av (bC (ι := Nat) (F := fun i => [(2,.pointer (some ⟨b2,0,none⟩)),(3,.pointer (some ⟨b3,0,none⟩)),(5,.int .i64 (i : Int))]) (HH := fun i => [box b3 35 (dL b z),box b2 35 (dL a y)]) (Pu := fun i => i ≤ a.items.length ∧ ∀ j,j < i → a.items.getD j ItemX.zero = b.items.getD j ItemX.zero) (μ := fun i => a.items.length - i) (0) (.cons rfl (.cons rfl (.cons rfl (.nil _)))) (fun _ h => h) (⟨Nat.zero_le _,fun j hj => absurd hj (by omega)⟩) (fun i hi => ae (ae (aa (ai rfl rfl (aj cJ rfl rfl (ak dV N1 rfl rfl rfl (aU Tryz.underlying31 rfl rfl (cv rfl rfl rfl (triL_nilN (ar rfl (fun q1 => ?_) (fun q1 => ?_))))))))))))))))))
   · skip
     have hil : i < a.items.length := by omega
     refine an (ag (ae (av (ae ?_))))
     obtain ⟨ya,hca,hya⟩ := jH hIa i hil
     obtain ⟨yb,hcb,hyb⟩ := jH hIb i (by omega)
     by_cases hs : (a.items.getD i ItemX.zero).s = (b.items.getD i ItemX.zero).s
     · skip
       have hd : decide ((a.items.getD i ItemX.zero).s ≠ (b.items.getD i ItemX.zero).s) = false := decide_eq_false (fun h => h hs)
       refine tri_slo [(2,_),(3,_),(5,_)] rfl (bo (_) [(0,true),(1,true),(2,true),(3,true),(4,true),(5,true),(6,true),(7,true),(8,true),(9,true),(10,true),(11,true),(12,true),(13,true),(14,true),(15,true),(16,true),(17,true),(18,true),(19,true),(20,true),(21,true),(22,true),(23,true),(24,true),(25,true),(26,false),(27,false),(28,false)] [26,27,28] (by kernel_rfl) (by kernel_rfl) (fun _ h => h) (ah rfl (aj cJ rfl rfl (ab ⟨rfl,ah rfl (ak dV N1 rfl rfl rfl (ab ⟨rfl,ah rfl (ai rfl rfl (ab ⟨rfl,ah rfl (aT Tryz.underlying31 jj rfl rfl rfl (hIa.rd0 _ _ rfl rfl) (by (try simp only [List.length_append,List.length_cons,List.length_nil]); omega) (by (try simp only [List.length_append,List.length_cons,List.length_nil]); omega) hIa.len (by decide) (ab ⟨rfl,ah rfl (aO iB rfl rfl (hIa.rd0 _ _ rfl rfl) (aL hca (j := 0) rfl) (ab ⟨rfl,ah rfl (aH bn rfl rfl (hIa.rd0 _ _ rfl rfl) (aL hca (j := 8) rfl) (ab ⟨rfl,ah rfl (aj cJ rfl rfl (ab ⟨rfl,ah rfl (ak dV N0 rfl rfl rfl (ab ⟨rfl,ah rfl (ai rfl rfl (ab ⟨rfl,ah rfl (aT Tryz.underlying31 jj rfl rfl rfl (hIb.rd0 _ _ rfl rfl) (by (try simp only [List.length_append,List.length_cons,List.length_nil]); omega) (by (try simp only [List.length_append,List.length_cons,List.length_nil]); omega) hIb.len (by decide) (ab ⟨rfl,ah rfl (aO iB rfl rfl (hIb.rd0 _ _ rfl rfl) (aL hcb (j := 0) rfl) (ab ⟨rfl,ah rfl (aH bn rfl rfl (hIb.rd0 _ _ rfl rfl) (aL hcb (j := 8) rfl) (ab ⟨rfl,ah rfl (db rfl rfl rfl ?_)⟩))⟩))⟩))⟩))⟩))⟩))⟩))⟩))⟩))⟩))⟩))⟩))))
       rw [hd]
       refine ab ⟨rfl,ah rfl (ai rfl rfl (ab ⟨rfl,ah rfl (aj cJ rfl rfl (ab ⟨rfl,ah rfl (ak dV N1 rfl rfl rfl (ab ⟨rfl,ah rfl (ai rfl rfl (ab ⟨rfl,ah rfl (aT Tryz.underlying31 jj rfl rfl rfl (hIa.rd0 _ _ rfl rfl) (by (try simp only [List.length_append,List.length_cons,List.length_nil]); omega) (by (try simp only [List.length_append,List.length_cons,List.length_nil]); omega) hIa.len (by decide) (ab ⟨rfl,ah rfl (aO ma rfl rfl (hIa.rd0 _ _ rfl rfl) (aL hca (j := 0) rfl) (ab ⟨rfl,ah rfl (bv aY aX rfl rfl (hIa.rd0 _ _ rfl rfl) (vs := bH ((a.items.getD i ItemX.zero).e) ya) (ey (p := []) (cs := bH ((a.items.getD i ItemX.zero).e) ya) (r := [_]) hca) rfl (by decide) (ab ⟨rfl,ah rfl (aj cJ rfl rfl (ab ⟨rfl,ah rfl (ak dV N0 rfl rfl rfl (ab ⟨rfl,ah rfl (ai rfl rfl (ab ⟨rfl,ah rfl (aT Tryz.underlying31 jj rfl rfl rfl (hIb.rd0 _ _ rfl rfl) (by (try simp only [List.length_append,List.length_cons,List.length_nil]); omega) (by (try simp only [List.length_append,List.length_cons,List.length_nil]); omega) hIb.len (by decide) (ab ⟨rfl,ah rfl (aO ma rfl rfl (hIb.rd0 _ _ rfl rfl) (aL hcb (j := 0) rfl) (ab ⟨rfl,ah rfl (bv aY aX rfl rfl (hIb.rd0 _ _ rfl rfl) (vs := bH ((b.items.getD i ItemX.zero).e) yb) (ey (p := []) (cs := bH ((b.items.getD i ItemX.zero).e) yb) (r := [_]) hcb) rfl (by decide) (ab ⟨rfl,(bE [26,27,28] [_,_,_] rfl rfl (aA (first := []) (cap := []) rfl rfl rfl Tryz.call17 (fun w1 h1 => me _ _ _ _ w1 (ExC.chg h1.chg _ _ (ExK.c _ _ hya)) (ExC.chg h1.chg _ _ (ExK.c _ _ hyb)) (hbd.items i hil).1) (cZ rfl rfl (fV rfl rfl rfl rfl (ab ⟨rfl,(ag (aF rfl (fun q2 => ?_) (fun q2 => ?_)))⟩)))))⟩))⟩))⟩))⟩))⟩))⟩))⟩))⟩))⟩))⟩))⟩))⟩))⟩))⟩
       · skip
         refine ae (aw [] (.nil _) (aa (o_assignN rfl rfl (aq (ap (am (am (ap (am (aW rfl rfl ?_)))))))))); exact fun w1 hw1 => ⟨congrArg (fun b => Ending.returned (.bool b)) (by exact (decide_eq_false (oV (rk (.inr (of_decide_eq_false (cn q2)))))).symm),hw1.chg⟩
       · skip
         exact an (ao (ag (tri_slo [(2,_),(3,_),(5,_)] rfl (aa (ai rfl rfl (bD rfl rfl rfl (by (try simp only [List.length_append,List.length_cons,List.length_nil]); omega) (o_assignN rfl rfl (⟨i + 1,(.cons rfl (.cons rfl (.cons rfl (.nil _)))),fun _ h => h,⟨by omega,upd hi.2 (item_eq hs (of_decide_eq_true (bS q2)))⟩,by omega⟩))))))))
     · skip
       have hd : decide ((a.items.getD i ItemX.zero).s ≠ (b.items.getD i ItemX.zero).s) = true := decide_eq_true hs
       refine tri_slo [(2,_),(3,_),(5,_)] rfl (bo (_) [(0,true),(1,true),(2,true),(3,true),(4,true),(5,true),(6,true),(7,true),(8,true),(9,true),(10,true),(11,true),(12,true),(13,true),(14,true),(15,true),(16,true),(17,true),(18,true),(19,true),(20,true),(21,true),(22,true),(23,true),(24,true),(25,true),(26,false),(27,false),(28,false)] [26,27,28] (by kernel_rfl) (by kernel_rfl) (fun _ h => h) (ah rfl (aj cJ rfl rfl (ab ⟨rfl,ah rfl (ak dV N1 rfl rfl rfl (ab ⟨rfl,ah rfl (ai rfl rfl (ab ⟨rfl,ah rfl (aT Tryz.underlying31 jj rfl rfl rfl (hIa.rd0 _ _ rfl rfl) (by (try simp only [List.length_append,List.length_cons,List.length_nil]); omega) (by (try simp only [List.length_append,List.length_cons,List.length_nil]); omega) hIa.len (by decide) (ab ⟨rfl,ah rfl (aO iB rfl rfl (hIa.rd0 _ _ rfl rfl) (aL hca (j := 0) rfl) (ab ⟨rfl,ah rfl (aH bn rfl rfl (hIa.rd0 _ _ rfl rfl) (aL hca (j := 8) rfl) (ab ⟨rfl,ah rfl (aj cJ rfl rfl (ab ⟨rfl,ah rfl (ak dV N0 rfl rfl rfl (ab ⟨rfl,ah rfl (ai rfl rfl (ab ⟨rfl,ah rfl (aT Tryz.underlying31 jj rfl rfl rfl (hIb.rd0 _ _ rfl rfl) (by (try simp only [List.length_append,List.length_cons,List.length_nil]); omega) (by (try simp only [List.length_append,List.length_cons,List.length_nil]); omega) hIb.len (by decide) (ab ⟨rfl,ah rfl (aO iB rfl rfl (hIb.rd0 _ _ rfl rfl) (aL hcb (j := 0) rfl) (ab ⟨rfl,ah rfl (aH bn rfl rfl (hIb.rd0 _ _ rfl rfl) (aL hcb (j := 8) rfl) (ab ⟨rfl,ah rfl (db rfl rfl rfl ?_)⟩))⟩))⟩))⟩))⟩))⟩))⟩))⟩))⟩))⟩))⟩))⟩))))
       rw [hd]
       refine ab ⟨rfl,ah rfl (ai rfl rfl (ab ⟨rfl,ah rfl (bB rfl rfl (ab ⟨rfl,ah rfl (bB rfl rfl (ab ⟨rfl,ah rfl (bB rfl rfl (ab ⟨rfl,ah rfl (bB rfl rfl (ab ⟨rfl,ah rfl (bB rfl rfl (ab ⟨rfl,ah rfl (bB rfl rfl (ab ⟨rfl,ah rfl (bB rfl rfl (ab ⟨rfl,ah rfl (bB rfl rfl (ab ⟨rfl,ah rfl (bB rfl rfl (ab ⟨rfl,ah rfl (bB rfl rfl (ab ⟨rfl,ah rfl (bB rfl rfl (ab ⟨rfl,ah rfl (bB rfl rfl (ab ⟨rfl,(bE [26,27,28] [_,_,_] rfl rfl (bB rfl rfl (bB rfl rfl (iL rfl rfl rfl rfl (ab ⟨rfl,(ag (bU rfl (ae (aw [] (.nil _) (aa (o_assignN rfl rfl (aq (ap ?_))))))))⟩)))))⟩))⟩))⟩))⟩))⟩))⟩))⟩))⟩))⟩))⟩))⟩))⟩))⟩))⟩; refine am (am (ap (am (aW rfl rfl ?_)))); exact fun w1 hw1 => ⟨congrArg (fun b => Ending.returned (.bool b)) (by exact (decide_eq_false (oV (rk (.inl hs)))).symm),hw1.chg⟩
   · skip
     have hxi : ∀ j,j < a.items.length → _ = _ := fun j hj => hi.2 j (by omega)
     refine bg (au (au (aK (ag (ae (ae (tri_slo [(2,_),(3,_)] rfl (aa (o_assignN rfl rfl (av (bC (ι := Nat) (F := fun i => [(2,.pointer (some ⟨b2,0,none⟩)),(3,.pointer (some ⟨b3,0,none⟩)),(6,.int .i64 (i : Int))]) (HH := fun i => [box b3 35 (dL b z),box b2 35 (dL a y)]) (Pu := fun i => i ≤ a.from_.length ∧ ∀ j,j < i → a.from_.getD j SrcX.zero = b.from_.getD j SrcX.zero) (μ := fun i => a.from_.length - i) (0) (.cons rfl (.cons rfl (.cons rfl (.nil _)))) (fun _ h => h) (⟨Nat.zero_le _,fun j hj => absurd hj (by omega)⟩) (fun i hi => ae (ae (aa (ai rfl rfl (aj cB rfl rfl (ak dD N1 rfl rfl rfl (aU Tryz.underlying32 rfl rfl (cv rfl rfl rfl (triL_nilN (ar rfl (fun q4 => ?_) (fun q4 => ?_))))))))))))))))))))))
     · skip
       have hil : i < a.from_.length := by omega
       refine an (ag (ae (av (ae ?_))))
       obtain ⟨ya,hca,hya⟩ := nE hFa i hil
       obtain ⟨yb,hcb,hyb⟩ := nE hFb i (by omega)
       have h3c : ((a.from_.getD i SrcX.zero).t ≠ (b.from_.getD i SrcX.zero).t) ∨ ((a.from_.getD i SrcX.zero).t = (b.from_.getD i SrcX.zero).t ∧ (a.from_.getD i SrcX.zero).s ≠ (b.from_.getD i SrcX.zero).s) ∨ ((a.from_.getD i SrcX.zero).t = (b.from_.getD i SrcX.zero).t ∧ (a.from_.getD i SrcX.zero).s = (b.from_.getD i SrcX.zero).s) := by
        by_cases h1 : (a.from_.getD i SrcX.zero).t = (b.from_.getD i SrcX.zero).t
        · by_cases h2 : (a.from_.getD i SrcX.zero).s = (b.from_.getD i SrcX.zero).s
          · exact .inr (.inr ⟨h1,h2⟩)
          · exact .inr (.inl ⟨h1,h2⟩)
        · exact .inl h1
       rcases h3c with hs | ⟨ht,hs⟩ | ⟨ht,hs⟩
       · skip
         have hd : decide ((a.from_.getD i SrcX.zero).t ≠ (b.from_.getD i SrcX.zero).t) = true := decide_eq_true hs
         refine tri_slo [(2,_),(3,_),(6,_)] rfl (bo (_) [(0,true),(1,true),(2,true),(3,true),(4,true),(5,true),(6,true),(7,true),(8,true),(9,true),(10,true),(11,true),(12,true),(13,true),(14,true),(15,true),(16,true),(17,true),(18,true),(19,true),(20,true),(21,true),(22,true),(23,true),(24,true),(25,true),(26,true),(27,true),(28,true),(29,true),(30,true),(31,true),(32,true),(33,true),(34,true),(35,true),(36,true),(37,true),(38,true),(39,true),(40,true),(41,false),(42,false),(43,false)] [41,42,43] (by kernel_rfl) (by kernel_rfl) (fun _ h => h) (ah rfl (aj cB rfl rfl (ab ⟨rfl,ah rfl (ak dD N1 rfl rfl rfl (ab ⟨rfl,ah rfl (ai rfl rfl (ab ⟨rfl,ah rfl (aT Tryz.underlying32 eN rfl rfl rfl (hFa.rd0 _ _ rfl rfl) (by (try simp only [List.length_append,List.length_cons,List.length_nil]); omega) (by (try simp only [List.length_append,List.length_cons,List.length_nil]); omega) hFa.len (by decide) (ab ⟨rfl,ah rfl (aO iE rfl rfl (hFa.rd0 _ _ rfl rfl) (aL hca (j := 0) rfl) (ab ⟨rfl,ah rfl (aH bn rfl rfl (hFa.rd0 _ _ rfl rfl) (aL hca (j := 0) rfl) (ab ⟨rfl,ah rfl (aj cB rfl rfl (ab ⟨rfl,ah rfl (ak dD N0 rfl rfl rfl (ab ⟨rfl,ah rfl (ai rfl rfl (ab ⟨rfl,ah rfl (aT Tryz.underlying32 eN rfl rfl rfl (hFb.rd0 _ _ rfl rfl) (by (try simp only [List.length_append,List.length_cons,List.length_nil]); omega) (by (try simp only [List.length_append,List.length_cons,List.length_nil]); omega) hFb.len (by decide) (ab ⟨rfl,ah rfl (aO iE rfl rfl (hFb.rd0 _ _ rfl rfl) (aL hcb (j := 0) rfl) (ab ⟨rfl,ah rfl (aH bn rfl rfl (hFb.rd0 _ _ rfl rfl) (aL hcb (j := 0) rfl) (ab ⟨rfl,ah rfl (db rfl rfl rfl ?_)⟩))⟩))⟩))⟩))⟩))⟩))⟩))⟩))⟩))⟩))⟩))⟩))))
         rw [hd]
         refine ab ⟨rfl,ah rfl (ai rfl rfl (ab ⟨rfl,ah rfl (bB rfl rfl (ab ⟨rfl,ah rfl (bB rfl rfl (ab ⟨rfl,ah rfl (bB rfl rfl (ab ⟨rfl,ah rfl (bB rfl rfl (ab ⟨rfl,ah rfl (bB rfl rfl (ab ⟨rfl,ah rfl (bB rfl rfl (ab ⟨rfl,ah rfl (bB rfl rfl (ab ⟨rfl,ah rfl (bB rfl rfl (ab ⟨rfl,ah rfl (bB rfl rfl (ab ⟨rfl,ah rfl (bB rfl rfl (ab ⟨rfl,ah rfl (bB rfl rfl (ab ⟨rfl,ah rfl (bB rfl rfl (ab ⟨rfl,ah rfl (bB rfl rfl ?_)⟩))⟩))⟩))⟩))⟩))⟩))⟩))⟩))⟩))⟩))⟩))⟩))⟩))⟩
         try rw [he]
         refine ab ⟨rfl,ah rfl (iL rfl rfl rfl rfl (ab ⟨rfl,ah rfl (ai rfl rfl (ab ⟨rfl,ah rfl (bB rfl rfl (ab ⟨rfl,ah rfl (bB rfl rfl (ab ⟨rfl,ah rfl (bB rfl rfl (ab ⟨rfl,ah rfl (bB rfl rfl (ab ⟨rfl,ah rfl (bB rfl rfl (ab ⟨rfl,ah rfl (bB rfl rfl (ab ⟨rfl,ah rfl (bB rfl rfl (ab ⟨rfl,ah rfl (bB rfl rfl (ab ⟨rfl,ah rfl (bB rfl rfl (ab ⟨rfl,ah rfl (bB rfl rfl (ab ⟨rfl,ah rfl (bB rfl rfl (ab ⟨rfl,ah rfl (bB rfl rfl (ab ⟨rfl,(bE [41,42,43] [_,_,_] rfl rfl (bB rfl rfl (bB rfl rfl (iL rfl rfl rfl rfl (ab ⟨rfl,(ag (bU rfl (ae (aw [] (.nil _) (aa (o_assignN rfl rfl ?_))))))⟩)))))⟩))⟩))⟩))⟩))⟩))⟩))⟩))⟩))⟩))⟩))⟩))⟩))⟩))⟩))⟩; refine aq (ap (am (am (ap (am (aW rfl rfl ?_)))))); exact fun w1 hw1 => ⟨congrArg (fun b => Ending.returned (.bool b)) (by exact (decide_eq_false (nJ (qi (.inl hs)))).symm),hw1.chg⟩
       · skip
         have hd : decide ((a.from_.getD i SrcX.zero).t ≠ (b.from_.getD i SrcX.zero).t) = false := decide_eq_false (fun h => h ht)
         have he : decide ((a.from_.getD i SrcX.zero).s ≠ (b.from_.getD i SrcX.zero).s) = true := decide_eq_true hs
         refine tri_slo [(2,_),(3,_),(6,_)] rfl (bo (_) [(0,true),(1,true),(2,true),(3,true),(4,true),(5,true),(6,true),(7,true),(8,true),(9,true),(10,true),(11,true),(12,true),(13,true),(14,true),(15,true),(16,true),(17,true),(18,true),(19,true),(20,true),(21,true),(22,true),(23,true),(24,true),(25,true),(26,true),(27,true),(28,true),(29,true),(30,true),(31,true),(32,true),(33,true),(34,true),(35,true),(36,true),(37,true),(38,true),(39,true),(40,true),(41,false),(42,false),(43,false)] [41,42,43] (by kernel_rfl) (by kernel_rfl) (fun _ h => h) (ah rfl (aj cB rfl rfl (ab ⟨rfl,ah rfl (ak dD N1 rfl rfl rfl (ab ⟨rfl,ah rfl (ai rfl rfl (ab ⟨rfl,ah rfl (aT Tryz.underlying32 eN rfl rfl rfl (hFa.rd0 _ _ rfl rfl) (by (try simp only [List.length_append,List.length_cons,List.length_nil]); omega) (by (try simp only [List.length_append,List.length_cons,List.length_nil]); omega) hFa.len (by decide) (ab ⟨rfl,ah rfl (aO iE rfl rfl (hFa.rd0 _ _ rfl rfl) (aL hca (j := 0) rfl) (ab ⟨rfl,ah rfl (aH bn rfl rfl (hFa.rd0 _ _ rfl rfl) (aL hca (j := 0) rfl) (ab ⟨rfl,ah rfl (aj cB rfl rfl (ab ⟨rfl,ah rfl (ak dD N0 rfl rfl rfl (ab ⟨rfl,ah rfl (ai rfl rfl (ab ⟨rfl,ah rfl (aT Tryz.underlying32 eN rfl rfl rfl (hFb.rd0 _ _ rfl rfl) (by (try simp only [List.length_append,List.length_cons,List.length_nil]); omega) (by (try simp only [List.length_append,List.length_cons,List.length_nil]); omega) hFb.len (by decide) (ab ⟨rfl,ah rfl (aO iE rfl rfl (hFb.rd0 _ _ rfl rfl) (aL hcb (j := 0) rfl) (ab ⟨rfl,ah rfl (aH bn rfl rfl (hFb.rd0 _ _ rfl rfl) (aL hcb (j := 0) rfl) (ab ⟨rfl,ah rfl (db rfl rfl rfl ?_)⟩))⟩))⟩))⟩))⟩))⟩))⟩))⟩))⟩))⟩))⟩))⟩))))
         rw [hd]
         refine ab ⟨rfl,ah rfl (ai rfl rfl (ab ⟨rfl,ah rfl (aj cB rfl rfl (ab ⟨rfl,ah rfl (ak dD N1 rfl rfl rfl (ab ⟨rfl,ah rfl (ai rfl rfl (ab ⟨rfl,ah rfl (aT Tryz.underlying32 eN rfl rfl rfl (hFa.rd0 _ _ rfl rfl) (by (try simp only [List.length_append,List.length_cons,List.length_nil]); omega) (by (try simp only [List.length_append,List.length_cons,List.length_nil]); omega) hFa.len (by decide) (ab ⟨rfl,ah rfl (aO iA rfl rfl (hFa.rd0 _ _ rfl rfl) (aL hca (j := 0) rfl) (ab ⟨rfl,ah rfl (aH bn rfl rfl (hFa.rd0 _ _ rfl rfl) (aL hca (j := 1) rfl) (ab ⟨rfl,ah rfl (aj cB rfl rfl (ab ⟨rfl,ah rfl (ak dD N0 rfl rfl rfl (ab ⟨rfl,ah rfl (ai rfl rfl (ab ⟨rfl,ah rfl (aT Tryz.underlying32 eN rfl rfl rfl (hFb.rd0 _ _ rfl rfl) (by (try simp only [List.length_append,List.length_cons,List.length_nil]); omega) (by (try simp only [List.length_append,List.length_cons,List.length_nil]); omega) hFb.len (by decide) (ab ⟨rfl,ah rfl (aO iA rfl rfl (hFb.rd0 _ _ rfl rfl) (aL hcb (j := 0) rfl) (ab ⟨rfl,ah rfl (aH bn rfl rfl (hFb.rd0 _ _ rfl rfl) (aL hcb (j := 1) rfl) (ab ⟨rfl,ah rfl (db rfl rfl rfl ?_)⟩))⟩))⟩))⟩))⟩))⟩))⟩))⟩))⟩))⟩))⟩))⟩))⟩))⟩
         try rw [he]
         refine ab ⟨rfl,ah rfl (fV rfl rfl rfl rfl (ab ⟨rfl,ah rfl (ai rfl rfl (ab ⟨rfl,ah rfl (bB rfl rfl (ab ⟨rfl,ah rfl (bB rfl rfl (ab ⟨rfl,ah rfl (bB rfl rfl (ab ⟨rfl,ah rfl (bB rfl rfl (ab ⟨rfl,ah rfl (bB rfl rfl (ab ⟨rfl,ah rfl (bB rfl rfl (ab ⟨rfl,ah rfl (bB rfl rfl (ab ⟨rfl,ah rfl (bB rfl rfl (ab ⟨rfl,ah rfl (bB rfl rfl (ab ⟨rfl,ah rfl (bB rfl rfl (ab ⟨rfl,ah rfl (bB rfl rfl (ab ⟨rfl,ah rfl (bB rfl rfl (ab ⟨rfl,(bE [41,42,43] [_,_,_] rfl rfl (bB rfl rfl (bB rfl rfl (iL rfl rfl rfl rfl (ab ⟨rfl,(ag (bU rfl (ae (aw [] (.nil _) (aa (o_assignN rfl rfl ?_))))))⟩)))))⟩))⟩))⟩))⟩))⟩))⟩))⟩))⟩))⟩))⟩))⟩))⟩))⟩))⟩))⟩; refine aq (ap (am (am (ap (am (aW rfl rfl ?_)))))); exact fun w1 hw1 => ⟨congrArg (fun b => Ending.returned (.bool b)) (by exact (decide_eq_false (nJ (qi (.inr (.inl hs))))).symm),hw1.chg⟩
       · skip
         have hd : decide ((a.from_.getD i SrcX.zero).t ≠ (b.from_.getD i SrcX.zero).t) = false := decide_eq_false (fun h => h ht)
         have he : decide ((a.from_.getD i SrcX.zero).s ≠ (b.from_.getD i SrcX.zero).s) = false := decide_eq_false (fun h => h hs)
         refine tri_slo [(2,_),(3,_),(6,_)] rfl (bo (_) [(0,true),(1,true),(2,true),(3,true),(4,true),(5,true),(6,true),(7,true),(8,true),(9,true),(10,true),(11,true),(12,true),(13,true),(14,true),(15,true),(16,true),(17,true),(18,true),(19,true),(20,true),(21,true),(22,true),(23,true),(24,true),(25,true),(26,true),(27,true),(28,true),(29,true),(30,true),(31,true),(32,true),(33,true),(34,true),(35,true),(36,true),(37,true),(38,true),(39,true),(40,true),(41,false),(42,false),(43,false)] [41,42,43] (by kernel_rfl) (by kernel_rfl) (fun _ h => h) (ah rfl (aj cB rfl rfl (ab ⟨rfl,ah rfl (ak dD N1 rfl rfl rfl (ab ⟨rfl,ah rfl (ai rfl rfl (ab ⟨rfl,ah rfl (aT Tryz.underlying32 eN rfl rfl rfl (hFa.rd0 _ _ rfl rfl) (by (try simp only [List.length_append,List.length_cons,List.length_nil]); omega) (by (try simp only [List.length_append,List.length_cons,List.length_nil]); omega) hFa.len (by decide) (ab ⟨rfl,ah rfl (aO iE rfl rfl (hFa.rd0 _ _ rfl rfl) (aL hca (j := 0) rfl) (ab ⟨rfl,ah rfl (aH bn rfl rfl (hFa.rd0 _ _ rfl rfl) (aL hca (j := 0) rfl) (ab ⟨rfl,ah rfl (aj cB rfl rfl (ab ⟨rfl,ah rfl (ak dD N0 rfl rfl rfl (ab ⟨rfl,ah rfl (ai rfl rfl (ab ⟨rfl,ah rfl (aT Tryz.underlying32 eN rfl rfl rfl (hFb.rd0 _ _ rfl rfl) (by (try simp only [List.length_append,List.length_cons,List.length_nil]); omega) (by (try simp only [List.length_append,List.length_cons,List.length_nil]); omega) hFb.len (by decide) (ab ⟨rfl,ah rfl (aO iE rfl rfl (hFb.rd0 _ _ rfl rfl) (aL hcb (j := 0) rfl) (ab ⟨rfl,ah rfl (aH bn rfl rfl (hFb.rd0 _ _ rfl rfl) (aL hcb (j := 0) rfl) (ab ⟨rfl,ah rfl (db rfl rfl rfl ?_)⟩))⟩))⟩))⟩))⟩))⟩))⟩))⟩))⟩))⟩))⟩))⟩))))
         rw [hd]
         refine ab ⟨rfl,ah rfl (ai rfl rfl (ab ⟨rfl,ah rfl (aj cB rfl rfl (ab ⟨rfl,ah rfl (ak dD N1 rfl rfl rfl (ab ⟨rfl,ah rfl (ai rfl rfl (ab ⟨rfl,ah rfl (aT Tryz.underlying32 eN rfl rfl rfl (hFa.rd0 _ _ rfl rfl) (by (try simp only [List.length_append,List.length_cons,List.length_nil]); omega) (by (try simp only [List.length_append,List.length_cons,List.length_nil]); omega) hFa.len (by decide) (ab ⟨rfl,ah rfl (aO iA rfl rfl (hFa.rd0 _ _ rfl rfl) (aL hca (j := 0) rfl) (ab ⟨rfl,ah rfl (aH bn rfl rfl (hFa.rd0 _ _ rfl rfl) (aL hca (j := 1) rfl) (ab ⟨rfl,ah rfl (aj cB rfl rfl (ab ⟨rfl,ah rfl (ak dD N0 rfl rfl rfl (ab ⟨rfl,ah rfl (ai rfl rfl (ab ⟨rfl,ah rfl (aT Tryz.underlying32 eN rfl rfl rfl (hFb.rd0 _ _ rfl rfl) (by (try simp only [List.length_append,List.length_cons,List.length_nil]); omega) (by (try simp only [List.length_append,List.length_cons,List.length_nil]); omega) hFb.len (by decide) (ab ⟨rfl,ah rfl (aO iA rfl rfl (hFb.rd0 _ _ rfl rfl) (aL hcb (j := 0) rfl) (ab ⟨rfl,ah rfl (aH bn rfl rfl (hFb.rd0 _ _ rfl rfl) (aL hcb (j := 1) rfl) (ab ⟨rfl,ah rfl (db rfl rfl rfl ?_)⟩))⟩))⟩))⟩))⟩))⟩))⟩))⟩))⟩))⟩))⟩))⟩))⟩))⟩
         try rw [he]
         refine ab ⟨rfl,ah rfl (fV rfl rfl rfl rfl (ab ⟨rfl,ah rfl (ai rfl rfl (ab ⟨rfl,ah rfl (aj cB rfl rfl (ab ⟨rfl,ah rfl (ak dD N1 rfl rfl rfl (ab ⟨rfl,ah rfl (ai rfl rfl (ab ⟨rfl,ah rfl (aT Tryz.underlying32 eN rfl rfl rfl (hFa.rd0 _ _ rfl rfl) (by (try simp only [List.length_append,List.length_cons,List.length_nil]); omega) (by (try simp only [List.length_append,List.length_cons,List.length_nil]); omega) hFa.len (by decide) (ab ⟨rfl,ah rfl (aO kr rfl rfl (hFa.rd0 _ _ rfl rfl) (aL hca (j := 0) rfl) (ab ⟨rfl,ah rfl (bv aY aX rfl rfl (hFa.rd0 _ _ rfl rfl) (vs := bH ((a.from_.getD i SrcX.zero).e) ya) (ey (p := [.string (B (a.from_.getD i SrcX.zero).t),.string (B (a.from_.getD i SrcX.zero).s)]) (cs := bH ((a.from_.getD i SrcX.zero).e) ya) (r := []) hca) rfl (by decide) (ab ⟨rfl,ah rfl (aj cB rfl rfl (ab ⟨rfl,ah rfl (ak dD N0 rfl rfl rfl (ab ⟨rfl,ah rfl (ai rfl rfl (ab ⟨rfl,ah rfl (aT Tryz.underlying32 eN rfl rfl rfl (hFb.rd0 _ _ rfl rfl) (by (try simp only [List.length_append,List.length_cons,List.length_nil]); omega) (by (try simp only [List.length_append,List.length_cons,List.length_nil]); omega) hFb.len (by decide) (ab ⟨rfl,ah rfl (aO kr rfl rfl (hFb.rd0 _ _ rfl rfl) (aL hcb (j := 0) rfl) (ab ⟨rfl,ah rfl (bv aY aX rfl rfl (hFb.rd0 _ _ rfl rfl) (vs := bH ((b.from_.getD i SrcX.zero).e) yb) (ey (p := [.string (B (b.from_.getD i SrcX.zero).t),.string (B (b.from_.getD i SrcX.zero).s)]) (cs := bH ((b.from_.getD i SrcX.zero).e) yb) (r := []) hcb) rfl (by decide) (ab ⟨rfl,(bE [41,42,43] [_,_,_] rfl rfl (aA (first := []) (cap := []) rfl rfl rfl Tryz.call17 (fun w1 h1 => me _ _ _ _ w1 (ExC.chg h1.chg _ _ (ExK.c _ _ hya)) (ExC.chg h1.chg _ _ (ExK.c _ _ hyb)) (hbd.from_ i hil).1) (cZ rfl rfl (fV rfl rfl rfl rfl (ab ⟨rfl,(ag (aF rfl (fun q7 => ?_) (fun q7 => ?_)))⟩)))))⟩))⟩))⟩))⟩))⟩))⟩))⟩))⟩))⟩))⟩))⟩))⟩))⟩))⟩))⟩
         · skip
           refine ae (aw [] (.nil _) (aa (o_assignN rfl rfl (aq (ap (am (am (ap (am (aW rfl rfl ?_)))))))))); exact fun w1 hw1 => ⟨congrArg (fun b => Ending.returned (.bool b)) (by exact (decide_eq_false (nJ (qi (.inr (.inr (of_decide_eq_false (cn q7))))))).symm),hw1.chg⟩
         · skip
           exact an (ao (ag (tri_slo [(2,_),(3,_),(6,_)] rfl (aa (ai rfl rfl (bD rfl rfl rfl (by (try simp only [List.length_append,List.length_cons,List.length_nil]); omega) (o_assignN rfl rfl (⟨i + 1,(.cons rfl (.cons rfl (.cons rfl (.nil _)))),fun _ h => h,⟨by omega,upd hi.2 (src_eq ht hs (of_decide_eq_true (bS q7)))⟩,by omega⟩))))))))
     · skip
       have hxf : ∀ j,j < a.from_.length → _ = _ := fun j hj => hi.2 j (by omega)
       refine bg (au (au (aK (ag (ae (ae (tri_slo [(2,_),(3,_)] rfl (aa (o_assignN rfl rfl (av (bC (ι := Nat) (F := fun i => [(2,.pointer (some ⟨b2,0,none⟩)),(3,.pointer (some ⟨b3,0,none⟩)),(7,.int .i64 (i : Int))]) (HH := fun i => [box b3 35 (dL b z),box b2 35 (dL a y)]) (Pu := fun i => i ≤ a.ord.length ∧ ∀ j,j < i → a.ord.getD j OrdX.zero = b.ord.getD j OrdX.zero) (μ := fun i => a.ord.length - i) (0) (.cons rfl (.cons rfl (.cons rfl (.nil _)))) (fun _ h => h) (⟨Nat.zero_le _,fun j hj => absurd hj (by omega)⟩) (fun i hi => ae (ae (aa (ai rfl rfl (aj eb rfl rfl (ak f8 N1 rfl rfl rfl (aU Tryz.underlying33 rfl rfl (cv rfl rfl rfl (triL_nilN (ar rfl (fun q8 => ?_) (fun q8 => ?_))))))))))))))))))))))
       · skip
         have hil : i < a.ord.length := by omega
         refine an (ag (ae (av (ae (tri_slo [(2,_),(3,_),(7,_)] rfl ?_)))))
         have hca := nH hOa i hil
         have hcb := nH hOb i (by omega)
         refine bo (_) [(0,true),(1,true),(2,true),(3,true),(4,true),(5,true),(6,true),(7,true),(8,true),(9,true),(10,false)] [10] (by kernel_rfl) (by kernel_rfl) (fun _ h => h) (ah rfl (aj eb rfl rfl (ab ⟨rfl,ah rfl (ak f8 N1 rfl rfl rfl (ab ⟨rfl,ah rfl (ai rfl rfl (ab ⟨rfl,ah rfl (aT Tryz.underlying33 iC rfl rfl rfl (hOa.rd0 _ _ rfl rfl) (by (try simp only [List.length_append,List.length_cons,List.length_nil]); omega) (by (try simp only [List.length_append,List.length_cons,List.length_nil]); omega) hOa.len (by decide) (ab ⟨rfl,ah rfl (bv nU iC rfl rfl (hOa.rd0 _ _ rfl rfl) (vs := OrdX.cs (a.ord.getD i OrdX.zero)) hca rfl (by decide) (ab ⟨rfl,ah rfl (aj eb rfl rfl (ab ⟨rfl,ah rfl (ak f8 N0 rfl rfl rfl (ab ⟨rfl,ah rfl (ai rfl rfl (ab ⟨rfl,ah rfl (aT Tryz.underlying33 iC rfl rfl rfl (hOb.rd0 _ _ rfl rfl) (by (try simp only [List.length_append,List.length_cons,List.length_nil]); omega) (by (try simp only [List.length_append,List.length_cons,List.length_nil]); omega) hOb.len (by decide) (ab ⟨rfl,ah rfl (bv nU iC rfl rfl (hOb.rd0 _ _ rfl rfl) (vs := OrdX.cs (b.ord.getD i OrdX.zero)) hcb rfl (by decide) (ab ⟨rfl,(bE [10] [_] rfl rfl (o_neqOrd flat121 rfl rfl rfl (ab ⟨rfl,(ag (aF rfl (fun q9 => ?_) (fun q9 => ?_)))⟩)))⟩))⟩))⟩))⟩))⟩))⟩))⟩))⟩))⟩))⟩)))
         · skip
           refine ae (aw [] (.nil _) (aa (o_assignN rfl rfl (aq (ap (am (am (ap (am (aW rfl rfl ?_)))))))))); exact fun w1 hw1 => ⟨congrArg (fun b => Ending.returned (.bool b)) (by exact (decide_eq_false (ords_ne (of_decide_eq_false (cn q9)))).symm),hw1.chg⟩
         · skip
           exact an (ao (ag (tri_slo [(2,_),(3,_),(7,_)] rfl (aa (ai rfl rfl (bD rfl rfl rfl (by (try simp only [List.length_append,List.length_cons,List.length_nil]); omega) (o_assignN rfl rfl (⟨i + 1,(.cons rfl (.cons rfl (.cons rfl (.nil _)))),fun _ h => h,⟨by omega,upd hi.2 (of_decide_eq_true (bS q9))⟩,by omega⟩))))))))
       · skip
         have hxo : ∀ j,j < a.ord.length → _ = _ := fun j hj => hi.2 j (by omega)
         refine bg (au (au (aK (ag (ae (aw [] (.nil _) (aa (o_assignN rfl rfl (aq (aW rfl rfl ?_)))))))))); exact fun w1 hw1 => ⟨congrArg (fun b => Ending.returned (.bool b)) (by exact (decide_eq_true (sq_eq q0 hxi hxf hxo)).symm),hw1.chg⟩
end Go.Proofs.YtjbpkcbefmpfgaaGreatDoor
namespace Go.Proofs.YtjbpkcbefmpfgaaGreatDoor
open Go.WK Go.RowKit 
set_option maxRecDepth 100000 in
set_option maxHeartbeats 2000000 in
theorem rB (a b : StmtX) (y z : Lay) (bl bm : List Nat) (w : World) (hA : SAt bl w a y) (hB : SAt bm w b z) (hbl : ∀ k ∈ bl,k < w.heap.size) (hbm : ∀ k ∈ bm,k < w.heap.size) (hbd : SBd a) : Calls Tryz.prog 16 #[.agg (bL a y).toArray,.agg (bL b z).toArray] w (cj w (.bool (decide (a = b)))) := by
 refine ax (args := [.agg (bL a y).toArray,.agg (bL b z).toArray]) (lent := []) (H := []) Tryz.func16 rfl Tryz.ntmps16 rfl (Sat.start _ _ _ _) ((show Tri _ [(0,_),(1,_)] _ _ _ from ?_))
 obtain ⟨xCa,xNa,xRa,xSa,xIa,xFa,xOa,hCa,hNa,hRa,hSa,hWa,hQa⟩ := id hA
 obtain ⟨xCb,xNb,xRb,xSb,xIb,xFb,xOb,hCb,hNb,hRb,hSb,hWb,hQb⟩ := id hB
 have n1 : a.rows.length ≤ 70368744177664 := hbd.nr
 have n2 : a.sets.length ≤ 70368744177664 := hbd.ns
 refine ae (aa (cl _ rfl rfl rfl (fun b2 => cl _ rfl rfl rfl (fun b3 => o_assignN rfl rfl (ae (ae (aa (aj jm rfl rfl (ak bK N1 rfl rfl rfl (aj jm rfl rfl (ak bK N0 rfl rfl rfl (cw rfl rfl rfl (ai rfl rfl ?_)))))))))))))
 refine' bd [_,_,_,_,_] [(3,_),(2,_)] (dj := 12) (dr := 17) rfl rfl (fun g1 => ?_) ⟨_,rfl,rfl,rfl,(.cons rfl (.cons rfl (.nil _)))⟩ rfl ?_
 rotate_left
 · skip
   exact aj cq rfl rfl (ak bn N1 rfl rfl rfl (aj cq rfl rfl (ak bn N0 rfl rfl rfl (db rfl rfl rfl (ab (Piece.mk rfl rfl (.cons rfl (.cons rfl (.nil _))) (fun _ h => h)))))))
 refine ai rfl rfl ?_
 refine' bd [_,_,_,_,_] [(3,_),(2,_)] (dj := 19) (dr := 24) rfl rfl (fun g2 => ?_) ⟨_,rfl,rfl,rfl,(.cons rfl (.cons rfl (.nil _)))⟩ rfl ?_
 rotate_left
 · skip
   exact aj eP rfl rfl (ak bn N1 rfl rfl rfl (aj eP rfl rfl (ak bn N0 rfl rfl rfl (db rfl rfl rfl (ab (Piece.mk rfl rfl (.cons rfl (.cons rfl (.nil _))) (fun _ h => h)))))))
 refine ai rfl rfl ?_
 refine' bd [_,_,_,_,_] [(3,_),(2,_)] (dj := 26) (dr := 31) rfl rfl (fun g3 => ?_) ⟨_,rfl,rfl,rfl,(.cons rfl (.cons rfl (.nil _)))⟩ rfl ?_
 rotate_left
 · skip
   exact aj jo rfl rfl (ak fg N1 rfl rfl rfl (aj jo rfl rfl (ak fg N0 rfl rfl rfl (na rfl Tryz.underlying4 rfl rfl (ab (Piece.mk rfl rfl (.cons rfl (.cons rfl (.nil _))) (fun _ h => h)))))))
 refine ai rfl rfl ?_
 refine' bd [_,_,_,_,_,_] [(3,_),(2,_)] (dj := 33) (dr := 39) rfl rfl (fun g4 => ?_) ⟨_,rfl,rfl,rfl,(.cons rfl (.cons rfl (.nil _)))⟩ rfl ?_
 rotate_left
 · skip
   exact aj gl rfl rfl (ak jQ N1 rfl rfl rfl (aj gl rfl rfl (ak jQ N0 rfl rfl rfl (aA (first := []) (cap := []) rfl rfl rfl Tryz.call48 (fun w1 h1 => sI a.cols b.cols y.C z.C bl bm xCa xCb w1 (hCa.stab (fun k hk => h1.chg.block k (hbl k hk) (by simp))) (hCb.stab (fun k hk => h1.chg.block k (hbm k hk) (by simp))) hbd.nc) (cZ rfl rfl (ab (Piece.mk rfl rfl (.cons rfl (.cons rfl (.nil _))) (fun _ h => h))))))))
 refine ai rfl rfl ?_
 refine' bd [_,_,_,_,_,_] [(3,_),(2,_)] (dj := 41) (dr := 47) rfl rfl (fun g5 => ?_) ⟨_,rfl,rfl,rfl,(.cons rfl (.cons rfl (.nil _)))⟩ rfl ?_
 rotate_left
 · skip
   exact aj fQ rfl rfl (ak jb N1 rfl rfl rfl (aj fQ rfl rfl (ak jb N0 rfl rfl rfl (aA (first := []) (cap := []) rfl rfl rfl Tryz.call49 (fun w1 h1 => qF a.on b.on y.N z.N bl bm xNa xNb w1 (hNa.stab (fun k hk => h1.chg.block k (hbl k hk) (by simp))) (hNb.stab (fun k hk => h1.chg.block k (hbm k hk) (by simp))) hbd.nn) (cZ rfl rfl (ab (Piece.mk rfl rfl (.cons rfl (.cons rfl (.nil _))) (fun _ h => h))))))))
 refine ai rfl rfl ?_
 refine' bd [_,_,_,_,_,_] [(3,_),(2,_)] (dj := 49) (dr := 55) rfl rfl (fun g6 => ?_) ⟨_,rfl,rfl,rfl,(.cons rfl (.cons rfl (.nil _)))⟩ rfl ?_
 rotate_left
 · skip
   exact aj eF rfl rfl (aQ aY aX (.s .z) rfl rfl (vs := bH a.wh y.W) rfl rfl (aj eF rfl rfl (aQ aY aX .z rfl rfl (vs := bH b.wh z.W) rfl rfl (aA (first := []) (cap := []) rfl rfl rfl Tryz.call17 (fun w1 h1 => me _ _ _ _ w1 (ExC.chg h1.chg _ _ (ExK.c _ _ hWa)) (ExC.chg h1.chg _ _ (ExK.c _ _ hWb)) hbd.wh) (cZ rfl rfl (ab (Piece.mk rfl rfl (.cons rfl (.cons rfl (.nil _))) (fun _ h => h))))))))
 refine ai rfl rfl ?_
 refine' bd [_,_,_,_,_,_] [(3,_),(2,_)] (dj := 57) (dr := 63) rfl rfl (fun g7 => ?_) ⟨_,rfl,rfl,rfl,(.cons rfl (.cons rfl (.nil _)))⟩ rfl ?_
 rotate_left
 · skip
   exact aj fP rfl rfl (aQ mc kK (.s .z) rfl rfl (vs := dL a.q y.q) rfl rfl (aj fP rfl rfl (aQ mc kK .z rfl rfl (vs := dL b.q z.q) rfl rfl (aA (first := []) (cap := []) rfl rfl rfl Tryz.call50 (fun w1 h1 => sameQK a.q b.q y.q z.q bl bm w1 (hA.q.stab (fun k hk => h1.chg.block k (hbl k hk) (by simp))) (hB.q.stab (fun k hk => h1.chg.block k (hbm k hk) (by simp))) hbd.q) (cZ rfl rfl (ab (Piece.mk rfl rfl (.cons rfl (.cons rfl (.nil _))) (fun _ h => h))))))))
 refine ai rfl rfl ?_
 refine' bd [_,_,_,_,_,_,_] [(3,_),(2,_)] (dj := 65) (dr := 72) rfl rfl (fun g8 => ?_) ⟨_,rfl,rfl,rfl,(.cons rfl (.cons rfl (.nil _)))⟩ rfl ?_
 rotate_left
 · skip
   exact aj eE rfl rfl (ak gF N1 rfl rfl rfl (aU Tryz.underlying24 rfl rfl (aj eE rfl rfl (ak gF N0 rfl rfl rfl (aU Tryz.underlying24 rfl rfl (cw rfl rfl rfl (ab (Piece.mk rfl rfl (.cons rfl (.cons rfl (.nil _))) (fun _ h => h)))))))))
 refine ai rfl rfl ?_
 refine' bd [_,_,_,_,_,_,_] [(3,_),(2,_)] (dj := 74) (dr := 81) rfl rfl (fun g9 => ?_) ⟨_,rfl,rfl,rfl,(.cons rfl (.cons rfl (.nil _)))⟩ rfl ?_
 rotate_left
 · skip
   exact aj dp rfl rfl (ak e7 N1 rfl rfl rfl (aU Tryz.underlying25 rfl rfl (aj dp rfl rfl (ak e7 N0 rfl rfl rfl (aU Tryz.underlying25 rfl rfl (cw rfl rfl rfl (ab (Piece.mk rfl rfl (.cons rfl (.cons rfl (.nil _))) (fun _ h => h)))))))))
 refine triL_nilN (aF rfl (fun q0 => ?_) (fun q0 => ?_))
 · skip
   have q0 : ssB a b = true := q0
   refine ae (aa (o_assignN rfl rfl (aq (am (aW rfl rfl ?_))))); exact fun w1 hw1 => ⟨congrArg (fun b => Ending.returned (.bool b)) (by exact (decide_eq_false (ss_ne q0)).symm),hw1.chg⟩
 · skip
   have q0 : ssB a b = false := q0
   obtain ⟨_,hlr,hls⟩ := ss_no q0
   refine an (ag (ae (ae (aa (o_assignN rfl rfl (av (bC (ι := Nat) (F := fun i => [(2,.pointer (some ⟨b2,0,none⟩)),(3,.pointer (some ⟨b3,0,none⟩)),(5,.int .i64 (i : Int))]) (HH := fun i => [box b3 37 (bL b z),box b2 37 (bL a y)]) (Pu := fun i => i ≤ a.rows.length ∧ ∀ j,j < i → a.rows.getD j [] = b.rows.getD j []) (μ := fun i => a.rows.length - i) (0) (.cons rfl (.cons rfl (.cons rfl (.nil _)))) (fun _ h => h) (⟨Nat.zero_le _,fun j hj => absurd hj (by omega)⟩) (fun i hi => ae (ae (aa (ai rfl rfl (aj eE rfl rfl (ak gF N1 rfl rfl rfl (aU Tryz.underlying24 rfl rfl (cv rfl rfl rfl (triL_nilN (ar rfl (fun q1 => ?_) (fun q1 => ?_))))))))))))))))))
   · skip
     have hil : i < a.rows.length := by omega
     refine an (ag (ae (av (ae (tri_slo [(2,_),(3,_),(5,_)] rfl ?_)))))
     obtain ⟨yra,xra,hca,hRa2⟩ := jI hRa i hil
     obtain ⟨yrb,xrb,hcb,hRb2⟩ := jI hRb i (by omega)
     refine bo (_) [(0,true),(1,true),(2,true),(3,true),(4,true),(5,true),(6,true),(7,true),(8,true),(9,true),(10,false),(11,false)] [10,11] (by kernel_rfl) (by kernel_rfl) (fun _ h => h) (ah rfl (aj eE rfl rfl (ab ⟨rfl,ah rfl (ak gF N1 rfl rfl rfl (ab ⟨rfl,ah rfl (ai rfl rfl (ab ⟨rfl,ah rfl (aT Tryz.underlying24 sz28 rfl rfl rfl (hRa.rd0 _ _ rfl rfl) (by (try simp only [List.length_append,List.length_cons,List.length_nil]); omega) (by (try simp only [List.length_append,List.length_cons,List.length_nil]); omega) hRa.len (by decide) (ab ⟨rfl,ah rfl (aH dW rfl rfl (hRa.rd0 _ _ rfl rfl) (aL hca (j := 0) rfl) (ab ⟨rfl,ah rfl (aj eE rfl rfl (ab ⟨rfl,ah rfl (ak gF N0 rfl rfl rfl (ab ⟨rfl,ah rfl (ai rfl rfl (ab ⟨rfl,ah rfl (aT Tryz.underlying24 sz28 rfl rfl rfl (hRb.rd0 _ _ rfl rfl) (by (try simp only [List.length_append,List.length_cons,List.length_nil]); omega) (by (try simp only [List.length_append,List.length_cons,List.length_nil]); omega) hRb.len (by decide) (ab ⟨rfl,ah rfl (aH dW rfl rfl (hRb.rd0 _ _ rfl rfl) (aL hcb (j := 0) rfl) (ab ⟨rfl,(bE [10,11] [_,_] rfl rfl (aA (first := []) (cap := []) rfl rfl rfl Tryz.call51 (fun w1 h1 => sameExsK _ _ yra yrb bl bm xra xrb w1 (hRa2.stab (fun k hk => h1.chg.block k (hbl k hk) (by simp))) (hRb2.stab (fun k hk => h1.chg.block k (hbm k hk) (by simp))) (hbd.rows i hil).1 (hbd.rows i hil).2) (cZ rfl rfl (ab ⟨rfl,(ag (aF rfl (fun q2 => ?_) (fun q2 => ?_)))⟩))))⟩))⟩))⟩))⟩))⟩))⟩))⟩))⟩))⟩))⟩)))
     · skip
       refine ae (aw [] (.nil _) (aa (o_assignN rfl rfl (aq (ap (am (am (ap (am (aW rfl rfl ?_)))))))))); exact fun w1 hw1 => ⟨congrArg (fun b => Ending.returned (.bool b)) (by exact (decide_eq_false (rows_ne (of_decide_eq_false (cn q2)))).symm),hw1.chg⟩
     · skip
       exact an (ao (ag (tri_slo [(2,_),(3,_),(5,_)] rfl (aa (ai rfl rfl (bD rfl rfl rfl (by (try simp only [List.length_append,List.length_cons,List.length_nil]); omega) (o_assignN rfl rfl (⟨i + 1,(.cons rfl (.cons rfl (.cons rfl (.nil _)))),fun _ h => h,⟨by omega,upd hi.2 (of_decide_eq_true (bS q2))⟩,by omega⟩))))))))
   · skip
     have hxr : ∀ j,j < a.rows.length → _ = _ := fun j hj => hi.2 j (by omega)
     refine bg (au (au (aK (ag (ae (ae (tri_slo [(2,_),(3,_)] rfl (aa (o_assignN rfl rfl (av (bC (ι := Nat) (F := fun i => [(2,.pointer (some ⟨b2,0,none⟩)),(3,.pointer (some ⟨b3,0,none⟩)),(6,.int .i64 (i : Int))]) (HH := fun i => [box b3 37 (bL b z),box b2 37 (bL a y)]) (Pu := fun i => i ≤ a.sets.length ∧ ∀ j,j < i → a.sets.getD j SetX.zero = b.sets.getD j SetX.zero) (μ := fun i => a.sets.length - i) (0) (.cons rfl (.cons rfl (.cons rfl (.nil _)))) (fun _ h => h) (⟨Nat.zero_le _,fun j hj => absurd hj (by omega)⟩) (fun i hi => ae (ae (aa (ai rfl rfl (aj dp rfl rfl (ak e7 N1 rfl rfl rfl (aU Tryz.underlying25 rfl rfl (cv rfl rfl rfl (triL_nilN (ar rfl (fun q3 => ?_) (fun q3 => ?_))))))))))))))))))))))
     · skip
       have hil : i < a.sets.length := by omega
       refine an (ag (ae (av (ae ?_))))
       obtain ⟨ya,hca,hya⟩ := nF hSa i hil
       obtain ⟨yb,hcb,hyb⟩ := nF hSb i (by omega)
       by_cases hs : (a.sets.getD i SetX.zero).n = (b.sets.getD i SetX.zero).n
       · skip
         have hd : decide ((a.sets.getD i SetX.zero).n ≠ (b.sets.getD i SetX.zero).n) = false := decide_eq_false (fun h => h hs)
         refine tri_slo [(2,_),(3,_),(6,_)] rfl (bo (_) [(0,true),(1,true),(2,true),(3,true),(4,true),(5,true),(6,true),(7,true),(8,true),(9,true),(10,true),(11,true),(12,true),(13,true),(14,true),(15,true),(16,true),(17,true),(18,true),(19,true),(20,true),(21,true),(22,true),(23,true),(24,true),(25,true),(26,false),(27,false),(28,false)] [26,27,28] (by kernel_rfl) (by kernel_rfl) (fun _ h => h) (ah rfl (aj dp rfl rfl (ab ⟨rfl,ah rfl (ak e7 N1 rfl rfl rfl (ab ⟨rfl,ah rfl (ai rfl rfl (ab ⟨rfl,ah rfl (aT Tryz.underlying25 mb rfl rfl rfl (hSa.rd0 _ _ rfl rfl) (by (try simp only [List.length_append,List.length_cons,List.length_nil]); omega) (by (try simp only [List.length_append,List.length_cons,List.length_nil]); omega) hSa.len (by decide) (ab ⟨rfl,ah rfl (aO kv rfl rfl (hSa.rd0 _ _ rfl rfl) (aL hca (j := 0) rfl) (ab ⟨rfl,ah rfl (aH bn rfl rfl (hSa.rd0 _ _ rfl rfl) (aL hca (j := 0) rfl) (ab ⟨rfl,ah rfl (aj dp rfl rfl (ab ⟨rfl,ah rfl (ak e7 N0 rfl rfl rfl (ab ⟨rfl,ah rfl (ai rfl rfl (ab ⟨rfl,ah rfl (aT Tryz.underlying25 mb rfl rfl rfl (hSb.rd0 _ _ rfl rfl) (by (try simp only [List.length_append,List.length_cons,List.length_nil]); omega) (by (try simp only [List.length_append,List.length_cons,List.length_nil]); omega) hSb.len (by decide) (ab ⟨rfl,ah rfl (aO kv rfl rfl (hSb.rd0 _ _ rfl rfl) (aL hcb (j := 0) rfl) (ab ⟨rfl,ah rfl (aH bn rfl rfl (hSb.rd0 _ _ rfl rfl) (aL hcb (j := 0) rfl) (ab ⟨rfl,ah rfl (db rfl rfl rfl ?_)⟩))⟩))⟩))⟩))⟩))⟩))⟩))⟩))⟩))⟩))⟩))⟩))))
         rw [hd]
         refine ab ⟨rfl,ah rfl (ai rfl rfl (ab ⟨rfl,ah rfl (aj dp rfl rfl (ab ⟨rfl,ah rfl (ak e7 N1 rfl rfl rfl (ab ⟨rfl,ah rfl (ai rfl rfl (ab ⟨rfl,ah rfl (aT Tryz.underlying25 mb rfl rfl rfl (hSa.rd0 _ _ rfl rfl) (by (try simp only [List.length_append,List.length_cons,List.length_nil]); omega) (by (try simp only [List.length_append,List.length_cons,List.length_nil]); omega) hSa.len (by decide) (ab ⟨rfl,ah rfl (aO n7 rfl rfl (hSa.rd0 _ _ rfl rfl) (aL hca (j := 0) rfl) (ab ⟨rfl,ah rfl (bv aY aX rfl rfl (hSa.rd0 _ _ rfl rfl) (vs := bH ((a.sets.getD i SetX.zero).e) ya) (ey (p := [.string (B (a.sets.getD i SetX.zero).n)]) (cs := bH ((a.sets.getD i SetX.zero).e) ya) (r := []) hca) rfl (by decide) (ab ⟨rfl,ah rfl (aj dp rfl rfl (ab ⟨rfl,ah rfl (ak e7 N0 rfl rfl rfl (ab ⟨rfl,ah rfl (ai rfl rfl (ab ⟨rfl,ah rfl (aT Tryz.underlying25 mb rfl rfl rfl (hSb.rd0 _ _ rfl rfl) (by (try simp only [List.length_append,List.length_cons,List.length_nil]); omega) (by (try simp only [List.length_append,List.length_cons,List.length_nil]); omega) hSb.len (by decide) (ab ⟨rfl,ah rfl (aO n7 rfl rfl (hSb.rd0 _ _ rfl rfl) (aL hcb (j := 0) rfl) (ab ⟨rfl,ah rfl (bv aY aX rfl rfl (hSb.rd0 _ _ rfl rfl) (vs := bH ((b.sets.getD i SetX.zero).e) yb) (ey (p := [.string (B (b.sets.getD i SetX.zero).n)]) (cs := bH ((b.sets.getD i SetX.zero).e) yb) (r := []) hcb) rfl (by decide) (ab ⟨rfl,(bE [26,27,28] [_,_,_] rfl rfl (aA (first := []) (cap := []) rfl rfl rfl Tryz.call17 (fun w1 h1 => me _ _ _ _ w1 (ExC.chg h1.chg _ _ (ExK.c _ _ hya)) (ExC.chg h1.chg _ _ (ExK.c _ _ hyb)) (hbd.sets i hil).1) (cZ rfl rfl (fV rfl rfl rfl rfl (ab ⟨rfl,(ag (aF rfl (fun q4 => ?_) (fun q4 => ?_)))⟩)))))⟩))⟩))⟩))⟩))⟩))⟩))⟩))⟩))⟩))⟩))⟩))⟩))⟩))⟩
         · skip
           refine ae (aw [] (.nil _) (aa (o_assignN rfl rfl (aq (ap (am (am (ap (am (aW rfl rfl ?_)))))))))); exact fun w1 hw1 => ⟨congrArg (fun b => Ending.returned (.bool b)) (by exact (decide_eq_false (rl (set_ne (.inr (of_decide_eq_false (cn q4)))))).symm),hw1.chg⟩
         · skip
           exact an (ao (ag (tri_slo [(2,_),(3,_),(6,_)] rfl (aa (ai rfl rfl (bD rfl rfl rfl (by (try simp only [List.length_append,List.length_cons,List.length_nil]); omega) (o_assignN rfl rfl (⟨i + 1,(.cons rfl (.cons rfl (.cons rfl (.nil _)))),fun _ h => h,⟨by omega,upd hi.2 (set_eq hs (of_decide_eq_true (bS q4)))⟩,by omega⟩))))))))
       · skip
         have hd : decide ((a.sets.getD i SetX.zero).n ≠ (b.sets.getD i SetX.zero).n) = true := decide_eq_true hs
         refine tri_slo [(2,_),(3,_),(6,_)] rfl (bo (_) [(0,true),(1,true),(2,true),(3,true),(4,true),(5,true),(6,true),(7,true),(8,true),(9,true),(10,true),(11,true),(12,true),(13,true),(14,true),(15,true),(16,true),(17,true),(18,true),(19,true),(20,true),(21,true),(22,true),(23,true),(24,true),(25,true),(26,false),(27,false),(28,false)] [26,27,28] (by kernel_rfl) (by kernel_rfl) (fun _ h => h) (ah rfl (aj dp rfl rfl (ab ⟨rfl,ah rfl (ak e7 N1 rfl rfl rfl (ab ⟨rfl,ah rfl (ai rfl rfl (ab ⟨rfl,ah rfl (aT Tryz.underlying25 mb rfl rfl rfl (hSa.rd0 _ _ rfl rfl) (by (try simp only [List.length_append,List.length_cons,List.length_nil]); omega) (by (try simp only [List.length_append,List.length_cons,List.length_nil]); omega) hSa.len (by decide) (ab ⟨rfl,ah rfl (aO kv rfl rfl (hSa.rd0 _ _ rfl rfl) (aL hca (j := 0) rfl) (ab ⟨rfl,ah rfl (aH bn rfl rfl (hSa.rd0 _ _ rfl rfl) (aL hca (j := 0) rfl) (ab ⟨rfl,ah rfl (aj dp rfl rfl (ab ⟨rfl,ah rfl (ak e7 N0 rfl rfl rfl (ab ⟨rfl,ah rfl (ai rfl rfl (ab ⟨rfl,ah rfl (aT Tryz.underlying25 mb rfl rfl rfl (hSb.rd0 _ _ rfl rfl) (by (try simp only [List.length_append,List.length_cons,List.length_nil]); omega) (by (try simp only [List.length_append,List.length_cons,List.length_nil]); omega) hSb.len (by decide) (ab ⟨rfl,ah rfl (aO kv rfl rfl (hSb.rd0 _ _ rfl rfl) (aL hcb (j := 0) rfl) (ab ⟨rfl,ah rfl (aH bn rfl rfl (hSb.rd0 _ _ rfl rfl) (aL hcb (j := 0) rfl) (ab ⟨rfl,ah rfl (db rfl rfl rfl ?_)⟩))⟩))⟩))⟩))⟩))⟩))⟩))⟩))⟩))⟩))⟩))⟩))))
         rw [hd]
         refine ab ⟨rfl,ah rfl (ai rfl rfl (ab ⟨rfl,ah rfl (bB rfl rfl (ab ⟨rfl,ah rfl (bB rfl rfl (ab ⟨rfl,ah rfl (bB rfl rfl (ab ⟨rfl,ah rfl (bB rfl rfl (ab ⟨rfl,ah rfl (bB rfl rfl (ab ⟨rfl,ah rfl (bB rfl rfl (ab ⟨rfl,ah rfl (bB rfl rfl (ab ⟨rfl,ah rfl (bB rfl rfl (ab ⟨rfl,ah rfl (bB rfl rfl (ab ⟨rfl,ah rfl (bB rfl rfl (ab ⟨rfl,ah rfl (bB rfl rfl (ab ⟨rfl,ah rfl (bB rfl rfl (ab ⟨rfl,(bE [26,27,28] [_,_,_] rfl rfl (bB rfl rfl (bB rfl rfl (iL rfl rfl rfl rfl (ab ⟨rfl,(ag (bU rfl (ae (aw [] (.nil _) (aa (o_assignN rfl rfl (aq (ap ?_))))))))⟩)))))⟩))⟩))⟩))⟩))⟩))⟩))⟩))⟩))⟩))⟩))⟩))⟩))⟩))⟩; refine am (am (ap (am (aW rfl rfl ?_)))); exact fun w1 hw1 => ⟨congrArg (fun b => Ending.returned (.bool b)) (by exact (decide_eq_false (rl (set_ne (.inl hs)))).symm),hw1.chg⟩
     · skip
       have hxs : ∀ j,j < a.sets.length → _ = _ := fun j hj => hi.2 j (by omega)
       refine bg (au (au (aK (ag (ae (aw [] (.nil _) (aa (o_assignN rfl rfl (aq (aW rfl rfl ?_)))))))))); exact fun w1 hw1 => ⟨congrArg (fun b => Ending.returned (.bool b)) (by exact (decide_eq_true (ss_eq q0 hxr hxs)).symm),hw1.chg⟩
end Go.Proofs.YtjbpkcbefmpfgaaGreatDoor
namespace Go.Proofs.YtjbpkcbefmpfgaaGreatDoor
open Go.WK Go.RowKit 
theorem flatF : fU Tryz.prog 55 = some fKs := by kernel_rfl
theorem pd (x0_0 : Int) (x0_1 : Int) (x0_2 : Int) (x0_3 : ByteArray) (x0_4 : ByteArray) (x0_5 : ByteArray) (x0_6 : Int) (A0_7 : Option Addr) (n0_7 c0_7 : Nat) (x1 : ByteArray) : Tryz.prog.built 53 [(0,.agg (([.int .i64 x0_0,.int .i64 x0_1,.int .i64 x0_2,.string x0_3,.string x0_4,.string x0_5,.int .i64 x0_6,.slice A0_7 n0_7 c0_7] : List Value)).toArray),(1,.string x1)] = some ([.int .i64 x0_0,.int .i64 x0_1,.int .i64 x0_2,.string x0_3,.string x0_4,.string x0_5,.int .i64 x0_6,.slice A0_7 n0_7 c0_7,.string x1] : List Value).toArray := by kernel_rfl
theorem pf (A2 : Option Addr) (n2 c2 : Nat) (A3 : Option Addr) (n3 c3 : Nat) : Tryz.prog.built 35 [(2,.slice A2 n2 c2),(3,.slice A3 n3 c3)] = some ([.bool false,.bool false,.slice A2 n2 c2,.slice A3 n3 c3,.int .i64 0,.int .i64 0,.int .i64 0,.string .empty,.string .empty,.string .empty,.int .i64 0,.slice none 0 0,.slice none 0 0,.bool false,.int .i64 0] : List Value).toArray := by kernel_rfl
theorem pg (x0 : Int) (x9_0 : Bool) (x9_1 : Bool) (A9_2 : Option Addr) (n9_2 c9_2 : Nat) (A9_3 : Option Addr) (n9_3 c9_3 : Nat) (x9_4 : Int) (x9_5 : Int) (x9_6 : Int) (x9_7 : ByteArray) (x9_8 : ByteArray) (x9_9 : ByteArray) (x9_10 : Int) (A9_11 : Option Addr) (n9_11 c9_11 : Nat) (A9_12 : Option Addr) (n9_12 c9_12 : Nat) (x9_13 : Bool) (x9_14 : Int) : Tryz.prog.built 37 [(0,.int .i64 x0),(9,.agg (([.bool x9_0,.bool x9_1,.slice A9_2 n9_2 c9_2,.slice A9_3 n9_3 c9_3,.int .i64 x9_4,.int .i64 x9_5,.int .i64 x9_6,.string x9_7,.string x9_8,.string x9_9,.int .i64 x9_10,.slice A9_11 n9_11 c9_11,.slice A9_12 n9_12 c9_12,.bool x9_13,.int .i64 x9_14] : List Value)).toArray)] = some ([.int .i64 x0,.string .empty,.string .empty,.slice none 0 0,.slice none 0 0,.bool false,.slice none 0 0,.slice none 0 0,.int .i64 0,.int .i64 0,.int .i64 0,.string .empty,.string .empty,.string .empty,.int .i64 0,.slice none 0 0,.bool x9_0,.bool x9_1,.slice A9_2 n9_2 c9_2,.slice A9_3 n9_3 c9_3,.int .i64 x9_4,.int .i64 x9_5,.int .i64 x9_6,.string x9_7,.string x9_8,.string x9_9,.int .i64 x9_10,.slice A9_11 n9_11 c9_11,.slice A9_12 n9_12 c9_12,.bool x9_13,.int .i64 x9_14] : List Value).toArray := by kernel_rfl
theorem nameE (s : List UInt8) (w : World)  : Calls Tryz.prog 41 #[.string (B s)] w (cj w (.agg (bH (nmX s) SL.nil).toArray)) := by
 refine ax (args := [.string (B s)]) (lent := []) (H := []) Tryz.func41 rfl Tryz.ntmps41 rfl (Sat.start _ _ _ _) ((show Tri _ [(0,_)] _ _ _ from ae (aa (aM _ rfl cR rfl (fun b2 => triL_nilN (ae (aa (ai rfl rfl (aS (kE _ _) rfl rfl (dn (us := [.int .i64 0,.int .i64 0,.int .i64 0,.string .empty,.string .empty,.string .empty,.int .i64 0,.slice none 0 0]) (cs := bH (nmX s) SL.nil) rfl rfl rfl aX .z rfl rfl rfl (triL_nilN (aq (cD rfl aY aX N0 rfl rfl ?_))))))))))))); exact fun w1 hw1 => ⟨rfl,hw1.chg⟩
theorem awPV2 {P : Program} {n : Nat} {w w1 : World} {H : List Chunk} {b c : Nat} {e1 z1 n1 e2 z2 n2 : Nat} {x1 x2 : List Value} {m1 m2 k1 k2 : Nat} (hL : LV w) (hg : 10 ≤ w.heap.size) (h1 : Sat ⟨P,n,[],w,[]⟩ H w1) (hb : row (.slice (some ⟨b,0,none⟩) m1 k1) e1 z1 n1 x1 ∈ H) (hc : row (.slice (some ⟨c,0,none⟩) m2 k2) e2 z2 n2 x2 ∈ H) : PV w1 [] [b,c] := by
 have q1 := h1.lt hb (k := b) rfl
 have q2 := h1.lt hc (k := c) rfl
 have q3 := h1.chg.size
 refine ⟨⟨fun k hk => ⟨?_,by simp⟩,fun k hk => ⟨?_,by simp⟩⟩,hL.chg h1.chg⟩
 · simp only [List.mem_cons,List.not_mem_nil,or_false] at hk
   rcases hk with rfl | rfl
   · exact q1
   · exact q2
 · have : w.heap.size ≤ w1.heap.size := q3
   omega
theorem awPV1 {P : Program} {n : Nat} {w w1 : World} {H : List Chunk} {b : Nat} {e1 z1 n1 : Nat} {x1 : List Value} {m1 k1 : Nat} (hL : LV w) (hg : 10 ≤ w.heap.size) (h1 : Sat ⟨P,n,[],w,[]⟩ H w1) (hb : row (.slice (some ⟨b,0,none⟩) m1 k1) e1 z1 n1 x1 ∈ H) : PV w1 [] [b] := by
 have q1 := h1.lt hb (k := b) rfl
 have q3 := h1.chg.size
 refine ⟨⟨fun k hk => ⟨?_,by simp⟩,fun k hk => ⟨?_,by simp⟩⟩,hL.chg h1.chg⟩
 · simp only [List.mem_cons,List.not_mem_nil,or_false] at hk
   subst hk
   exact q1
 · have : w.heap.size ≤ w1.heap.size := q3
   omega
set_option maxRecDepth 100000 in
set_option maxHeartbeats 2000000 in
theorem qG  (w : World) (hE : LE w) (hX : LX w) (hL : LV w) (hg : 10 ≤ w.heap.size) : Calls Tryz.prog 12 #[] w (cj w (.bool true)) := by
 refine ax (args := []) (lent := []) (H := []) Tryz.func12 rfl Tryz.ntmps12 rfl (Sat.start _ _ _ _) ((show Tri _ [] _ _ _ from ae (aa (o_assignN rfl rfl (ae (aa (fT (J := List Nat × List Value) (val := fun j => .tuple #[.agg j.2.toArray,errS (cy awT1)]) (D' := fun j => [stC j.1 (stR (cy awT1)) j.2]) (Pu := fun j => j.2.length = 31 ∧ allOne j.2 = true) [] [] _ [] rfl rfl rfl rfl Tryz.call15 (by simp) (by simp) (fun w1 h1 h2 => jP awT1 w1 (by decide) (hE.chg h1.chg) aw_s1) (fun j hj => ?_))))))))
 rw [aw_1]
 refine ai rfl rfl (bh rfl rfl rfl (bh rfl rfl rfl (aM _ rfl gY rfl (fun b1 => dn (us := [.int .i64 0,.string .empty,.string .empty,.slice none 0 0,.slice none 0 0,.bool false,.slice none 0 0,.slice none 0 0,.int .i64 0,.int .i64 0,.int .i64 0,.string .empty,.string .empty,.string .empty,.int .i64 0,.slice none 0 0,.bool false,.bool false,.slice none 0 0,.slice none 0 0,.int .i64 0,.int .i64 0,.int .i64 0,.string .empty,.string .empty,.string .empty,.int .i64 0,.slice none 0 0,.slice none 0 0,.bool false,.int .i64 0]) (cs := j.2) rfl hj.1 hj.2 eO .z rfl rfl rfl (o_assignN rfl rfl (ae (tri_slo [(2,_),(1,_)] rfl ?_)))))))
 obtain ⟨blp,cs⟩ := j
 refine Tri.know (fun w2 hw2 => ((fun ⟨y,hy,_⟩ => ⟨y,hy⟩ : (∃ y,cs = bL eC y ∧ SAt blp w2 eC y) → ∃ y,cs = bL eC y) (st_at (hw2.holds _ (Nth.mem (.s .z))).1))) (fun ⟨y,hy⟩ => ?_)
 subst hy
 refine aa (aA (first := []) (cap := []) rfl rfl rfl Tryz.call41 (fun w1 h1 => nameE [97] w1) (aS (mZ _ _ _ _ _ _ _ _ _ _) rfl rfl (aS (mp _ _ _) rfl rfl (aS (pd _ _ _ _ _ _ _ _ _ _ _) rfl rfl (eG (parts := [_,_]) awI Tryz.underlying31 zs53 rfl rfl rfl rfl (by decide) (by decide) (fun b18 => aS (mY _) rfl rfl (bA Tryz.underlying32 zs87 rfl rfl rfl rfl rfl (by decide) (by decide) (fun b20 => aS (pf _ _ _ _ _ _) rfl rfl (aS (pg _ _ _ _ _ _ _ _ _ _ _ _ _ _ _ _ _ _ _ _ _ _ _ _) rfl rfl (aM _ rfl gY rfl (fun b3 => dn (us := [.int .i64 0,.string .empty,.string .empty,.slice none 0 0,.slice none 0 0,.bool false,.slice none 0 0,.slice none 0 0,.int .i64 0,.int .i64 0,.int .i64 0,.string .empty,.string .empty,.string .empty,.int .i64 0,.slice none 0 0,.bool false,.bool false,.slice none 0 0,.slice none 0 0,.int .i64 0,.int .i64 0,.int .i64 0,.string .empty,.string .empty,.string .empty,.int .i64 0,.slice none 0 0,.slice none 0 0,.bool false,.int .i64 0]) (cs := bL eC (awY b18 b20)) rfl rfl rfl eO .z rfl rfl rfl (triL_nilN (ae (tri_slo [(3,_),(2,_),(1,_)] rfl (aa (aQ fq eO .z rfl rfl (vs := bL eC (awY b18 b20)) rfl rfl (aA (first := []) (cap := []) rfl rfl rfl Tryz.call8 (fun w1 h1 => printStK eC (awY b18 b20) [b18,b20] w1 (awPV2 hL hg h1 (Nth.mem (.s (.s .z))) (Nth.mem (.s .z))) (aw_at (RdS.row (.s (.s .z)) w1 h1) (RdS.row (.s .z) w1 h1)) aw_ok aw_bd (fun _ => by rw [aw_6]; decide)) ?_)))))))))))))))))
 rw [aw_3]
 refine ai rfl rfl (bh rfl rfl rfl (bh rfl rfl rfl (aG rfl rfl (o_assignN rfl rfl (ae (tri_slo [(5,_),(4,_),(3,_),(2,_),(1,_)] rfl (aa (aA (first := []) (cap := []) rfl rfl rfl Tryz.call41 (fun w1 h1 => nameE [97] w1) (bA Tryz.underlying28 zs30 rfl rfl rfl rfl rfl (by decide) (by decide) (fun b30 => aS (dC _ _ _ _) rfl rfl (aA (first := []) (cap := []) rfl rfl rfl Tryz.call13 (fun w1 h1 => l9 notA ⟨some ⟨b30,0,none⟩,1⟩ [b30] w1 (awPV1 hL hg h1 (Nth.mem .z)) (nota_at (RdS.row .z w1 h1)) nota_ok (by rw [aw_8]; decide) (fun _ => by rw [aw_7]; decide)) ?_)))))))))))
 rw [aw_4]
 refine ai rfl rfl (bh rfl rfl rfl (bh rfl rfl rfl (aG rfl rfl (o_assignN rfl rfl (ae (tri_slo [(7,_),(6,_),(5,_),(4,_),(3,_),(2,_),(1,_)] rfl (aa (fT (J := List Nat × List Value) (val := fun j => .tuple #[.agg j.2.toArray,errS (cy awT2)]) (D' := fun j => [stC j.1 (stR (cy awT2)) j.2]) (Pu := fun j => j.2.length = 31 ∧ allOne j.2 = true) [] [] _ [] rfl rfl rfl rfl Tryz.call15 (by simp) (by simp) (fun w1 h1 h2 => jP awT2 w1 (by decide) (hE.chg h1.chg) aw_s2) (fun k hk => ?_)))))))))
 rw [aw_2]
 refine ai rfl rfl (bh rfl rfl rfl (bh rfl rfl rfl (aM _ rfl gY rfl (fun b8 => dn (us := [.int .i64 0,.string .empty,.string .empty,.slice none 0 0,.slice none 0 0,.bool false,.slice none 0 0,.slice none 0 0,.int .i64 0,.int .i64 0,.int .i64 0,.string .empty,.string .empty,.string .empty,.int .i64 0,.slice none 0 0,.bool false,.bool false,.slice none 0 0,.slice none 0 0,.int .i64 0,.int .i64 0,.int .i64 0,.string .empty,.string .empty,.string .empty,.int .i64 0,.slice none 0 0,.slice none 0 0,.bool false,.int .i64 0]) (cs := k.2) rfl hk.1 hk.2 eO .z rfl rfl rfl (o_assignN rfl rfl (ae (tri_slo [(9,_),(7,_),(6,_),(5,_),(4,_),(3,_),(2,_),(1,_)] rfl (aa (ai rfl rfl (lh ifE (.inl ⟨rfl,rfl⟩) rfl rfl (ai rfl rfl ?_)))))))))))
 refine' aD [_,_,_] [(9,_),(7,_),(6,_),(5,_),(4,_),(3,_)] (dj := 41) (dr := 44) rfl rfl (fun g1 => ?_) ⟨_,rfl,rfl,rfl,(.cons rfl (.cons rfl (.cons rfl (.cons rfl (.cons rfl (.cons rfl (.nil _)))))))⟩ rfl ?_
 rotate_left
 · skip
   exact aQ fq eO (.s (.s (.s (.s (.s (.s .z)))))) rfl rfl (vs := bL eC y) rfl rfl (aQ fq eO (.s (.s (.s .z))) rfl rfl (vs := bL eC (awY b18 b20)) rfl rfl (aA (first := []) (cap := []) rfl rfl rfl Tryz.call16 (fun w1 h1 => rB eC eC y (awY b18 b20) blp [b18,b20] w1 (qj (h1.holds _ (Nth.mem (.s (.s (.s (.s (.s (.s (.s .z))))))))).1) (aw_at (RdS.row (.s (.s (.s (.s (.s .z))))) w1 h1) (RdS.row (.s (.s (.s (.s .z)))) w1 h1)) (h1.holds _ (Nth.mem (.s (.s (.s (.s (.s (.s (.s .z))))))))).2 (fun k hk => ((awPV2 hL hg h1 (Nth.mem (.s (.s (.s (.s (.s .z)))))) (Nth.mem (.s (.s (.s (.s .z)))))).pe.lt k hk).1) aw_bd) (ab (Piece.mk rfl rfl (.cons rfl (.cons rfl (.cons rfl (.cons rfl (.cons rfl (.cons rfl (.nil _))))))) (fun _ h => h)))))
 refine ai rfl rfl ?_
 refine' aD [_,_] [(9,_),(7,_),(6,_),(5,_),(3,_)] (dj := 46) (dr := 48) rfl rfl (fun g2 => ?_) ⟨_,rfl,rfl,rfl,(.cons rfl (.cons rfl (.cons rfl (.cons rfl (.cons rfl (.nil _))))))⟩ rfl ?_
 rotate_left
 · skip
   exact ai rfl rfl (bz rfl rfl rfl (ab (Piece.mk rfl rfl (.cons rfl (.cons rfl (.cons rfl (.cons rfl (.cons rfl (.nil _)))))) (fun _ h => h))))
 refine ai rfl rfl ?_
 refine' aD [_,_] [(9,_),(7,_),(6,_),(3,_)] (dj := 50) (dr := 52) rfl rfl (fun g3 => ?_) ⟨_,rfl,rfl,rfl,(.cons rfl (.cons rfl (.cons rfl (.cons rfl (.nil _)))))⟩ rfl ?_
 rotate_left
 · skip
   exact ai rfl rfl (az rfl rfl rfl (ab (Piece.mk rfl rfl (.cons rfl (.cons rfl (.cons rfl (.cons rfl (.nil _))))) (fun _ h => h))))
 refine ai rfl rfl ?_
 refine' aD [_,_] [(9,_),(7,_),(3,_)] (dj := 54) (dr := 56) rfl rfl (fun g4 => ?_) ⟨_,rfl,rfl,rfl,(.cons rfl (.cons rfl (.cons rfl (.nil _))))⟩ rfl ?_
 rotate_left
 · skip
   exact ai rfl rfl (bz rfl rfl rfl (ab (Piece.mk rfl rfl (.cons rfl (.cons rfl (.cons rfl (.nil _)))) (fun _ h => h))))
 refine ai rfl rfl ?_
 refine' aD [_,_] [(9,_),(3,_)] (dj := 58) (dr := 60) rfl rfl (fun g5 => ?_) ⟨_,rfl,rfl,rfl,(.cons rfl (.cons rfl (.nil _)))⟩ rfl ?_
 rotate_left
 · skip
   exact ai rfl rfl (az rfl rfl rfl (ab (Piece.mk rfl rfl (.cons rfl (.cons rfl (.nil _))) (fun _ h => h))))
 refine ai rfl rfl ?_
 refine' aD [_,_,_,_] [(3,_)] (dj := 62) (dr := 66) rfl rfl (fun g6 => ?_) ⟨_,rfl,rfl,rfl,(.cons rfl (.nil _))⟩ rfl ?_
 rotate_left
 · skip
   exact ai rfl rfl (aA (first := []) (cap := []) rfl rfl rfl Tryz.call18 (fun w1 h1 => qq (.error (190,13)) w1 (hX.chg h1.chg)) (aS (f7 _ _) rfl rfl (o_eqlAT (ks := fKs) (vs := [.int .i64 190,.int .i64 13]) flatF rfl rfl rfl rfl rfl (ab (Piece.mk rfl rfl (.cons rfl (.nil _)) (fun _ h => h))))))
 refine ai rfl rfl ?_
 refine' aD [_,_] [] (dj := 68) (dr := 70) rfl rfl (fun g7 => ?_) ⟨_,rfl,rfl,rfl,(.nil _)⟩ rfl ?_
 rotate_left
 · skip
   exact aQ fq eO (.s (.s (.s .z))) rfl rfl (vs := bL eC (awY b18 b20)) rfl rfl (aA (first := []) (cap := []) rfl rfl rfl Tryz.call10 (fun w1 h1 => mayStK eC (awY b18 b20) [b18,b20] w1 (aw_at (RdS.row (.s (.s (.s (.s (.s .z))))) w1 h1) (RdS.row (.s (.s (.s (.s .z)))) w1 h1)) (fun k hk => ((awPV2 hL hg h1 (Nth.mem (.s (.s (.s (.s (.s .z)))))) (Nth.mem (.s (.s (.s (.s .z)))))).pe.lt k hk).1) aw_ok aw_bd) (ab (Piece.mk rfl rfl (.nil _) (fun _ h => h))))
 refine o_assignN rfl rfl (aq (aW rfl rfl ?_)); exact fun w1 hw1 => ⟨congrArg (fun b => Ending.returned (.bool b)) (by rw [decide_eq_true (rfl : eC = eC),aw_5]; rfl),hw1.chg⟩
end Go.Proofs.YtjbpkcbefmpfgaaGreatDoor
namespace Go.Proofs.YtjbpkcbefmpfgaaGreatDoor
open Go.WK Go.RowKit 
theorem aggn38 : cu Tryz.prog 38 = some false := by kernel_rfl
theorem faultS (r : Except Flt StmtX) (w : World) (hX : LX w) : Calls Tryz.prog 18 #[errS r] w (cj w (.agg #[.int .i64 (fcS r).1,.int .i64 (fcS r).2])) := by
 cases r with
 | ok s => exact qq (.ok []) w hX
 | error x => exact qq (.error (x.1,x.2)) w hX
set_option maxRecDepth 100000 in
set_option maxHeartbeats 2000000 in
theorem mr (e : Ex) (y : SL) (bl : List Nat) (more : Int) (w : World) (hE : LE w) (hX : LX w) (hL : LV w) (hg : 10 ≤ w.heap.size) (hV : PV w [] bl) (hK : ExR bl w e y) (ho : e.ok) (hz : e.size ≤ 70368744177664) (hT : e.may = true → (e.txt 1).1.length ≤ 70368744177664) : Calls Tryz.prog 6 #[.agg (bH e y).toArray,.int .i64 more] w (cj w (.bool true)) := by
 refine ax (args := [.agg (bH e y).toArray,.int .i64 more]) (lent := []) (H := []) Tryz.func6 rfl Tryz.ntmps6 rfl (Sat.start _ _ _ _) ((show Tri _ [(0,_),(1,_)] _ _ _ from ?_))
 obtain ⟨m,hmn⟩ : ∃ m : Nat,1 + max more 0 % 20 = (m : Int) := ⟨(1 + max more 0 % 20).toNat,by omega⟩
 have hm20 : 1 ≤ m ∧ m ≤ 20 := by omega
 refine ae (aa (cl _ rfl rfl rfl (fun b2 => o_assignN rfl rfl (ae (aa (aQ aY aX .z rfl rfl (vs := bH e y) rfl rfl (aA (first := []) (cap := []) rfl rfl rfl Tryz.call13 (fun w1 h1 => l9 e y bl w1 (hV.sub ⟨h1.chg,fun k _ h => h⟩) (hK.stab (hV.pe.st ⟨h1.chg,fun k _ h => h⟩)) ho hz hT) (ai rfl rfl (bh rfl rfl rfl (bh rfl rfl rfl (aG rfl rfl (o_assignN rfl rfl (ae (ae (tri_slo [(6,_),(5,_),(2,_),(1,_)] rfl (aa (ai rfl rfl (cw rfl rfl rfl (ai rfl rfl ?_)))))))))))))))))))
 refine' bd [_,_,_] [(5,_),(2,_),(1,_)] (dj := 20) (dr := 23) rfl rfl (fun g1 => ?_) ⟨_,rfl,rfl,rfl,(.cons rfl (.cons rfl (.cons rfl (.nil _))))⟩ rfl ?_
 rotate_left
 · skip
   exact ai rfl rfl (eI Tryz.underlying9 rfl rfl (fA rfl rfl rfl (ab (Piece.mk rfl rfl (.cons rfl (.cons rfl (.cons rfl (.nil _)))) (fun _ h => h)))))
 refine triL_nilN (aF rfl (fun q0 => ?_) (fun q0 => ?_))
 · skip
   refine ae (aw [] (.nil _) (aa (aA (first := []) (cap := []) rfl rfl rfl Tryz.call12 (fun w1 h1 => qG w1 (hE.chg h1.chg) (hX.chg h1.chg) (hL.chg h1.chg) (by have : w.heap.size ≤ w1.heap.size := h1.chg.size; omega)) (o_assignN rfl rfl (aq (am (aW rfl rfl ?_))))))); exact fun w1 hw1 => ⟨congrArg (fun b => Ending.returned (.bool b)) (by first | rfl | (rw [decide_eq_true (rfl : dG e = dG e)]; rfl)),hw1.chg⟩
 · skip
   obtain ⟨hm,hpt,hl,hd⟩ := prX_ok q0
   rw [hpt]
   refine an (ag (ae (aa (ai rfl rfl (mu rfl rfl rfl (by (try simp only [List.length_cons,List.length_nil]); omega) (fT (J := List Nat × List Value) (val := fun j => .tuple #[.agg j.2.toArray,errS (cy (cI ++ (e.txt 1).1))]) (D' := fun j => [stC j.1 (stR (cy (cI ++ (e.txt 1).1))) j.2]) (Pu := fun j => j.2.length = 31 ∧ allOne j.2 = true) [] [] _ [] rfl rfl rfl rfl Tryz.call15 (by simp) (by simp) (fun w1 h1 h2 => jP (cI ++ (e.txt 1).1) w1 (by simp only [List.length_append,cI,List.length_cons,List.length_nil]; omega) (hE.chg h1.chg) (fun ts h => mS h)) (fun j hj => ?_)))))))
   rw [sel_one hm ho hl hd]
   refine ai rfl rfl (bh rfl rfl rfl (bh rfl rfl rfl (aM _ rfl gY rfl (fun b7 => dn (us := [.int .i64 0,.string .empty,.string .empty,.slice none 0 0,.slice none 0 0,.bool false,.slice none 0 0,.slice none 0 0,.int .i64 0,.int .i64 0,.int .i64 0,.string .empty,.string .empty,.string .empty,.int .i64 0,.slice none 0 0,.bool false,.bool false,.slice none 0 0,.slice none 0 0,.int .i64 0,.int .i64 0,.int .i64 0,.string .empty,.string .empty,.string .empty,.int .i64 0,.slice none 0 0,.slice none 0 0,.bool false,.int .i64 0]) (cs := j.2) rfl hj.1 hj.2 eO .z rfl rfl rfl (o_assignN rfl rfl (ae (ae (tri_slo [(8,_),(7,_),(5,_),(2,_),(1,_)] rfl ?_))))))))
   obtain ⟨blp,cs⟩ := j
   refine Tri.sel (bl := blp) (e := e) (cs := cs) (fun ya xI yi hcs hca hxl => ?_)
   subst hcs
   have hil : (dG e).q.items.length = 1 := rfl
   refine bo (_) [(0,true),(1,true),(2,true),(3,true),(4,true),(5,true),(6,true),(7,true),(8,true),(9,true),(10,true),(11,true),(12,true),(13,true),(14,true),(15,true),(16,true),(17,false),(18,false),(19,false)] [17,18,19] (by kernel_rfl) (by kernel_rfl) (fun _ h => h) (ah rfl (ai rfl rfl (ab ⟨rfl,ah rfl (lg ifE (.inl ⟨rfl,rfl⟩) rfl rfl (ab ⟨rfl,ah rfl (ai rfl rfl (ab ⟨rfl,ah rfl (aj fP rfl rfl (ab ⟨rfl,ah rfl (aj cJ rfl rfl (ab ⟨rfl,ah rfl (ak dV N0 rfl rfl rfl (ab ⟨rfl,ah rfl (aU Tryz.underlying31 rfl rfl (ab ⟨rfl,ah rfl (cw rfl rfl rfl (ab ⟨rfl,ah rfl (fV rfl rfl rfl rfl (ab ⟨rfl,ah rfl (ai rfl rfl (ab ⟨rfl,ah rfl (aj fP rfl rfl (ab ⟨rfl,ah rfl (aj cJ rfl rfl (ab ⟨rfl,ah rfl (ak dV N0 rfl rfl rfl (ab ⟨rfl,ah rfl (aT Tryz.underlying31 jj rfl rfl rfl (fun w1 h1 => (h1.holds _ (Nth.mem (.s .z))).1.2.1.2.1) (by (try simp only [List.length_append,List.length_cons,List.length_nil]); omega) (by (try simp only [List.length_append,List.length_cons,List.length_nil]); omega) hxl (by decide) (ab ⟨rfl,ah rfl (aO ma rfl rfl (fun w1 h1 => (h1.holds _ (Nth.mem (.s .z))).1.2.1.2.1) (aL hca (j := 0) rfl) (ab ⟨rfl,ah rfl (bv aY aX rfl rfl (fun w1 h1 => (h1.holds _ (Nth.mem (.s .z))).1.2.1.2.1) (vs := bH e yi) (ey (p := []) (cs := bH e yi) (r := [_]) hca) rfl (by decide) (ab ⟨rfl,ah rfl (aQ aY aX (.s (.s .z)) rfl rfl (vs := bH e y) rfl rfl (ab ⟨rfl,(bE [17,18,19] [_,_,_] rfl rfl (aA (first := []) (cap := []) rfl rfl rfl Tryz.call17 (fun w1 h1 => me e e _ _ w1 (ExK.c _ _ (h1.holds _ (Nth.mem (.s .z))).1.2.2) (ExC.chg h1.chg _ _ (ExK.c _ _ hK)) hz) ?_))⟩))⟩))⟩))⟩))⟩))⟩))⟩))⟩))⟩))⟩))⟩))⟩))⟩))⟩))⟩))⟩))⟩)))
   rw [decide_eq_true (rfl : e = e)]
   refine cZ rfl rfl (fV rfl rfl rfl rfl (ab ⟨rfl,(ag (aF rfl (fun q1 => ?_) (fun q1 => ?_)))⟩))
   · skip
     simp at q1
   · skip
     refine an (ag (ae (tri_slo [(7,_),(5,_),(1,_)] rfl (aa (ai rfl rfl (o_max rfl rfl rfl (o_remN rfl rfl rfl (by (try simp only [List.length_append,List.length_cons,List.length_nil]); omega) (by (try simp only [List.length_append,List.length_cons,List.length_nil]); omega) (bD rfl rfl rfl (by (try simp only [List.length_append,List.length_cons,List.length_nil]); omega) ?_))))))))
     rw [hmn]
     refine o_assignN rfl rfl (ae (ae (tri_slo [(9,_),(7,_),(5,_)] rfl (aa (o_assignN rfl rfl (av (bC (ι := Nat) (F := fun i => [(5,.string (B (br i (e.txt 1).1))),(7,.pointer (some ⟨b7,0,none⟩)),(9,.int .i64 (m : Int)),(10,.int .i64 (i : Int))]) (HH := fun i => [box b7 37 (bL (dG e) ya),selC blp e ya xI yi,box b2 30 (bH e y)]) (Pu := fun i => i ≤ m) (μ := fun i => m - i) (0) (.cons rfl (.cons rfl (.cons rfl (.cons rfl (.nil _))))) (fun _ h => h) (Nat.zero_le _) (fun i hi => ae (ae (aa (ai rfl rfl (ai rfl rfl (cv rfl rfl rfl (triL_nilN (ar rfl (fun q2 => ?_) (fun q2 => ?_))))))))))))))))
     · skip
       refine an (ag (ae (av ?_)))
       have hbl := nK i (e.txt 1).1
       exact aa (ai rfl rfl (mu rfl rfl rfl (by (try simp only [List.length_cons,List.length_nil]); omega) (mu rfl rfl rfl (by (try simp only [List.length_append,List.length_cons,List.length_nil]); omega) (aG rfl rfl (ab (ao (ag (tri_slo [(5,_),(7,_),(9,_),(10,_)] rfl (aa (ai rfl rfl (bD rfl rfl rfl (by (try simp only [List.length_append,List.length_cons,List.length_nil]); omega) (o_assignN rfl rfl (⟨i + 1,(.cons (by rw [show br (i + 1) (e.txt 1).1 = 40 :: (br i (e.txt 1).1 ++ [41]) from br_in i _]; rfl) (.cons rfl (.cons rfl (.cons rfl (.nil _))))),fun _ h => h,(by omega),by omega⟩)))))))))))))
     · skip
       have him : i = m := by omega
       rw [him]
       refine bg (au (au (aK (ag (ae (tri_slo [(5,_),(7,_)] rfl ?_))))))
       have hbl := nK m (e.txt 1).1
       refine aa (ai rfl rfl (mu rfl rfl rfl (by (try simp only [List.length_cons,List.length_nil]); omega) (fT (J := List Nat × List Value) (val := fun j => .tuple #[.agg j.2.toArray,errS (cy (cI ++ br m (e.txt 1).1))]) (D' := fun j => [stC j.1 (stR (cy (cI ++ br m (e.txt 1).1))) j.2]) (Pu := fun j => j.2.length = 31 ∧ allOne j.2 = true) [] [] _ [] rfl rfl rfl rfl Tryz.call15 (by simp) (by simp) (fun w1 h1 h2 => jP (cI ++ br m (e.txt 1).1) w1 (by simp only [List.length_append,cI,List.length_cons,List.length_nil,nK]; omega) (hE.chg h1.chg) (fun ts h => mS h)) (fun k hk => ai rfl rfl (bh rfl rfl rfl (bh rfl rfl rfl (aM _ rfl gY rfl (fun b11 => dn (us := [.int .i64 0,.string .empty,.string .empty,.slice none 0 0,.slice none 0 0,.bool false,.slice none 0 0,.slice none 0 0,.int .i64 0,.int .i64 0,.int .i64 0,.string .empty,.string .empty,.string .empty,.int .i64 0,.slice none 0 0,.bool false,.bool false,.slice none 0 0,.slice none 0 0,.int .i64 0,.int .i64 0,.int .i64 0,.string .empty,.string .empty,.string .empty,.int .i64 0,.slice none 0 0,.slice none 0 0,.bool false,.int .i64 0]) (cs := k.2) rfl hk.1 hk.2 eO .z rfl rfl rfl (o_assignN rfl rfl (ae (ae (tri_slo [(12,_),(11,_),(7,_)] rfl (aa (ai rfl rfl (aA (first := []) (cap := []) rfl rfl rfl Tryz.call18 (fun w1 h1 => faultS (cy (cI ++ br m (e.txt 1).1)) w1 (hX.chg h1.chg)) (o_fieldV Tryz.underlying55 rfl aggn38 rfl rfl rfl (az rfl rfl rfl (triL_nilN (ar rfl (fun q3 => ?_) (fun q3 => ?_))))))))))))))))))))
       · skip
         refine ae (aw [] (.nil _) (aa (aA (first := []) (cap := []) rfl rfl rfl Tryz.call12 (fun w1 h1 => qG w1 (hE.chg h1.chg) (hX.chg h1.chg) (hL.chg h1.chg) (by have : w.heap.size ≤ w1.heap.size := h1.chg.size; omega)) (o_assignN rfl rfl (aq (am (aW rfl rfl ?_))))))); exact fun w1 hw1 => ⟨congrArg (fun b => Ending.returned (.bool b)) (by first | rfl | (rw [decide_eq_true (rfl : dG e = dG e)]; rfl)),hw1.chg⟩
       · skip
         have hp2 := sel_more hm ho hl hm20.2 (decide_eq_false q3)
         rw [hp2]
         refine an (ag (ae (tri_slo [(12,_),(11,_),(7,_)] rfl ?_)))
         obtain ⟨bk,ck⟩ := k
         refine Tri.know (fun w2 hw2 => ((fun ⟨y,hy,_⟩ => ⟨y,hy⟩ : (∃ y,ck = bL (dG e) y ∧ SAt bk w2 (dG e) y) → ∃ y,ck = bL (dG e) y) (st_at (hw2.holds _ (Nth.mem (.s .z))).1))) (fun ⟨z,hz2⟩ => ?_)
         subst hz2
         refine aa (ai rfl rfl (lh ifE (.inl ⟨rfl,rfl⟩) rfl rfl (ai rfl rfl ?_)))
         refine' aD [_,_,_] [] (dj := 77) (dr := 80) rfl rfl (fun g2 => ?_) ⟨_,rfl,rfl,rfl,(.nil _)⟩ rfl ?_
         rotate_left
         · skip
           exact aQ fq eO (.s (.s .z)) rfl rfl (vs := bL (dG e) ya) rfl rfl (aQ fq eO .z rfl rfl (vs := bL (dG e) z) rfl rfl (aA (first := []) (cap := []) rfl rfl rfl Tryz.call16 (fun w1 h1 => rB (dG e) (dG e) ya z blp bk w1 (qj (h1.holds _ (Nth.mem (.s (.s (.s .z))))).1.1) (qj (h1.holds _ (Nth.mem (.s .z))).1) (h1.holds _ (Nth.mem (.s (.s (.s .z))))).2 (h1.holds _ (Nth.mem (.s .z))).2 (sel_bd hz)) (ab (Piece.mk rfl rfl (.nil _) (fun _ h => h)))))
         refine ai rfl rfl ?_
         refine' aD [_] [] (dj := 82) (dr := 83) rfl rfl (fun g3 => ?_) ⟨_,rfl,rfl,rfl,(.nil _)⟩ rfl ?_
         rotate_left
         · skip
           exact aA (first := []) (cap := []) rfl rfl rfl Tryz.call12 (fun w1 h1 => qG w1 (hE.chg h1.chg) (hX.chg h1.chg) (hL.chg h1.chg) (by have : w.heap.size ≤ w1.heap.size := h1.chg.size; omega)) (ab (Piece.mk rfl rfl (.nil _) (fun _ h => h)))
         refine o_assignN rfl rfl (aq (aW rfl rfl ?_)); exact fun w1 hw1 => ⟨congrArg (fun b => Ending.returned (.bool b)) (by first | rfl | (rw [decide_eq_true (rfl : dG e = dG e)]; rfl)),hw1.chg⟩
end Go.Proofs.YtjbpkcbefmpfgaaGreatDoor
namespace Go.Proofs.YtjbpkcbefmpfgaaGreatDoor
open Go.WK Go.RowKit
theorem tySyn : (Tryz.prog.globals[6]?).map (·.type) = some 46 := by kernel_rfl
theorem tyRng : (Tryz.prog.globals[7]?).map (·.type) = some 46 := by kernel_rfl
theorem rD : Tryz.prog.cellsOf 254 = 1 := by kernel_rfl
theorem ph : Tryz.prog.cellsOf 9 = 1 := by kernel_rfl
theorem star : "*" ++ "errors.errorString" = "*errors.errorString" := by decide
theorem rowEs (u : TypeId) (h : Tryz.prog.typeName? 3 u = some "*errors.errorString") : u = 252 :=
 typeName_ptr_named (nm := "errors.errorString") (by rw [star]; kernel_rfl) (by kernel_rfl) (by decide) u (by rw [star]; exact h)
theorem synIs {W : World} {rest : List (String × DataW Unit)} (h : laidMet Tryz.prog (("strconv.ErrSyntax", Rows.laid_strconv_ErrSyntax) :: rest) W) : ∃ tp p, W.var? Tryz.prog "strconv.ErrSyntax" = some #[.iface tp p] := by
 obtain ⟨a,s,hv,_⟩ := laid_sentinel h gSyn tySyn Tryz.underlying46 rowEs Tryz.underlying252 Tryz.underlying254 rfl rfl Tryz.underlying9 rD ph
 exact ⟨_,_,hv⟩
theorem rngIs {W : World} {rest : List (String × DataW Unit)} (h : laidMet Tryz.prog (("strconv.ErrRange", Rows.laid_strconv_ErrRange) :: rest) W) : ∃ tp p, W.var? Tryz.prog "strconv.ErrRange" = some #[.iface tp p] := by
 obtain ⟨a,s,hv,_⟩ := laid_sentinel h gRng tyRng Tryz.underlying46 rowEs Tryz.underlying252 Tryz.underlying254 rfl rfl Tryz.underlying9 rD ph
 exact ⟨_,_,hv⟩
theorem tyTab : (Tryz.prog.globals[2]?).map (·.type) = some 231 := by kernel_rfl
theorem cellsU : Tryz.prog.cellsOf 200 = 1 := by kernel_rfl
theorem cellsTab : Tryz.prog.cellsOf 231 = 20 := by kernel_rfl
theorem rtIs : (Tryz.prog.cutTypes.find? (·.1 == "internal/reflectlite.rtype")).map (·.2) = some 180 := by kernel_rfl
theorem oneRow : ((List.range 286).filter fun t => Tryz.prog.rowNamed t [101,114,114,111,114]) = [46] := by kernel_rfl
theorem tsize : Tryz.prog.types.size = 286 := by kernel_rfl
abbrev plainL : List (String × DataW Unit) := [("math/bits.deBruijn32tab", Rows.laid_math_bits_deBruijn32tab), ("math/bits.deBruijn64tab", Rows.laid_math_bits_deBruijn64tab), ("internal/strconv.uint64pow10", Rows.laid_internal_strconv_uint64pow10), ("unicode/utf8.acceptRanges", Rows.laid_unicode_utf8_acceptRanges), ("strconv.ErrRange", Rows.laid_strconv_ErrRange), ("strconv.ErrSyntax", Rows.laid_strconv_ErrSyntax), ("unicode.CaseRanges", Rows.laid_unicode_CaseRanges), ("unicode/utf8.first", Rows.laid_unicode_utf8_first)]
abbrev pi : List (String × DataW Unit) := Rows.parsePrintsUptoRow.laid
theorem rE : (pi.filter fun x => x.2.handleName?.isSome) = [("errors.errorType", Rows.laid_errors_errorType)] := by kernel_rfl
theorem restL : (pi.filter fun x => x.2.handleName?.isNone) = plainL := by kernel_rfl
theorem errTyIs {W : World} (h : handlesMet Tryz.prog [("errors.errorType", Rows.laid_errors_errorType)] W) : W.cell? ⟨0, 0, none⟩ = some (.iface 180 (.agg #[.pointer (some ⟨10, 46, none⟩)])) := by
 obtain ⟨name,u,ty,e1,e2,e3,e4,e5⟩ := h _ (List.mem_singleton.2 rfl)
 have en : name = [101,114,114,111,114] := (Option.some.inj e1).symm
 subst en
 obtain rfl := Option.some.inj (rtIs.symm.trans e2)
 have hm : ty ∈ (List.range 286).filter fun t => Tryz.prog.rowNamed t [101,114,114,111,114] := List.mem_filter.2 ⟨List.mem_range.2 (by rw [← tsize]; exact e3),e4⟩
 rw [oneRow] at hm
 obtain rfl := List.mem_singleton.1 hm
 have hh : typeHandle Tryz.prog 46 = .pointer (some ⟨10,46,none⟩) := by kernel_rfl
 rw [hh] at e5
 simpa using World.var?_cell qn e5 0
noncomputable def base0 (os : Os) : World :=
 let w0 := World.holding Tryz.prog os ⟨#[], #[],[]⟩
 { w0 with heap := w0.heap.modify 0 fun
   | .cells _ t frozen => .cells #[.iface 180 (.agg #[.pointer (some ⟨10,46,none⟩)])] t frozen
   | o => o }
noncomputable def laidW (os : Os) : World := (base0 os).layVars Tryz.prog plainL
theorem laidW_os (os : Os) : (laidW os).os = os := World.layVars_os _ _ _
theorem sJ (os : Os) (args : Array Value) : laidMetH Tryz.prog pi ((laidW os).forCall (fun _ _ => 0) ⟨#[],args,[]⟩).memory :=
 mn rE restL (mm args (by kernel_rfl) (by kernel_rfl)) (handlesMet_of_B (by kernel_rfl))
theorem maxIs {W : World} (h : W.ShapedOpen Tryz.prog) : ∃ m,W.cell? ⟨3,0,none⟩ = some (.int .i64 m) :=
 cell_of_shapedOpen_int (P := Tryz.prog) (g := 3) (t := 3) (zero := #[.int .i64 0]) h (of_decide_eq_true (by kernel_rfl)) (by kernel_rfl) rfl (by kernel_rfl) (by kernel_rfl) Tryz.underlying3
theorem size10 {W : World} (h : W.ShapedOpen Tryz.prog) : 10 ≤ W.heap.size := by
 have e : (((begin Tryz.prog (fun _ _ => 0) default).world.heap[9]?).bind Obj.row?).isSome = true := by kernel_rfl
 obtain ⟨⟨zero,t⟩,e⟩ := Option.isSome_iff_exists.1 e
 obtain ⟨cs,hc,_⟩ := h.1 9 zero t (of_decide_eq_true (by kernel_rfl)) e
 rcases Nat.lt_or_ge 9 W.heap.size with hl | hl
 · exact hl
 · rw [Array.getElem?_eq_none hl] at hc; cases hc
structure Known (W : World) : Prop where
 E : LE W
 X : LX W
 V : LV W
 g : 10 ≤ W.heap.size
theorem known {W : World} (h : laidMetH Tryz.prog pi W) (hs : W.ShapedOpen Tryz.prog) : Known W := by
 have hsp := lS (laid := pi) h rE
 rw [restL] at hsp
 obtain ⟨hpl,hha⟩ := hsp
 exact ⟨⟨synIs hpl.tail.tail.tail.tail.tail,rngIs hpl.tail.tail.tail.tail⟩,⟨errTyIs hha⟩,⟨maxIs hs,Lib.tabIs_of_head gTab tyTab Tryz.underlying231 Tryz.underlying200 cellsU cellsTab hpl.tail.tail⟩,size10 hs⟩
def uptoLe {H : Type} (l : List (DataW H)) : Prop := Rows.uptoSmall H l = true
theorem qH {H : Type} {l : List (DataW H)} : uptoLe l ↔ Rows.uptoBulkAll l ≤ 1048576 := ⟨fun h => of_decide_eq_true h,fun h => decide_eq_true h⟩
mutual
theorem like_bulk {H : Type} : ∀ (e : Ex) (d : DataW H),Like e d → e.size ≤ Rows.uptoBulk d
 | .mk o v t n c al,d,h => by
  obtain ⟨da,rfl,h⟩ := h
  simp only [Rows.uptoBulk,Rows.uptoBulkAll,Val.data,Ex.size]
  rcases h with ⟨rfl,rfl⟩ | ⟨elems,spare,rfl,h⟩
  · simp only [Rows.uptoBulk,Exs.size]; omega
  · have := likes_bulk al elems h
    simp only [Rows.uptoBulk]; omega
theorem likes_bulk {H : Type} : ∀ (l : List Ex) (ds : List (DataW H)),Likes l ds → Exs.size l ≤ Rows.uptoBulkAll ds
 | [],_,h => by simp only [Exs.size]; omega
 | e :: es,_,h => by
  obtain ⟨d,ds,rfl,h1,h2⟩ := h
  have a := like_bulk e d h1
  have b := likes_bulk es ds h2
  simp only [Exs.size,Rows.uptoBulkAll]; omega
end
end Go.Proofs.YtjbpkcbefmpfgaaGreatDoor
