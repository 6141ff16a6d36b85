/- Parts of the proof, joined and made shorter by a program: Dk1, Dk2, Dk3, Dk4, Dk5, Dk6, Dk7, Dk8, Dk9, Dk10, Lw1, Lw3, PSent, POpn. -/
import Derived.Test.YtjbpkcbefmpfgaaGreatDoorX4
import Derived.Test.YtjbpkcbefmpfgaaGreatDoorRows
import Derived.Stop.LaidErr
import Derived.HandedShaped
import Derived.KernelRfl
namespace Go.Proofs.YtjbpkcbefmpfgaaGreatDoor
open Go.WK Go.RowKit 
theorem nm05_no {s : List UInt8} (h : (((decide ((s.length : Int) < 1) || decide (24 < (s.length : Int))) || decide (((s.getD 0 0).toNat : Int) < 97)) || decide (122 < ((s.getD 0 0).toNat : Int))) = true) : kA s = false := by
  rw [mv]
  simp only [Bool.or_eq_true,decide_eq_true_eq] at h
  cases s with
  | nil => rfl
  | cons c l =>
    simp only [List.getD_cons_zero,List.length_cons] at h
    by_cases h24 : 24 < (c :: l).length
    · rw [decide_eq_true h24]; simp
    · have hb : gf true c = false := by
        simp only [List.length_cons] at h24
        unfold gf
        rcases h with ((h | h) | h) | h
        · omega
        · omega
        · rw [decide_eq_false (show ¬ 97 ≤ c.toNat by omega)]; simp
        · rw [decide_eq_false (show ¬ c.toNat ≤ 122 by omega)]; simp
      simp [nmL,hb]
theorem nm05_yes {s : List UInt8} (h : (((decide ((s.length : Int) < 1) || decide (24 < (s.length : Int))) || decide (((s.getD 0 0).toNat : Int) < 97)) || decide (122 < ((s.getD 0 0).toNat : Int))) = false) : (1 ≤ s.length ∧ s.length ≤ 24) ∧ (decide ((97 : Int) ≤ ((s.getD 0 0).toNat : Int)) && decide (((s.getD 0 0).toNat : Int) ≤ 122)) = true := by
 simp only [Bool.or_eq_false_iff,decide_eq_false_iff_not] at h
 obtain ⟨⟨⟨h1,h2⟩,h3⟩,h4⟩ := h
 refine ⟨by omega, ?_⟩
 rw [decide_eq_true (show (97 : Int) ≤ ((s.getD 0 0).toNat : Int) by omega),decide_eq_true (show ((s.getD 0 0).toNat : Int) ≤ 122 by omega)]; rfl
theorem nmb {c : UInt8} {b : Bool} (h : ((!(decide ((97 : Int) ≤ (c.toNat : Int)) && decide ((c.toNat : Int) ≤ 122)) && !(decide ((48 : Int) ≤ (c.toNat : Int)) && decide ((c.toNat : Int) ≤ 57))) && decide ((c.toNat : Int) ≠ 95)) = b) : gf false c = !b := by
 unfold gf
 have e1 : decide ((97 : Int) ≤ (c.toNat : Int)) = decide (97 ≤ c.toNat) := decide_eq_decide.2 (by omega)
 have e2 : decide ((c.toNat : Int) ≤ 122) = decide (c.toNat ≤ 122) := decide_eq_decide.2 (by omega)
 have e3 : decide ((48 : Int) ≤ (c.toNat : Int)) = decide (48 ≤ c.toNat) := decide_eq_decide.2 (by omega)
 have e4 : decide ((c.toNat : Int) ≤ 57) = decide (c.toNat ≤ 57) := decide_eq_decide.2 (by omega)
 have e5 : decide ((c.toNat : Int) ≠ 95) = !decide (c.toNat = 95) := by rw [← decide_not]; exact decide_eq_decide.2 (by omega)
 rw [e1,e2,e3,e4,e5] at h
 subst h
 cases decide (97 ≤ c.toNat) <;> cases decide (c.toNat ≤ 122) <;> cases decide (48 ≤ c.toNat) <;> cases decide (c.toNat ≤ 57) <;> cases decide (c.toNat = 95) <;> rfl
theorem name05K (s : List UInt8) (w : World) (hs : s.length ≤ 70368744177664) : Calls Tryz.prog 73 #[.string (B s)] w (bX w (.bool (kA s))) := by
 refine ay (args := [.string (B s)]) (lent := []) (H := []) Tryz.func73 rfl Tryz.ntmps73 rfl (Sat.start _ _ _ _) ((show Tri _ [(0,_)] _ _ _ from ab (aa (o_assignN rfl rfl (ab (ab (aa (ah rfl rfl (dJ Tryz.underlying9 rfl rfl (bK rfl rfl rfl (ah rfl rfl ?_)))))))))))
 refine' aQ [_,_,_] [(0,_)] (dj := 9) (dr := 12) rfl rfl (fun g1 => ?_) ⟨_,rfl,rfl,rfl,(.cons rfl (.nil _))⟩ rfl ?_
 rotate_left
 · skip
   exact ah rfl rfl (dJ Tryz.underlying9 rfl rfl (cR rfl rfl rfl (ae (Piece.mk rfl rfl (.cons rfl (.nil _)) (fun _ h => h)))))
 refine ah rfl rfl ?_
 refine' aQ [_,_,_] [(0,_)] (dj := 14) (dr := 17) rfl rfl (fun g9 => ?_) ⟨_,rfl,rfl,rfl,(.cons rfl (.nil _))⟩ rfl ?_
 rotate_left
 · skip
   have hl0 : 1 ≤ s.length := by
    simp only [Bool.or_eq_false_iff,decide_eq_false_iff_not] at g9
    omega
   exact ah rfl rfl (dB Tryz.underlying9 rfl rfl rfl (by (try simp only [List.length_append,List.length_cons,List.length_nil]); omega) (by (try simp only [List.length_append,List.length_cons,List.length_nil]); omega) (bK rfl rfl rfl (ae (Piece.mk rfl rfl (.cons rfl (.nil _)) (fun _ h => h)))))
 refine ah rfl rfl ?_
 refine' aQ [_,_,_] [(0,_)] (dj := 19) (dr := 22) rfl rfl (fun g14 => ?_) ⟨_,rfl,rfl,rfl,(.cons rfl (.nil _))⟩ rfl ?_
 rotate_left
 · skip
   have hl0 : 1 ≤ s.length := by
    simp only [Bool.or_eq_false_iff,decide_eq_false_iff_not] at g14
    omega
   exact ah rfl rfl (dB Tryz.underlying9 rfl rfl rfl (by (try simp only [List.length_append,List.length_cons,List.length_nil]); omega) (by (try simp only [List.length_append,List.length_cons,List.length_nil]); omega) (cR rfl rfl rfl (ae (Piece.mk rfl rfl (.cons rfl (.nil _)) (fun _ h => h)))))
 refine triL_nilN (aE rfl (fun q0 => ?_) (fun q0 => ?_))
 · skip
   refine ab (aa (o_assignN rfl rfl (ap (an (aT rfl rfl ?_))))); exact fun w1 hw1 => ⟨congrArg (fun b => Ending.returned (.bool b)) (by rw [nm05_no q0]),hw1.chg⟩
 · skip
   have hy := nm05_yes q0
   refine am (ag (ab (ab (aa (o_assignN rfl rfl (aw (bf (ι := Nat) (F := fun i => [(0,.string (B s)),(3,.int .i64 (i : Int))]) (HH := fun i => []) (Pu := fun i => (1 ≤ i ∧ i ≤ s.length) ∧ nmL false (s.drop 1) = nmL false (s.drop i)) (μ := fun i => s.length - i) (1) (.cons rfl (.cons rfl (.nil _))) (fun _ h => h) (⟨by omega,rfl⟩) (fun i hi => ab (ab (aa (ah rfl rfl (ah rfl rfl (dJ Tryz.underlying9 rfl rfl (bK rfl rfl rfl (triL_nilN (ar rfl (fun q1 => ?_) (fun q1 => ?_)))))))))))))))))
   · skip
     have hil : i < s.length := by omega
     refine am (ag (ab (aw (ab (tri_slo [(0,_),(3,_)] rfl (aa (ah rfl rfl (ah rfl rfl (dB Tryz.underlying9 rfl rfl rfl (by (try simp only [List.length_append,List.length_cons,List.length_nil]); omega) (by (try simp only [List.length_append,List.length_cons,List.length_nil]); omega) (gd rfl rfl rfl (ah rfl rfl ?_)))))))))))
     refine' aA [_,_,_,_] [(0,_),(3,_)] (dj := 34) (dr := 38) rfl rfl (fun g2 => ?_) ⟨_,rfl,rfl,rfl,(.cons rfl (.cons rfl (.nil _)))⟩ rfl ?_
     rotate_left
     · skip
       exact ah rfl rfl (ah rfl rfl (dB Tryz.underlying9 rfl rfl rfl (by (try simp only [List.length_append,List.length_cons,List.length_nil]); omega) (by (try simp only [List.length_append,List.length_cons,List.length_nil]); omega) (gc rfl rfl rfl (ae (Piece.mk rfl rfl (.cons rfl (.cons rfl (.nil _))) (fun _ h => h))))))
     refine o_assignN rfl rfl (ab (aa (ah rfl rfl (ah rfl rfl (dB Tryz.underlying9 rfl rfl rfl (by (try simp only [List.length_append,List.length_cons,List.length_nil]); omega) (by (try simp only [List.length_append,List.length_cons,List.length_nil]); omega) (gd rfl rfl rfl (ah rfl rfl ?_)))))))
     refine' aA [_,_,_,_] [(4,_),(0,_),(3,_)] (dj := 44) (dr := 48) rfl rfl (fun g3 => ?_) ⟨_,rfl,rfl,rfl,(.cons rfl (.cons rfl (.cons rfl (.nil _))))⟩ rfl ?_
     rotate_left
     · skip
       exact ah rfl rfl (ah rfl rfl (dB Tryz.underlying9 rfl rfl rfl (by (try simp only [List.length_append,List.length_cons,List.length_nil]); omega) (by (try simp only [List.length_append,List.length_cons,List.length_nil]); omega) (gc rfl rfl rfl (ae (Piece.mk rfl rfl (.cons rfl (.cons rfl (.cons rfl (.nil _)))) (fun _ h => h))))))
     refine o_assignN rfl rfl (ab (aa (ah rfl rfl (cu rfl rfl (ah rfl rfl ?_)))))
     refine' aA [_,_] [(0,_),(3,_)] (dj := 52) (dr := 54) rfl rfl (fun g4 => ?_) ⟨_,rfl,rfl,rfl,(.cons rfl (.cons rfl (.nil _)))⟩ rfl ?_
     rotate_left
     · skip
       exact ah rfl rfl (cu rfl rfl (ae (Piece.mk rfl rfl (.cons rfl (.cons rfl (.nil _))) (fun _ h => h))))
     refine ah rfl rfl ?_
     refine' aA [_,_,_,_] [(0,_),(3,_)] (dj := 56) (dr := 60) rfl rfl (fun g5 => ?_) ⟨_,rfl,rfl,rfl,(.cons rfl (.cons rfl (.nil _)))⟩ rfl ?_
     rotate_left
     · skip
       exact ah rfl rfl (ah rfl rfl (dB Tryz.underlying9 rfl rfl rfl (by (try simp only [List.length_append,List.length_cons,List.length_nil]); omega) (by (try simp only [List.length_append,List.length_cons,List.length_nil]); omega) (cB rfl rfl rfl (ae (Piece.mk rfl rfl (.cons rfl (.cons rfl (.nil _))) (fun _ h => h))))))
     refine triL_nilN (aE rfl (fun q2 => ?_) (fun q2 => ?_))
     · skip
       have q2 : gf false (s.getD i 0) = false := nmb (c := s.getD i 0) q2
       refine ab (aa (o_assignN rfl rfl (ap (aq (an (an (aq (an (aT rfl rfl ?_))))))))); exact fun w1 hw1 => ⟨congrArg (fun b => Ending.returned (.bool b)) (by rw [nm05 (b := false) hy.1 hy.2 (hi.2.trans (by rw [jj false (by omega),q2]; rfl))]),hw1.chg⟩
     · skip
       have q2 : gf false (s.getD i 0) = true := nmb (c := s.getD i 0) q2
       exact am (ao (ag (aa (ah rfl rfl (bn rfl rfl rfl (by (try simp only [List.length_append,List.length_cons,List.length_nil]); omega) (o_assignN rfl rfl (⟨i + 1,(.cons rfl (.cons rfl (.nil _))),fun _ h => h,⟨by omega,by rw [hi.2,jj false (by omega),q2]; rfl⟩,by omega⟩)))))))
   · skip
     refine aS (au (au (aG (ag (ab (az [] (.nil _) (aa (o_assignN rfl rfl (ap (aT rfl rfl ?_)))))))))); exact fun w1 hw1 => ⟨congrArg (fun b => Ending.returned (.bool b)) (by rw [nm05 (b := true) hy.1 hy.2 (hi.2.trans (by rw [List.drop_eq_nil_of_le (by omega)]; rfl))]),hw1.chg⟩
theorem jp (s : List UInt8) (w : World) (hs : s.length ≤ 70368744177664) : Calls Tryz.prog 36 #[.string (B s)] w (bX w (.bool (nameOk s))) := by
 refine ay (args := [.string (B s)]) (lent := []) (H := []) Tryz.func36 rfl Tryz.ntmps36 rfl (Sat.start _ _ _ _) ((show Tri _ [(0,_)] _ _ _ from ab (aa (o_assignN rfl rfl (ab (aa (ah rfl rfl (av (first := []) (cap := []) rfl rfl rfl Tryz.call73 (fun w1 h1 => name05K s w1 hs) (ah rfl rfl ?_)))))))))
 refine' aA [_,_,_] [(2,_)] (dj := 5) (dr := 8) rfl rfl (fun g1 => ?_) ⟨_,rfl,rfl,rfl,(.cons rfl (.nil _))⟩ rfl ?_
 rotate_left
 · skip
   exact ah rfl rfl (av (first := []) (cap := []) rfl rfl rfl Tryz.call74 (fun w1 h1 => wordR s w1) (cu rfl rfl (ae (Piece.mk rfl rfl (.cons rfl (.nil _)) (fun _ h => h)))))
 refine o_assignN rfl rfl (ap (aT rfl rfl ?_)); exact fun w1 hw1 => ⟨congrArg (fun b => Ending.returned (.bool b)) (by unfold nameOk; rw [mR]),hw1.chg⟩
theorem floorK (o : Int) (w : World)  : Calls Tryz.prog 76 #[.int .i64 o] w (bX w (.int .i64 (flr o))) := by
 refine ay (args := [.int .i64 o]) (lent := []) (H := []) Tryz.func76 rfl Tryz.ntmps76 rfl (Sat.start _ _ _ _) ((show Tri _ [(0,_)] _ _ _ from ab (aa (o_assignN rfl rfl (ab (ab (aa (ah rfl rfl (gc rfl rfl rfl (triL_nilN (ar rfl (fun q0 => ?_) (fun q0 => ?_))))))))))))
 · skip
   refine ab (az [] (.nil _) (aa (o_assignN rfl rfl (ap (an (aT rfl rfl ?_)))))); exact fun w1 hw1 => ⟨congrArg (fun b => Ending.returned (.int .i64 b)) (by (try simp only [Bool.or_eq_true,Bool.or_eq_false_iff,decide_eq_true_eq,decide_eq_false_iff_not] at *); unfold flr; (repeat' split) <;> omega),hw1.chg⟩
 · skip
   refine am (ag (ab (ab (aa (ah rfl rfl (ax rfl rfl rfl (triL_nilN (ar rfl (fun q1 => ?_) (fun q1 => ?_)))))))))
   · skip
     refine ab (az [] (.nil _) (aa (o_assignN rfl rfl (ap (an (aT rfl rfl ?_)))))); exact fun w1 hw1 => ⟨congrArg (fun b => Ending.returned (.int .i64 b)) (by (try simp only [Bool.or_eq_true,Bool.or_eq_false_iff,decide_eq_true_eq,decide_eq_false_iff_not] at *); unfold flr; (repeat' split) <;> omega),hw1.chg⟩
   · skip
     refine am (ag (ab (ab (tri_slo [(0,_)] rfl (aa (ah rfl rfl (ax rfl rfl rfl (triL_nilN (ar rfl (fun q2 => ?_) (fun q2 => ?_))))))))))
     · skip
       refine ab (aa (o_assignN rfl rfl (ap (an (aT rfl rfl ?_))))); exact fun w1 hw1 => ⟨congrArg (fun b => Ending.returned (.int .i64 b)) (by (try simp only [Bool.or_eq_true,Bool.or_eq_false_iff,decide_eq_true_eq,decide_eq_false_iff_not] at *); unfold flr; (repeat' split) <;> omega),hw1.chg⟩
     · skip
       refine am (ag (ab (ab (aa (ah rfl rfl (ax rfl rfl rfl (ah rfl rfl ?_)))))))
       refine' aQ [_,_] [(0,_)] (dj := 11) (dr := 13) rfl rfl (fun g1 => ?_) ⟨_,rfl,rfl,rfl,(.cons rfl (.nil _))⟩ rfl ?_
       rotate_left
       · skip
         exact ah rfl rfl (ax rfl rfl rfl (ae (Piece.mk rfl rfl (.cons rfl (.nil _)) (fun _ h => h))))
       refine ah rfl rfl ?_
       refine' aQ [_,_] [(0,_)] (dj := 15) (dr := 17) rfl rfl (fun g2 => ?_) ⟨_,rfl,rfl,rfl,(.cons rfl (.nil _))⟩ rfl ?_
       rotate_left
       · skip
         exact ah rfl rfl (ax rfl rfl rfl (ae (Piece.mk rfl rfl (.cons rfl (.nil _)) (fun _ h => h))))
       refine triL_nilN (aE rfl (fun q3 => ?_) (fun q3 => ?_))
       · skip
         refine ab (aa (o_assignN rfl rfl (ap (an (aT rfl rfl ?_))))); exact fun w1 hw1 => ⟨congrArg (fun b => Ending.returned (.int .i64 b)) (by (try simp only [Bool.or_eq_true,decide_eq_true_eq] at *); unfold flr; (repeat' split) <;> omega),hw1.chg⟩
       · skip
         refine am (ag (ab (ab (aa (ah rfl rfl (ax rfl rfl rfl (ah rfl rfl ?_)))))))
         refine' aQ [_,_] [(0,_)] (dj := 21) (dr := 23) rfl rfl (fun g3 => ?_) ⟨_,rfl,rfl,rfl,(.cons rfl (.nil _))⟩ rfl ?_
         rotate_left
         · skip
           exact ah rfl rfl (ax rfl rfl rfl (ae (Piece.mk rfl rfl (.cons rfl (.nil _)) (fun _ h => h))))
         refine ah rfl rfl ?_
         refine' aQ [_,_] [(0,_)] (dj := 25) (dr := 27) rfl rfl (fun g4 => ?_) ⟨_,rfl,rfl,rfl,(.cons rfl (.nil _))⟩ rfl ?_
         rotate_left
         · skip
           exact ah rfl rfl (ax rfl rfl rfl (ae (Piece.mk rfl rfl (.cons rfl (.nil _)) (fun _ h => h))))
         refine triL_nilN (aE rfl (fun q4 => ?_) (fun q4 => ?_))
         · skip
           refine ab (aa (o_assignN rfl rfl (ap (an (aT rfl rfl ?_))))); exact fun w1 hw1 => ⟨congrArg (fun b => Ending.returned (.int .i64 b)) (by (try simp only [Bool.or_eq_true,Bool.or_eq_false_iff,decide_eq_true_eq,decide_eq_false_iff_not] at *); unfold flr; (repeat' split) <;> omega),hw1.chg⟩
         · skip
           refine am (ag (ab (ab (aa (ah rfl rfl (ax rfl rfl rfl (triL_nilN (ar rfl (fun q5 => ?_) (fun q5 => ?_)))))))))
           · skip
             refine ab (az [] (.nil _) (aa (o_assignN rfl rfl (ap (an (aT rfl rfl ?_)))))); exact fun w1 hw1 => ⟨congrArg (fun b => Ending.returned (.int .i64 b)) (by (try simp only [Bool.or_eq_false_iff,decide_eq_false_iff_not] at *); unfold flr; (repeat' split) <;> omega),hw1.chg⟩
           · skip
             refine am (ag (ab (ab (aa (ah rfl rfl (ax rfl rfl rfl (triL_nilN (ar rfl (fun q6 => ?_) (fun q6 => ?_)))))))))
             · skip
               refine ab (az [] (.nil _) (aa (o_assignN rfl rfl (ap (an (aT rfl rfl ?_)))))); exact fun w1 hw1 => ⟨congrArg (fun b => Ending.returned (.int .i64 b)) (by (try simp only [Bool.or_eq_false_iff,decide_eq_false_iff_not] at *); unfold flr; (repeat' split) <;> omega),hw1.chg⟩
             · skip
               refine am (ag (ab (az [] (.nil _) (aa (o_assignN rfl rfl (ap (aT rfl rfl ?_))))))); exact fun w1 hw1 => ⟨congrArg (fun b => Ending.returned (.int .i64 b)) (by (try simp only [Bool.or_eq_false_iff,decide_eq_false_iff_not] at *); unfold flr; (repeat' split) <;> omega),hw1.chg⟩
theorem orderD (o : Int) (w : World) (ho : 8 ≤ o ∧ o ≤ 21) : Calls Tryz.prog 79 #[.int .i64 o] w (bX w (.int .i64 (o - 8))) := by
 refine ay (args := [.int .i64 o]) (lent := []) (H := []) Tryz.func79 rfl Tryz.ntmps79 rfl (Sat.start _ _ _ _) ((show Tri _ [(0,_)] _ _ _ from ab (aa (o_assignN rfl rfl (ab (aa (ah rfl rfl (jW rfl rfl rfl (by (try simp only [List.length_append,List.length_cons,List.length_nil]); omega) (o_assignN rfl rfl (ap (aT rfl rfl ?_))))))))))); exact fun w1 hw1 => ⟨rfl,hw1.chg⟩
theorem opsD  (w : World)  : Calls Tryz.prog 78 #[] w (js id w 9 1 14 (dm opsL)) := by
 exact ay (args := []) (lent := []) (H := []) Tryz.func78 rfl Tryz.ntmps78 rfl (Sat.start _ _ _ _) ((show Tri _ [] _ _ _ from ab (aa (o_assignN rfl rfl (ab (aa (ee (parts := [_,_,_,_,_,_,_,_,_,_,_,_,_,_]) (dm opsL) Tryz.underlying23 zs9 rfl rfl rfl rfl (by decide) (by decide) (fun b1 => o_assignN rfl rfl (ap (aT rfl rfl (lJ id .z)))))))))))
theorem tJ {a b : Ex} {i : Nat} (h : ∀ j,j < i → a.as.getD j Ex.zero = b.as.getD j Ex.zero) (h1 : a.as.getD i Ex.zero = b.as.getD i Ex.zero) : ∀ j,j < i + 1 → a.as.getD j Ex.zero = b.as.getD j Ex.zero := fun j hj => by
 rcases Nat.lt_or_ge j i with h2 | h2
 · exact h j h2
 · have e : j = i := by omega
   rw [e]; exact h1
def SX (a : Ex) : Prop := ∀ (b : Ex) (cs ds : List Value) (w : World),ExC w a cs → ExC w b ds → a.size ≤ 70368744177664 → Calls Tryz.prog 17 #[.agg cs.toArray,.agg ds.toArray] w (bX w (.bool (decide (a = b))))
set_option maxHeartbeats 1000000 in
theorem sameStep (a b : Ex) (y z : SL) (xa xb : List Value) (w : World) (h1 : Rd w y.A xa) (h2 : ExsC w a.as xa) (h3 : Rd w z.A xb) (h4 : ExsC w b.as xb) (hz : a.size ≤ 70368744177664) (ih : ∀ i,i < a.as.length → SX (a.as.getD i Ex.zero)) : Calls Tryz.prog 17 #[.agg (bA a y).toArray,.agg (bA b z).toArray] w (bX w (.bool (decide (a = b)))) := by
 refine ay (args := [.agg (bA a y).toArray,.agg (bA b z).toArray]) (lent := []) (H := []) Tryz.func17 rfl Tryz.ntmps17 rfl (Sat.start _ _ _ _) ((show Tri _ [(0,_),(1,_)] _ _ _ from ?_))
 have hRa : ∀ cx H,cx.w0 = w → cx.lent = [] → RdS cx H y.A _ := fun cx H q1 q2 => RdS.lent (by rw [q1]; exact h1) (fun b hb => by rw [q2]; simp)
 have hRb : ∀ cx H,cx.w0 = w → cx.lent = [] → RdS cx H z.A _ := fun cx H q1 q2 => RdS.lent (by rw [q1]; exact h3) (fun b hb => by rw [q2]; simp)
 have hxa := h2.len
 have hxb := h4.len
 have hal := as_len (e := a)
 refine ab (aa (bY _ rfl rfl rfl (fun b2 => bY _ rfl rfl rfl (fun b3 => o_assignN rfl rfl (ab (ab (aa (aj bT rfl rfl (ak bz N1 rfl rfl rfl (aj bT rfl rfl (ak bz N0 rfl rfl rfl (cB rfl rfl rfl (ah rfl rfl ?_)))))))))))))
 refine' aQ [_,_,_,_,_] [(3,_),(2,_)] (dj := 11) (dr := 16) rfl rfl (fun g1 => ?_) ⟨_,rfl,rfl,rfl,(.cons rfl (.cons rfl (.nil _)))⟩ rfl ?_
 rotate_left
 · skip
   exact aj gb rfl rfl (aC hY jJ (.s .z) rfl rfl (vs := Val.cs a.v) rfl rfl (aj gb rfl rfl (aC hY jJ .z rfl rfl (vs := Val.cs b.v) rfl rfl (o_neqV oI rfl rfl rfl (ae (Piece.mk rfl rfl (.cons rfl (.cons rfl (.nil _))) (fun _ h => h)))))))
 refine ah rfl rfl ?_
 refine' aQ [_,_,_,_,_] [(3,_),(2,_)] (dj := 18) (dr := 23) rfl rfl (fun g2 => ?_) ⟨_,rfl,rfl,rfl,(.cons rfl (.cons rfl (.nil _)))⟩ rfl ?_
 rotate_left
 · skip
   exact aj eL rfl rfl (ak bd N1 rfl rfl rfl (aj eL rfl rfl (ak bd N0 rfl rfl rfl (cY rfl rfl rfl (ae (Piece.mk rfl rfl (.cons rfl (.cons rfl (.nil _))) (fun _ h => h)))))))
 refine ah rfl rfl ?_
 refine' aQ [_,_,_,_,_] [(3,_),(2,_)] (dj := 25) (dr := 30) rfl rfl (fun g3 => ?_) ⟨_,rfl,rfl,rfl,(.cons rfl (.cons rfl (.nil _)))⟩ rfl ?_
 rotate_left
 · skip
   exact aj fk rfl rfl (ak bd N1 rfl rfl rfl (aj fk rfl rfl (ak bd N0 rfl rfl rfl (cY rfl rfl rfl (ae (Piece.mk rfl rfl (.cons rfl (.cons rfl (.nil _))) (fun _ h => h)))))))
 refine ah rfl rfl ?_
 refine' aQ [_,_,_,_,_] [(3,_),(2,_)] (dj := 32) (dr := 37) rfl rfl (fun g4 => ?_) ⟨_,rfl,rfl,rfl,(.cons rfl (.cons rfl (.nil _)))⟩ rfl ?_
 rotate_left
 · skip
   exact aj oK rfl rfl (ak bz N1 rfl rfl rfl (aj oK rfl rfl (ak bz N0 rfl rfl rfl (cB rfl rfl rfl (ae (Piece.mk rfl rfl (.cons rfl (.cons rfl (.nil _))) (fun _ h => h)))))))
 refine ah rfl rfl ?_
 refine' aQ [_,_,_,_,_,_,_] [(3,_),(2,_)] (dj := 39) (dr := 46) rfl rfl (fun g5 => ?_) ⟨_,rfl,rfl,rfl,(.cons rfl (.cons rfl (.nil _)))⟩ rfl ?_
 rotate_left
 · skip
   exact aj cK rfl rfl (ak cM N1 rfl rfl rfl (aN Tryz.underlying28 rfl rfl (aj cK rfl rfl (ak cM N0 rfl rfl rfl (aN Tryz.underlying28 rfl rfl (cB rfl rfl rfl (ae (Piece.mk rfl rfl (.cons rfl (.cons rfl (.nil _))) (fun _ h => h)))))))))
 refine triL_nilN (aE rfl (fun q0 => ?_) (fun q0 => ?_))
 · skip
   refine ab (aa (o_assignN rfl rfl (ap (an (aT rfl rfl ?_))))); exact fun w1 hw1 => ⟨congrArg (fun b => Ending.returned (.bool b)) (by exact (decide_eq_false (ex_ne q0)).symm),hw1.chg⟩
 · skip
   have hlen := ex_len q0
   refine am (ag (ab (ab (aa (o_assignN rfl rfl (aw (bf (ι := Nat) (F := fun i => [(2,.pointer (some ⟨b2,0,none⟩)),(3,.pointer (some ⟨b3,0,none⟩)),(5,.int .i64 (i : Int))]) (HH := fun i => [box b3 30 (bA b z),box b2 30 (bA a y)]) (Pu := fun i => i ≤ a.as.length ∧ ∀ j,j < i → a.as.getD j Ex.zero = b.as.getD j Ex.zero) (μ := fun i => a.as.length - i) (0) (.cons rfl (.cons rfl (.cons rfl (.nil _)))) (fun _ h => h) (⟨Nat.zero_le _,fun j hj => absurd hj (by omega)⟩) (fun i hi => ab (ab (aa (ah rfl rfl (aj cK rfl rfl (ak cM N1 rfl rfl rfl (aN Tryz.underlying28 rfl rfl (bK rfl rfl rfl (triL_nilN (ar rfl (fun q1 => ?_) (fun q1 => ?_))))))))))))))))))
   · skip
     have hil : i < a.as.length := by omega
     refine am (ag (ab (aw (ab (tri_slo [(2,_),(3,_),(5,_)] rfl ?_)))))
     obtain ⟨ca,hca,hka⟩ := ExsC.at i h2 hil
     obtain ⟨cb,hcb,hkb⟩ := ExsC.at i h4 (by omega)
     refine bj (_) [(0,true),(1,true),(2,true),(3,true),(4,true),(5,true),(6,true),(7,true),(8,true),(9,true),(10,false),(11,false)] [10,11] (by kernel_rfl) (by kernel_rfl) (fun _ h => h) (ai rfl (aj cK rfl rfl (ae ⟨rfl,ai rfl (ak cM N1 rfl rfl rfl (ae ⟨rfl,ai rfl (ah rfl rfl (ae ⟨rfl,ai rfl (aL Tryz.underlying28 aV rfl rfl rfl (hRa _ _ rfl rfl) (by (try simp only [List.length_append,List.length_cons,List.length_nil]); omega) (by (try simp only [List.length_append,List.length_cons,List.length_nil]); omega) (by omega) (by decide) (ae ⟨rfl,ai rfl (bo aW aV rfl rfl (hRa _ _ rfl rfl) (vs := ca) hca hka.len (by decide) (ae ⟨rfl,ai rfl (aj cK rfl rfl (ae ⟨rfl,ai rfl (ak cM N0 rfl rfl rfl (ae ⟨rfl,ai rfl (ah rfl rfl (ae ⟨rfl,ai rfl (aL Tryz.underlying28 aV rfl rfl rfl (hRb _ _ rfl rfl) (by (try simp only [List.length_append,List.length_cons,List.length_nil]); omega) (by (try simp only [List.length_append,List.length_cons,List.length_nil]); omega) (by omega) (by decide) (ae ⟨rfl,ai rfl (bo aW aV rfl rfl (hRb _ _ rfl rfl) (vs := cb) hcb hkb.len (by decide) (ae ⟨rfl,(bu [10,11] [_,_] rfl rfl (av (first := []) (cap := []) rfl rfl rfl Tryz.call17 (fun w1 h1 => ih i hil _ ca cb w1 (ExC.chg h1.chg _ _ hka) (ExC.chg h1.chg _ _ hkb) (by have := lN (e := a) hil; omega)) (cu rfl rfl (ae ⟨rfl,(ag (aE rfl (fun q2 => ?_) (fun q2 => ?_)))⟩))))⟩))⟩))⟩))⟩))⟩))⟩))⟩))⟩))⟩))⟩)))
     · skip
       have q2 := ci q2
       refine ab (az [] (.nil _) (aa (o_assignN rfl rfl (ap (aq (an (an (aq (an (aT rfl rfl ?_)))))))))); exact fun w1 hw1 => ⟨congrArg (fun b => Ending.returned (.bool b)) (by exact (decide_eq_false (fun e => (of_decide_eq_false q2) (by rw [e]))).symm),hw1.chg⟩
     · skip
       have q2 := bU q2
       exact am (ao (ag (tri_slo [(2,_),(3,_),(5,_)] rfl (aa (ah rfl rfl (bn rfl rfl rfl (by (try simp only [List.length_append,List.length_cons,List.length_nil]); omega) (o_assignN rfl rfl (⟨i + 1,(.cons rfl (.cons rfl (.cons rfl (.nil _)))),fun _ h => h,⟨by omega,fun j hj => tJ hi.2 (of_decide_eq_true q2) j hj⟩,by omega⟩))))))))
   · skip
     refine aS (au (au (aG (ag (ab (az [] (.nil _) (aa (o_assignN rfl rfl (ap (aT rfl rfl ?_)))))))))); exact fun w1 hw1 => ⟨congrArg (fun b => Ending.returned (.bool b)) (by exact (decide_eq_true (ex_eq q0 (fun j hj => hi.2 j (by omega)))).symm),hw1.chg⟩
end Go.Proofs.YtjbpkcbefmpfgaaGreatDoor
namespace Go.Proofs.YtjbpkcbefmpfgaaGreatDoor
open Go.WK Go.RowKit 
theorem sameAll : ∀ (n : Nat) (a : Ex),a.size < n → SX a := by
 intro n
 induction n with
 | zero => intro a h; omega
 | succ n ih =>
  intro a hs b cs ds w ha hb hz
  obtain ⟨y,xa,rfl,_,h1,h2⟩ := exC_R ha
  obtain ⟨z,xb,rfl,_,h3,h4⟩ := exC_R hb
  exact sameStep a b y z xa xb w h1 h2 h3 h4 hz (fun i hi => ih _ (by have := lN (e := a) hi; omega))
theorem jT (a b : Ex) (cs ds : List Value) (w : World) (ha : ExC w a cs) (hb : ExC w b ds) (hz : a.size ≤ 70368744177664) : Calls Tryz.prog 17 #[.agg cs.toArray,.agg ds.toArray] w (bX w (.bool (decide (a = b)))) := sameAll (a.size + 1) a (by omega) b cs ds w ha hb hz
theorem leafC (w : World) (o : Int) (v : Val) (t n : List UInt8) (c : Int) : ExC w (.mk o v t n c []) (bA (.mk o v t n c []) SL.nil) := ⟨none,0,[],rfl,Nat.le_refl _,Rd.nil _ _,rfl⟩
theorem im {a b : List UInt8} {x y : Int} (h1 : a = b) (h2 : x = y) : Ending.returned (.tuple #[.string (B a),.int .i64 x]) = Ending.returned (.tuple #[.string (B b),.int .i64 y]) := by rw [h1,h2]
theorem exC_op {w : World} {e : Ex} {cs : List Value} (h : ExC w e cs) : cs[0]? = some (.int .i64 e.o) := by
 obtain ⟨y,xs,rfl,_⟩ := exC_R h
 rfl
def DX (e : Ex) : Prop := ∀ (low : Int) (cs : List Value) (w : World),ExC w e cs → LV w → (e.txt low).1.length ≤ 70368744177664 → Calls Tryz.prog 42 #[.agg cs.toArray,.int .i64 low] w (bX w (.tuple #[.string (B (e.txt low).1),.int .i64 ((e.txt low).2 : Int)]))
set_option maxHeartbeats 1000000 in
theorem tK (o cc : Int) (v : Val) (t n : List UInt8) (al : List Ex) (Ax : Option Addr) (kx : Nat) (xs : List Value) (low : Int) (w : World) (_ : al.length ≤ kx) (hxr : Rd w Ax xs) (hxs : ExsC w al xs) (hL : LV w) (hd : (Ex.txt (.mk o v t n cc al) low).2 ≤ 70368744177664) (hb : (Ex.txt (.mk o v t n cc al) low).1.length ≤ 70368744177664) (hlow : ¬ lvl o < low) (hof : o = 1 → fit v) (har : 4 ≤ o → o ≤ 7 → al.length = 1) (har2 : 8 ≤ o → al.length = 2) (hor : 1 ≤ o ∧ o ≤ 21 ∧ o ≠ 3) (ih : ∀ i,i < al.length → DX (al.getD i Ex.zero)) : Calls Tryz.prog 42 #[.agg ([.int .i64 o,.int .i64 v.k,.int .i64 v.n,.string (B v.s),.string (B t),.string (B n),.int .i64 cc,.slice Ax al.length kx] : List Value).toArray,.int .i64 low] w (bX w (.tuple #[.string (B (Ex.txt (.mk o v t n cc al) low).1),.int .i64 ((Ex.txt (.mk o v t n cc al) low).2 : Int)])) := by
 refine ay (args := [.agg ([.int .i64 o,.int .i64 v.k,.int .i64 v.n,.string (B v.s),.string (B t),.string (B n),.int .i64 cc,.slice Ax al.length kx] : List Value).toArray,.int .i64 low]) (lent := []) (H := []) Tryz.func42 rfl Tryz.ntmps42 rfl (Sat.start _ _ _ _) ((show Tri _ [(0,_),(1,_)] _ _ _ from ?_))
 have hl8 := kb o
 have hR : ∀ cx H,cx.w0 = w → cx.lent = [] → RdS cx H Ax xs := fun cx H q1 q2 => RdS.lent (by rw [q1]; exact hxr) (fun b hb => by rw [q2]; simp)
 have hxl := hxs.len
 refine ab (aa (bY _ rfl rfl rfl (fun b2 => aB rfl rfl (o_assignN rfl rfl (ab (aa (aj bT rfl rfl (ak bz N0 rfl rfl rfl (av (first := []) (cap := []) rfl rfl rfl Tryz.call76 (fun w1 h1 => floorK o w1) ?_)))))))))
 rw [sd hor]
 refine o_assignN rfl rfl (ab (ab (tri_slo [(6,_),(2,_),(1,_)] rfl (aa (ah rfl rfl (ah rfl rfl (bK rfl rfl rfl (triL_nilN (ar rfl (fun q0 => ?_) (fun q0 => ?_))))))))))
 · skip
   exact absurd q0 hlow
 · skip
   refine am (ag (ab (ab (tri_slo [(6,_),(2,_)] rfl (aa (aj bT rfl rfl (ak bz N0 rfl rfl rfl (ax rfl rfl rfl (triL_nilN (ar rfl (fun q1 => ?_) (fun q1 => ?_)))))))))))
   · skip
     rw [cU hlow,core_1 q1] at hd hb ⊢
     simp only at hd hb ⊢
     refine ab (tri_slo [(2,_)] rfl (aa (aj gb rfl rfl (aC hY jJ .z rfl rfl (vs := Val.cs v) rfl rfl (av (first := []) (cap := []) rfl rfl rfl Tryz.call77 (fun w1 h1 => printR v w1 (hof q1)) (ah rfl rfl (aX rfl rfl rfl (aX rfl rfl rfl (aB rfl rfl (o_assignN rfl rfl (ab (tri_slo [(9,_)] rfl (aa (ah rfl rfl (aB rfl rfl (o_assignN rfl rfl (ap (an (dA rfl rfl rfl ?_))))))))))))))))))); exact fun w1 hw1 => ⟨im (by rfl) (by rfl),hw1.chg⟩
   · skip
     refine am (ag (ab (ab (aa (aj bT rfl rfl (ak bz N0 rfl rfl rfl (ax rfl rfl rfl (ah rfl rfl ?_))))))))
     refine' aA [_,_,_] [(6,_),(2,_)] (dj := 51) (dr := 54) rfl rfl (fun g1 => ?_) ⟨_,rfl,rfl,rfl,(.cons rfl (.cons rfl (.nil _)))⟩ rfl ?_
     rotate_left
     · skip
       exact aj eL rfl rfl (ak bd N0 rfl rfl rfl (cY rfl rfl rfl (ae (Piece.mk rfl rfl (.cons rfl (.cons rfl (.nil _))) (fun _ h => h)))))
     refine triL_nilN (aE rfl (fun q2 => ?_) (fun q2 => ?_))
     · skip
       simp only [Bool.and_eq_true,decide_eq_true_eq] at q2
       rw [cU hlow,qO q2.1,if_neg q2.2] at hd hb ⊢
       simp only at hd hb ⊢
       refine ab (aa (aj eL rfl rfl (ak bd N0 rfl rfl rfl (cD rfl rfl rfl (by (try simp only [List.length_append,List.length_cons,List.length_nil] at hb ⊢); omega) (aj fk rfl rfl (ak bd N0 rfl rfl rfl (cD rfl rfl rfl (by (try simp only [List.length_append,List.length_cons,List.length_nil] at hb ⊢); omega) (aB rfl rfl (o_assignN rfl rfl (ap (an (dA rfl rfl rfl ?_)))))))))))); exact fun w1 hw1 => ⟨im (by simp) (by omega),hw1.chg⟩
     · skip
       refine am (ag (ab (ab (aa (aj bT rfl rfl (ak bz N0 rfl rfl rfl (ax rfl rfl rfl (triL_nilN (ar rfl (fun q3 => ?_) (fun q3 => ?_))))))))))
       · skip
         have ht : t = [] := by simpa [q3] using q2
         rw [cU hlow,qO q3,if_pos ht] at hd hb ⊢
         simp only at hd hb ⊢
         refine ab (tri_slo [(2,_)] rfl (aa (aj fk rfl rfl (ak bd N0 rfl rfl rfl (aB rfl rfl (o_assignN rfl rfl (ap (an (dA rfl rfl rfl ?_))))))))); exact fun w1 hw1 => ⟨im (by rfl) (by rfl),hw1.chg⟩
       · skip
         refine am (ag (ab (ab (tri_slo [(6,_),(2,_)] rfl (aa (aj bT rfl rfl (ak bz N0 rfl rfl rfl (ax rfl rfl rfl (triL_nilN (ar rfl (fun q4 => ?_) (fun q4 => ?_)))))))))))
         · skip
           have hal : al.length = 1 := har (by omega) (by omega)
           obtain ⟨cs0,hc0,hk0⟩ := ExsC.at 0 hxs (by omega)
           rw [cU hlow,core_5 q4 (by omega)] at hd hb ⊢
           simp only at hd hb ⊢
           refine ab (tri_slo [(2,_)] rfl (aa (aj cK rfl rfl (ak cM N0 rfl rfl rfl (aL Tryz.underlying28 aV rfl rfl rfl (hR _ _ rfl rfl) (by (try simp only [List.length_append,List.length_cons,List.length_nil] at hb ⊢); omega) (by (try simp only [List.length_append,List.length_cons,List.length_nil] at hb ⊢); omega) (by omega) (by decide) (bo aW aV rfl rfl (hR _ _ rfl rfl) (vs := cs0) hc0 hk0.len (by decide) (av (first := []) (cap := []) rfl rfl rfl Tryz.call42 (fun w1 h1 => ih 0 (by omega) 3 cs0 w1 (ExC.chg h1.chg _ _ hk0) (hL.chg h1.chg) (by simp only [List.length_append,List.length_cons,List.length_nil] at hb ⊢; omega)) (ah rfl rfl (aX rfl rfl rfl (aX rfl rfl rfl (aB rfl rfl (o_assignN rfl rfl (ab (tri_slo [(12,_),(11,_)] rfl (aa (ah rfl rfl (cD rfl rfl rfl (by (try simp only [List.length_append,List.length_cons,List.length_nil] at hb ⊢); omega) (ah rfl rfl (bn rfl rfl rfl (by (try simp only [List.length_append,List.length_cons,List.length_nil] at hb ⊢); omega) (aB rfl rfl (o_assignN rfl rfl (ap (an (dA rfl rfl rfl ?_)))))))))))))))))))))))); exact fun w1 hw1 => ⟨im (by simp) (by omega),hw1.chg⟩
         · skip
           refine am (ag (ab (ab (aa (aj bT rfl rfl (ak bz N0 rfl rfl rfl (ax rfl rfl rfl (triL_nilN (ar rfl (fun q5 => ?_) (fun q5 => ?_))))))))))
           · skip
             have hal : al.length = 1 := har (by omega) (by omega)
             obtain ⟨cs0,hc0,hk0⟩ := ExsC.at 0 hxs (by omega)
             rw [cU hlow,core_4 q5 (by omega)] at hd hb ⊢
             simp only at hd hb ⊢
             refine ab (tri_slo [(2,_)] rfl (aa (aj cK rfl rfl (ak cM N0 rfl rfl rfl (aL Tryz.underlying28 aV rfl rfl rfl (hR _ _ rfl rfl) (by (try simp only [List.length_append,List.length_cons] at hb ⊢); omega) (by (try simp only [List.length_append,List.length_cons] at hb ⊢); omega) (by omega) (by decide) (bo aW aV rfl rfl (hR _ _ rfl rfl) (vs := cs0) hc0 hk0.len (by decide) (av (first := []) (cap := []) rfl rfl rfl Tryz.call42 (fun w1 h1 => ih 0 (by omega) 7 cs0 w1 (ExC.chg h1.chg _ _ hk0) (hL.chg h1.chg) (by simp only [List.length_append,List.length_cons] at hb ⊢; omega)) (ah rfl rfl (aX rfl rfl rfl (aX rfl rfl rfl (aB rfl rfl (o_assignN rfl rfl (ab (ab (tri_slo [(14,_),(13,_),(2,_)] rfl (aa (aj cK rfl rfl (ak cM N0 rfl rfl rfl (aL Tryz.underlying28 aV rfl rfl rfl (hR _ _ rfl rfl) (by (try simp only [List.length_append,List.length_cons] at hb ⊢); omega) (by (try simp only [List.length_append,List.length_cons] at hb ⊢); omega) (by omega) (by decide) (aJ bT rfl rfl (hR _ _ rfl rfl) (fb hc0 (exC_op hk0)) (aH bz rfl rfl (hR _ _ rfl rfl) (fb hc0 (exC_op hk0)) (ax rfl rfl rfl (triL_nilN (ar rfl (fun q6 => ?_) (fun q6 => ?_)))))))))))))))))))))))))
             · skip
               rw [if_pos q6] at hb ⊢
               refine tri_slo [(14,_),(13,_)] rfl (aa (ah rfl rfl (cD rfl rfl rfl (by (try simp only [List.length_append,List.length_cons,List.length_nil] at hb ⊢); omega) (o_assignN rfl rfl (ab (aa (ah rfl rfl (cD rfl rfl rfl (by (try simp only [List.length_append,List.length_cons,List.length_nil] at hb ⊢); omega) (ah rfl rfl (bn rfl rfl rfl (by (try simp only [List.length_append,List.length_cons,List.length_nil] at hb ⊢); omega) (aB rfl rfl (o_assignN rfl rfl (ap (an (dA rfl rfl rfl ?_))))))))))))))); exact fun w1 hw1 => ⟨im (by simp) (by omega),hw1.chg⟩
             · skip
               rw [if_neg q6] at hb ⊢
               refine am (ag (ab (tri_slo [(14,_),(13,_)] rfl (aa (ah rfl rfl (cD rfl rfl rfl (by (try simp only [List.length_append,List.length_cons,List.length_nil] at hb ⊢); omega) (ah rfl rfl (bn rfl rfl rfl (by (try simp only [List.length_append,List.length_cons,List.length_nil] at hb ⊢); omega) (aB rfl rfl (o_assignN rfl rfl (ap (an (dA rfl rfl rfl ?_))))))))))))); exact fun w1 hw1 => ⟨im (by simp) (by omega),hw1.chg⟩
           · skip
             refine am (ag (ab (ab (tri_slo [(6,_),(2,_)] rfl (aa (aj bT rfl rfl (ak bz N0 rfl rfl rfl (ax rfl rfl rfl (ah rfl rfl ?_)))))))))
             refine' aQ [_,_,_] [(6,_),(2,_)] (dj := 108) (dr := 111) rfl rfl (fun g2 => ?_) ⟨_,rfl,rfl,rfl,(.cons rfl (.cons rfl (.nil _)))⟩ rfl ?_
             rotate_left
             · skip
               exact aj bT rfl rfl (ak bz N0 rfl rfl rfl (ax rfl rfl rfl (ae (Piece.mk rfl rfl (.cons rfl (.cons rfl (.nil _))) (fun _ h => h)))))
             refine triL_nilN (aE rfl (fun q7 => ?_) (fun q7 => ?_))
             · skip
               simp only [Bool.or_eq_true,decide_eq_true_eq] at q7
               have hal : al.length = 1 := har (by omega) (by omega)
               obtain ⟨cs0,hc0,hk0⟩ := ExsC.at 0 hxs (by omega)
               have h67 : (Ex.txt (.mk o v t n cc al) low) = (((al.getD 0 Ex.zero).txt 5).1 ++ (if o = 6 then [32,105,115,32,110,117,108,108] else [32,105,115,32,110,111,116,32,110,117,108,108]),((al.getD 0 Ex.zero).txt 5).2) := by
                rw [cU hlow]
                rcases q7 with h | h
                · rw [core_6 h (by omega),if_pos h]
                · rw [core_7 h (by omega),if_neg (by omega)]
               rw [h67] at hd hb ⊢
               simp only at hd hb ⊢
               refine ab (aa (aj cK rfl rfl (ak cM N0 rfl rfl rfl (aL Tryz.underlying28 aV rfl rfl rfl (hR _ _ rfl rfl) (by (try simp only [List.length_append] at hb ⊢); omega) (by (try simp only [List.length_append] at hb ⊢); omega) (by omega) (by decide) (bo aW aV rfl rfl (hR _ _ rfl rfl) (vs := cs0) hc0 hk0.len (by decide) (av (first := []) (cap := []) rfl rfl rfl Tryz.call42 (fun w1 h1 => ih 0 (by omega) 5 cs0 w1 (ExC.chg h1.chg _ _ hk0) (hL.chg h1.chg) (by simp only [List.length_append] at hb ⊢; omega)) (ah rfl rfl (aX rfl rfl rfl (aX rfl rfl rfl (aB rfl rfl (o_assignN rfl rfl (ab (ab (tri_slo [(16,_),(15,_),(2,_)] rfl (aa (aj bT rfl rfl (ak bz N0 rfl rfl rfl (ax rfl rfl rfl (triL_nilN (ar rfl (fun q8 => ?_) (fun q8 => ?_)))))))))))))))))))))
               · skip
                 rw [if_pos q8] at hb ⊢
                 refine ab (tri_slo [(16,_),(15,_)] rfl (aa (ah rfl rfl (cD rfl rfl rfl (by (try simp only [List.length_append,List.length_cons,List.length_nil] at hb ⊢); omega) (ah rfl rfl (aB rfl rfl (o_assignN rfl rfl (ap (an (an (dA rfl rfl rfl ?_))))))))))); exact fun w1 hw1 => ⟨im (by simp) (by rfl),hw1.chg⟩
               · skip
                 rw [if_neg q8] at hb ⊢
                 refine am (ag (ab (tri_slo [(16,_),(15,_)] rfl (aa (ah rfl rfl (cD rfl rfl rfl (by (try simp only [List.length_append,List.length_cons,List.length_nil] at hb ⊢); omega) (ah rfl rfl (aB rfl rfl (o_assignN rfl rfl (ap (an (dA rfl rfl rfl ?_)))))))))))); exact fun w1 hw1 => ⟨im (by simp) (by rfl),hw1.chg⟩
             · skip
               simp only [Bool.or_eq_false_iff,decide_eq_false_iff_not] at q7
               have ho8 : 8 ≤ o := by omega
               have hal : al.length = 2 := har2 ho8
               obtain ⟨cs0,hc0,hk0⟩ := ExsC.at 0 hxs (by omega)
               obtain ⟨cs1,hc1,hk1⟩ := ExsC.at 1 hxs (by omega)
               rw [cU hlow,core_b (by omega) (by omega) (by omega) (by omega) (by omega) (by omega) (by omega)] at hd hb ⊢
               simp only at hd hb ⊢
               refine am (ag (ab (aa (ah rfl rfl (o_assignN rfl rfl (br (ι := Nat) (fun i => [(2,.pointer (some ⟨b2,0,none⟩)),(6,.int .i64 (lvl o)),(17,.int .i64 (if lvl o = 4 then 5 else lvl o))]) (fun i => [box b2 30 ([.int .i64 o,.int .i64 v.k,.int .i64 v.n,.string (B v.s),.string (B t),.string (B n),.int .i64 cc,.slice Ax al.length kx] : List Value)]) (fun i => True) ?_ (fun i hj => ?_)))))))
               · skip
                 refine ab (aa (ah rfl rfl (ax rfl rfl rfl (triL_nilN (ar rfl (fun q9 => ?_) (fun q9 => ?_))))))
                 · skip
                   exact tri_slo [(6,_),(2,_)] rfl (aa (o_assignN rfl rfl (⟨0,(.cons rfl (.cons rfl (.cons (by rw [if_pos q9]; rfl) (.nil _)))),fun _ h => h,trivial⟩)))
                 · skip
                   exact am (ag (⟨0,(.cons rfl (.cons rfl (.cons (by rw [if_neg q9]; rfl) (.nil _)))),fun _ h => h,trivial⟩))
               refine ab (aa (aj cK rfl rfl (ak cM N0 rfl rfl rfl (aL Tryz.underlying28 aV rfl rfl rfl (hR _ _ rfl rfl) (by (try simp only [List.length_append,List.length_cons,List.length_nil] at hb ⊢); omega) (by (try simp only [List.length_append,List.length_cons,List.length_nil] at hb ⊢); omega) (by omega) (by decide) (bo aW aV rfl rfl (hR _ _ rfl rfl) (vs := cs0) hc0 hk0.len (by decide) (ah rfl rfl (av (first := []) (cap := []) rfl rfl rfl Tryz.call42 (fun w1 h1 => ih 0 (by omega) (if lvl o = 4 then 5 else lvl o) cs0 w1 (ExC.chg h1.chg _ _ hk0) (hL.chg h1.chg) (by simp only [List.length_append,List.length_cons,List.length_nil] at hb ⊢; omega)) (ah rfl rfl (aX rfl rfl rfl (aX rfl rfl rfl (aB rfl rfl (o_assignN rfl rfl (ab (tri_slo [(19,_),(18,_),(2,_),(6,_)] rfl (aa (aj cK rfl rfl (ak cM N0 rfl rfl rfl (aL Tryz.underlying28 aV rfl rfl rfl (hR _ _ rfl rfl) (by (try simp only [List.length_append,List.length_cons,List.length_nil] at hb ⊢); omega) (by (try simp only [List.length_append,List.length_cons,List.length_nil] at hb ⊢); omega) (by omega) (by decide) (bo aW aV rfl rfl (hR _ _ rfl rfl) (vs := cs1) hc1 hk1.len (by decide) (ah rfl rfl (bn rfl rfl rfl (by (try simp only [List.length_append,List.length_cons,List.length_nil] at hb ⊢); omega) (av (first := []) (cap := []) rfl rfl rfl Tryz.call42 (fun w1 h1 => ih 1 (by omega) (lvl o + 1) cs1 w1 (ExC.chg h1.chg _ _ hk1) (hL.chg h1.chg) (by simp only [List.length_append,List.length_cons,List.length_nil] at hb ⊢; omega)) (ah rfl rfl (aX rfl rfl rfl (aX rfl rfl rfl (aB rfl rfl (o_assignN rfl rfl (ab (tri_slo [(21,_),(20,_),(19,_),(18,_),(2,_)] rfl (bj (_) [(0,true),(1,true),(3,true),(4,true),(10,true),(12,true),(13,true),(14,true),(2,false),(5,false),(6,false),(7,false),(8,true),(9,true),(11,true),(15,true),(16,false)] [16] (by kernel_rfl) (by kernel_rfl) (fun _ h => h) (ai rfl (ah rfl rfl (ae ⟨rfl,ai rfl (cD rfl rfl rfl (by (try simp only [List.length_append,List.length_cons,List.length_nil] at hb ⊢); omega) (ae ⟨rfl,ai rfl (aj bT rfl rfl (ae ⟨rfl,ai rfl (ak bz N0 rfl rfl rfl (ae ⟨rfl,ai rfl (ah rfl rfl ?_)⟩))⟩))⟩))⟩))))))))))))))))))))))))))))))))); refine ae ⟨rfl,ai rfl (ah rfl rfl (ae ⟨rfl,ai rfl (ah rfl rfl (ae ⟨rfl,ai rfl (o_max rfl rfl rfl (ae ⟨rfl,(aZ rfl (n6 (first := []) (cap := []) id rfl rfl rfl Tryz.call78 (fun w1 h1 => opsD w1) (fun A154 c154 => ae ⟨rfl,fun _ _ h => Sat.dropS 1 h,(aZ rfl (av (first := []) (cap := []) rfl rfl rfl Tryz.call79 (fun w1 h1 => orderD o w1 (by omega)) (ae ⟨rfl,fun _ _ h => Sat.dropS 1 h,(aZ rfl (aL Tryz.underlying23 sz9 rfl rfl rfl (RdS.row .z) (by (try simp only [List.length_append,List.length_cons,List.length_nil] at hb ⊢); omega) (by (try simp only [List.length_append,List.length_cons,List.length_nil] at hb ⊢); omega) rfl (by decide) (ae ⟨rfl,fun _ _ h => Sat.dropS 1 h,(aZ rfl (aH bd rfl rfl (RdS.row .z) (ix opsL (o - 8).toNat _ (by simp) (by show (o - 8).toNat < 14; omega)) ?_))⟩)))⟩)))⟩)))⟩))⟩))⟩))⟩
               rw [opsL_at (by omega)]
               refine ae ⟨rfl,fun _ _ h => Sat.dropS 1 h,(ai rfl (cD rfl rfl rfl (by (try simp only [List.length_append,List.length_cons,List.length_nil] at hb ⊢); omega) (ae ⟨rfl,ai rfl (cD rfl rfl rfl (by (try simp only [List.length_append,List.length_cons,List.length_nil] at hb ⊢); omega) (ae ⟨rfl,ai rfl (cD rfl rfl rfl (by (try simp only [List.length_append,List.length_cons,List.length_nil] at hb ⊢); omega) (ae ⟨rfl,ai rfl (aB rfl rfl (ae ⟨rfl,(bu [16] [_] rfl rfl (aB rfl rfl (ae ⟨rfl,(ag (ap (dA rfl rfl rfl ?_)))⟩)))⟩))⟩))⟩))⟩)))⟩; exact fun w1 hw1 => ⟨im (by simp) (by omega),hw1.chg⟩
end Go.Proofs.YtjbpkcbefmpfgaaGreatDoor
namespace Go.Proofs.YtjbpkcbefmpfgaaGreatDoor
open Go.WK Go.RowKit 
theorem jU (x0 : Int) (x2 : ByteArray) (x3 : ByteArray) : Tryz.prog.built 30 [(0,.int .i64 x0),(2,.string x2),(3,.string x3)] = some ([.int .i64 x0,.int .i64 0,.int .i64 0,.string .empty,.string x2,.string x3,.int .i64 0,.slice none 0 0] : List Value).toArray := by kernel_rfl
theorem tL (o cc : Int) (v : Val) (t n : List UInt8) (al : List Ex) (Ax : Option Addr) (kx : Nat) (_ : List Value) (low : Int) (w : World) (hK : ExC w (.mk o v t n cc al) ([.int .i64 o,.int .i64 v.k,.int .i64 v.n,.string (B v.s),.string (B t),.string (B n),.int .i64 cc,.slice Ax al.length kx] : List Value)) (hL : LV w) (hd : (Ex.txt (.mk o v t n cc al) low).2 ≤ 70368744177664) (hb : (Ex.txt (.mk o v t n cc al) low).1.length ≤ 70368744177664) (hlow : lvl o < low) (hor : 1 ≤ o ∧ o ≤ 21 ∧ o ≠ 3) (ih : ∀ (cs : List Value) (w : World),ExC w (.mk o v t n cc al) cs → LV w → (Ex.txt (.mk o v t n cc al) 1).1.length ≤ 70368744177664 → Calls Tryz.prog 42 #[.agg cs.toArray,.int .i64 1] w (bX w (.tuple #[.string (B (Ex.txt (.mk o v t n cc al) 1).1),.int .i64 ((Ex.txt (.mk o v t n cc al) 1).2 : Int)]))) : Calls Tryz.prog 42 #[.agg ([.int .i64 o,.int .i64 v.k,.int .i64 v.n,.string (B v.s),.string (B t),.string (B n),.int .i64 cc,.slice Ax al.length kx] : List Value).toArray,.int .i64 low] w (bX w (.tuple #[.string (B (Ex.txt (.mk o v t n cc al) low).1),.int .i64 ((Ex.txt (.mk o v t n cc al) low).2 : Int)])) := by
 refine ay (args := [.agg ([.int .i64 o,.int .i64 v.k,.int .i64 v.n,.string (B v.s),.string (B t),.string (B n),.int .i64 cc,.slice Ax al.length kx] : List Value).toArray,.int .i64 low]) (lent := []) (H := []) Tryz.func42 rfl Tryz.ntmps42 rfl (Sat.start _ _ _ _) ((show Tri _ [(0,_),(1,_)] _ _ _ from ?_))
 have hl8 := kb o
 have e1 : Ex.txt (.mk o v t n cc al) 1 = Ex.core (.mk o v t n cc al) := cU (by show ¬ lvl o < 1; omega)
 rw [kE hlow, ← e1] at hd hb ⊢
 simp only [List.length_cons,List.length_append,List.length_nil] at hd hb ⊢
 refine ab (aa (bY _ rfl rfl rfl (fun b2 => aB rfl rfl (o_assignN rfl rfl (ab (aa (aj bT rfl rfl (ak bz N0 rfl rfl rfl (av (first := []) (cap := []) rfl rfl rfl Tryz.call76 (fun w1 h1 => floorK o w1) ?_)))))))))
 rw [sd hor]
 refine o_assignN rfl rfl (ab (ab (tri_slo [(6,_),(2,_),(1,_)] rfl (aa (ah rfl rfl (ah rfl rfl (bK rfl rfl rfl (triL_nilN (ar rfl (fun q0 => ?_) (fun q0 => ?_))))))))))
 · skip
   refine ab (tri_slo [(2,_)] rfl (aa (aC aW aV .z rfl rfl (vs := ([.int .i64 o,.int .i64 v.k,.int .i64 v.n,.string (B v.s),.string (B t),.string (B n),.int .i64 cc,.slice Ax al.length kx] : List Value)) rfl rfl (av (first := []) (cap := []) rfl rfl rfl Tryz.call42 (fun w1 h1 => ih _ w1 (ExC.chg h1.chg _ _ hK) (hL.chg h1.chg) (by omega)) (ah rfl rfl (aX rfl rfl rfl (aX rfl rfl rfl (aB rfl rfl (o_assignN rfl rfl (ab (tri_slo [(8,_),(7,_)] rfl (aa (ah rfl rfl (cD rfl rfl rfl (by (try simp only [List.length_cons,List.length_nil]); omega) (cD rfl rfl rfl (by (try simp only [List.length_append,List.length_cons,List.length_nil]); omega) (ah rfl rfl (bn rfl rfl rfl (by (try simp only [List.length_append,List.length_cons,List.length_nil]); omega) (aB rfl rfl (o_assignN rfl rfl (ap (an (dA rfl rfl rfl ?_)))))))))))))))))))))); exact fun w1 hw1 => ⟨im (by simp) (by omega),hw1.chg⟩
 · skip
   exact absurd hlow q0
theorem dexprK : ∀ (n : Nat) (e : Ex),e.size < n → e.may = true → e.ok → DX e := by
 intro n
 induction n with
 | zero => intro e h; omega
 | succ n ih =>
  intro e hs hm ho
  have hde := r6 (n + 1) e hs hm
  obtain ⟨o,v,t,nn,cc,al⟩ := e
  obtain ⟨m1,m2,m3,m4,m5⟩ := kZ hm
  have ih2 : ∀ i,i < al.length → DX (al.getD i Ex.zero) := fun i hi => ih _ (by have := Ex.size_at (o := o) (c := cc) (v := v) (t := t) (n := nn) hi; omega) (m5 i hi) (Ex.ok_at ho hi)
  have hof : o = 1 → fit v := fun h => fit_of (m2 h) ho.2.1
  have core : ∀ low : Int,¬ lvl o < low → ∀ (cs : List Value) (w : World),ExC w (.mk o v t nn cc al) cs → LV w → (Ex.txt (.mk o v t nn cc al) low).1.length ≤ 70368744177664 → Calls Tryz.prog 42 #[.agg cs.toArray,.int .i64 low] w (bX w (.tuple #[.string (B (Ex.txt (.mk o v t nn cc al) low).1),.int .i64 ((Ex.txt (.mk o v t nn cc al) low).2 : Int)])) := by
   intro low hl cs w h1 h2 h3
   obtain ⟨Ax,kx,xs,rfl,a1,a2,a3⟩ := h1
   exact tK o cc v t nn al Ax kx xs low w a1 a2 a3 h2 (Nat.le_trans (hde low) h3) h3 hl hof m3 m4 m1 ih2
  intro low cs w h1 h2 h3
  by_cases hl : lvl o < low
  · have hk := h1
    obtain ⟨Ax,kx,xs,rfl,_⟩ := h1
    have hl8 := kb o
    exact tL o cc v t nn al Ax kx xs low w hk h2 (Nat.le_trans (hde low) h3) h3 hl m1 (fun cs w => core 1 (by omega) cs w)
  · exact core low hl cs w h1 h2 h3
def DMX (e : Ex) : Prop := ∀ (cs : List Value) (w : World),ExC w e cs → e.ok → e.size ≤ 70368744177664 → Calls Tryz.prog 39 #[.agg cs.toArray] w (bX w (.bool e.may))
theorem noneD (e : Ex) (y : SL) (w : World) (hE : ExC w e (bA e y)) (hz : e.size ≤ 70368744177664) : Calls Tryz.prog 38 #[.agg (bA e y).toArray] w (bX w (.bool (dW e))) := by
 refine ay (args := [.agg (bA e y).toArray]) (lent := []) (H := []) Tryz.func38 rfl Tryz.ntmps38 rfl (Sat.start _ _ _ _) ((show Tri _ [(0,_)] _ _ _ from ab (aa (bY _ rfl rfl rfl (fun b1 => o_assignN rfl rfl (ab (aa (aC aW aV .z rfl rfl (vs := bA e y) rfl rfl (aU sC rfl rfl (av (first := []) (cap := []) rfl rfl rfl Tryz.call17 (fun w1 h1 => jT e Ex.zero (bA e y) (bA Ex.zero SL.nil) w1 (ExC.chg h1.chg _ _ hE) (leafC w1 0 Val.zero [] [] 0) hz) (o_assignN rfl rfl (ap (aT rfl rfl ?_))))))))))))); exact fun w1 hw1 => ⟨congrArg (fun b => Ending.returned (.bool b)) (by exact (lackB e).symm),hw1.chg⟩
theorem ard1 {o : Int} (h : (decide (4 ≤ o) && decide (o ≤ 7)) = true) : arity o = 1 := by
 simp only [Bool.and_eq_true,decide_eq_true_eq] at h
 unfold arity; rw [if_pos (by omega)]
theorem ard2 {o : Int} (h : (decide (4 ≤ o) && decide (o ≤ 7)) = false) : arity o = 2 := by
 have h : ¬ (4 ≤ o ∧ o ≤ 7) := by simpa using h
 unfold arity; rw [if_neg (by omega)]
set_option maxHeartbeats 1000000 in
theorem dmayStep (e : Ex) (y : SL) (xs : List Value) (w : World) (hE : ExC w e (bA e y)) (hy : e.as.length ≤ y.k) (hxr : Rd w y.A xs) (hxs : ExsC w e.as xs) (ho : e.ok) (hz : e.size ≤ 70368744177664) (ih : ∀ i,i < e.as.length → DMX (e.as.getD i Ex.zero)) : Calls Tryz.prog 39 #[.agg (bA e y).toArray] w (bX w (.bool e.may)) := by
 refine ay (args := [.agg (bA e y).toArray]) (lent := []) (H := []) Tryz.func39 rfl Tryz.ntmps39 rfl (Sat.start _ _ _ _) ((show Tri _ [(0,_)] _ _ _ from ?_))
 have hR : ∀ cx H,cx.w0 = w → cx.lent = [] → RdS cx H y.A _ := fun cx H q1 q2 => RdS.lent (by rw [q1]; exact hxr) (fun b hb => by rw [q2]; simp)
 have hxl := hxs.len
 have hvs := v_size (e := e)
 have hal := as_len (e := e)
 refine ab (aa (bY _ rfl rfl rfl (fun b1 => o_assignN rfl rfl (ab (ab (aa (aj bT rfl rfl (ak bz N0 rfl rfl rfl (ax rfl rfl rfl (triL_nilN (ar rfl (fun q0 => ?_) (fun q0 => ?_))))))))))))
 · skip
   refine ab (tri_slo [(1,_)] rfl (aa (aC aW aV .z rfl rfl (vs := bA e y) rfl rfl (aj gb rfl rfl (aC hY jJ .z rfl rfl (vs := Val.cs e.v) rfl rfl (aU (lD _ _) rfl rfl (av (first := []) (cap := []) rfl rfl rfl Tryz.call17 (fun w1 h1 => jT e (.mk 1 e.v [] [] 0 []) (bA e y) (bA (.mk 1 e.v [] [] 0 []) SL.nil) w1 (ExC.chg h1.chg _ _ hE) (leafC w1 1 e.v [] [] 0) hz) (ah rfl rfl ?_))))))))
   refine' aA [_,_,_] [(1,_)] (dj := 13) (dr := 16) rfl rfl (fun g1 => ?_) ⟨_,rfl,rfl,rfl,(.cons rfl (.nil _))⟩ rfl ?_
   rotate_left
   · skip
     exact aj gb rfl rfl (aC hY jJ .z rfl rfl (vs := Val.cs e.v) rfl rfl (av (first := []) (cap := []) rfl rfl rfl Tryz.call75 (fun w1 h1 => mayR e.v w1 ⟨v_ok ho,by omega⟩) (ae (Piece.mk rfl rfl (.cons rfl (.nil _)) (fun _ h => h)))))
   refine ah rfl rfl ?_
   refine' aA [_,_,_,_,_,_,_,_,_,_] [] (dj := 18) (dr := 28) rfl rfl (fun g2 => ?_) ⟨_,rfl,rfl,rfl,(.nil _)⟩ rfl ?_
   rotate_left
   · skip
     refine aj gb rfl rfl (aj ga rfl rfl (ak bz N0 rfl rfl rfl (cB rfl rfl rfl (ah rfl rfl ?_))))
     refine' aQ [_,_,_,_] [(18,_)] (dj := 23) (dr := 27) rfl rfl (fun g3 => ?_) ⟨_,rfl,rfl,rfl,(.cons rfl (.nil _))⟩ rfl ?_
     rotate_left
     · skip
       exact aj gb rfl rfl (aj fw rfl rfl (ak lm N0 rfl rfl rfl (gd rfl rfl rfl (ae (Piece.mk rfl rfl (.cons rfl (.nil _)) (fun _ h => h))))))
     exact ae (Piece.mk rfl rfl (.nil _) (fun _ h => h))
   refine o_assignN rfl rfl (ap (an (aT rfl rfl ?_))); exact fun w1 hw1 => ⟨congrArg (fun b => Ending.returned (.bool b)) (by exact dmay_1 q0),hw1.chg⟩
 · skip
   refine am (ag (ab (ab (tri_slo [(1,_)] rfl (aa (aj bT rfl rfl (ak bz N0 rfl rfl rfl (ax rfl rfl rfl (triL_nilN (ar rfl (fun q1 => ?_) (fun q1 => ?_)))))))))))
   · skip
     refine ab (aa (aC aW aV .z rfl rfl (vs := bA e y) rfl rfl (aj eL rfl rfl (ak bd N0 rfl rfl rfl (aj fk rfl rfl (ak bd N0 rfl rfl rfl (aU (jU _ _ _) rfl rfl (av (first := []) (cap := []) rfl rfl rfl Tryz.call17 (fun w1 h1 => jT e (.mk 2 Val.zero e.t e.n 0 []) (bA e y) (bA (.mk 2 Val.zero e.t e.n 0 []) SL.nil) w1 (ExC.chg h1.chg _ _ hE) (leafC w1 2 Val.zero e.t e.n 0) hz) (ah rfl rfl ?_)))))))))
     refine' aA [_,_,_] [(1,_)] (dj := 40) (dr := 43) rfl rfl (fun g4 => ?_) ⟨_,rfl,rfl,rfl,(.cons rfl (.nil _))⟩ rfl ?_
     rotate_left
     · skip
       exact aj fk rfl rfl (ak bd N0 rfl rfl rfl (av (first := []) (cap := []) rfl rfl rfl Tryz.call36 (fun w1 h1 => jp e.n w1 (by omega)) (ae (Piece.mk rfl rfl (.cons rfl (.nil _)) (fun _ h => h)))))
     refine ah rfl rfl ?_
     refine' aA [_,_,_,_,_,_,_,_] [] (dj := 45) (dr := 53) rfl rfl (fun g5 => ?_) ⟨_,rfl,rfl,rfl,(.nil _)⟩ rfl ?_
     rotate_left
     · skip
       refine aj eL rfl rfl (ak bd N0 rfl rfl rfl (bE rfl rfl rfl (ah rfl rfl ?_)))
       refine' aQ [_,_,_] [(45,_)] (dj := 49) (dr := 52) rfl rfl (fun g6 => ?_) ⟨_,rfl,rfl,rfl,(.cons rfl (.nil _))⟩ rfl ?_
       rotate_left
       · skip
         exact aj eL rfl rfl (ak bd N0 rfl rfl rfl (av (first := []) (cap := []) rfl rfl rfl Tryz.call36 (fun w1 h1 => jp e.t w1 (by omega)) (ae (Piece.mk rfl rfl (.cons rfl (.nil _)) (fun _ h => h)))))
       exact ae (Piece.mk rfl rfl (.nil _) (fun _ h => h))
     refine o_assignN rfl rfl (ap (an (aT rfl rfl ?_))); exact fun w1 hw1 => ⟨congrArg (fun b => Ending.returned (.bool b)) (by exact dmay_2 q1),hw1.chg⟩
   · skip
     refine am (ag (ab (aa (o_assignN rfl rfl (br (ι := Nat) (fun i => [(1,.pointer (some ⟨b1,0,none⟩)),(3,.int .i64 (arity e.o : Int))]) (fun i => [box b1 30 (bA e y)]) (fun i => True) ?_ (fun i hj => ?_))))))
     · skip
       refine ab (aa (aj bT rfl rfl (ak bz N0 rfl rfl rfl (gd rfl rfl rfl (ah rfl rfl ?_)))))
       refine' aA [_,_,_] [(3,_),(1,_)] (dj := 58) (dr := 61) rfl rfl (fun g7 => ?_) ⟨_,rfl,rfl,rfl,(.cons rfl (.cons rfl (.nil _)))⟩ rfl ?_
       rotate_left
       · skip
         exact aj bT rfl rfl (ak bz N0 rfl rfl rfl (gc rfl rfl rfl (ae (Piece.mk rfl rfl (.cons rfl (.cons rfl (.nil _))) (fun _ h => h)))))
       refine triL_nilN (aE rfl (fun q2 => ?_) (fun q2 => ?_))
       · skip
         exact aa (o_assignN rfl rfl (⟨0,(.cons rfl (.cons (by rw [ard1 q2]; rfl) (.nil _))),fun _ h => h,trivial⟩))
       · skip
         exact am (ag (⟨0,(.cons rfl (.cons (by rw [ard2 q2]; rfl) (.nil _))),fun _ h => h,trivial⟩))
     refine ab (ab (aa (aj bT rfl rfl (ak bz N0 rfl rfl rfl (bK rfl rfl rfl (ah rfl rfl ?_))))))
     refine' aQ [_,_,_] [(1,_),(3,_)] (dj := 66) (dr := 69) rfl rfl (fun g8 => ?_) ⟨_,rfl,rfl,rfl,(.cons rfl (.cons rfl (.nil _)))⟩ rfl ?_
     rotate_left
     · skip
       exact aj bT rfl rfl (ak bz N0 rfl rfl rfl (cR rfl rfl rfl (ae (Piece.mk rfl rfl (.cons rfl (.cons rfl (.nil _))) (fun _ h => h)))))
     refine ah rfl rfl ?_
     refine' aQ [_,_,_,_,_] [(1,_),(3,_)] (dj := 71) (dr := 76) rfl rfl (fun g9 => ?_) ⟨_,rfl,rfl,rfl,(.cons rfl (.cons rfl (.nil _)))⟩ rfl ?_
     rotate_left
     · skip
       exact aj cK rfl rfl (ak cM N0 rfl rfl rfl (aN Tryz.underlying28 rfl rfl (ah rfl rfl (cB rfl rfl rfl (ae (Piece.mk rfl rfl (.cons rfl (.cons rfl (.nil _))) (fun _ h => h)))))))
     refine ah rfl rfl ?_
     refine' aQ [_,_,_,_,_,_,_,_] [(1,_),(3,_)] (dj := 78) (dr := 86) rfl rfl (fun g10 => ?_) ⟨_,rfl,rfl,rfl,(.cons rfl (.cons rfl (.nil _)))⟩ rfl ?_
     rotate_left
     · skip
       exact aC aW aV .z rfl rfl (vs := bA e y) rfl rfl (aj bT rfl rfl (ak bz N0 rfl rfl rfl (aj cK rfl rfl (ak cM N0 rfl rfl rfl (aU (dy _ _ _ _) rfl rfl (av (first := []) (cap := []) rfl rfl rfl Tryz.call17 (fun w1 h1 => jT e (.mk e.o Val.zero [] [] 0 e.as) (bA e y) (bA (.mk e.o Val.zero [] [] 0 e.as) y) w1 (ExC.chg h1.chg _ _ hE) ⟨y.A,y.k,xs,rfl,hy,hxr.ext h1.chg,ExsC.chg h1.chg _ _ hxs⟩ hz) (cu rfl rfl (ae (Piece.mk rfl rfl (.cons rfl (.cons rfl (.nil _))) (fun _ h => h))))))))))
     refine triL_nilN (aE rfl (fun q3 => ?_) (fun q3 => ?_))
     · skip
       refine ab (aa (o_assignN rfl rfl (ap (an (aT rfl rfl ?_))))); exact fun w1 hw1 => ⟨congrArg (fun b => Ending.returned (.bool b)) (by exact (dmay_bad q0 q1 q3).symm),hw1.chg⟩
     · skip
       have hda := dmay_all q0 q1 q3
       refine am (ag (ab (ab (aa (o_assignN rfl rfl (aw (bf (ι := Nat) (F := fun i => [(1,.pointer (some ⟨b1,0,none⟩)),(3,.int .i64 (arity e.o : Int)),(4,.int .i64 (i : Int))]) (HH := fun i => [box b1 30 (bA e y)]) (Pu := fun i => i ≤ e.as.length ∧ (e.as.take i).all Ex.may = true) (μ := fun i => e.as.length - i) (0) (.cons rfl (.cons rfl (.cons rfl (.nil _)))) (fun _ h => h) (⟨Nat.zero_le _,rfl⟩) (fun i hi => ab (ab (aa (ah rfl rfl (ah rfl rfl (bK rfl rfl rfl (triL_nilN (ar rfl (fun q4 => ?_) (fun q4 => ?_))))))))))))))))
       · skip
         refine am (ag (ab (aw (ab ?_))))
         have hil : i < e.as.length := by omega
         obtain ⟨ca,hca,hka⟩ := ExsC.at i hxs hil
         refine aa (aj cK rfl rfl (ak cM N0 rfl rfl rfl (ah rfl rfl (aL Tryz.underlying28 aV rfl rfl rfl (hR _ _ rfl rfl) (by (try simp only [List.length_append,List.length_cons,List.length_nil]); omega) (by (try simp only [List.length_append,List.length_cons,List.length_nil]); omega) (by omega) (by decide) (bo aW aV rfl rfl (hR _ _ rfl rfl) (vs := ca) hca hka.len (by decide) (av (first := []) (cap := []) rfl rfl rfl Tryz.call39 (fun w1 h1 => ih i hil ca w1 (ExC.chg h1.chg _ _ hka) (as_ok ho hil) (by have := lN (e := e) hil; omega)) (cu rfl rfl (triL_nilN (aE rfl (fun q5 => ?_) (fun q5 => ?_))))))))))
         · skip
           have q5 := ci q5
           refine ab (az [] (.nil _) (aa (o_assignN rfl rfl (ap (aq (an (an (aq (an (aT rfl rfl ?_)))))))))); exact fun w1 hw1 => ⟨congrArg (fun b => Ending.returned (.bool b)) (by rw [hda.1]; exact (r8 hil q5).symm),hw1.chg⟩
         · skip
           have q5 := bU q5
           exact am (ao (ag (tri_slo [(1,_),(3,_),(4,_)] rfl (aa (ah rfl rfl (bn rfl rfl rfl (by (try simp only [List.length_append,List.length_cons,List.length_nil]); omega) (o_assignN rfl rfl (⟨i + 1,(.cons rfl (.cons rfl (.cons rfl (.nil _)))),fun _ h => h,⟨by omega,pz hil hi.2 q5⟩,by omega⟩))))))))
       · skip
         refine aS (au (au (aG (ag (ab (az [] (.nil _) (aa (o_assignN rfl rfl (ap (aT rfl rfl ?_)))))))))); exact fun w1 hw1 => ⟨congrArg (fun b => Ending.returned (.bool b)) (by rw [hda.1, ← hi.2,List.take_of_length_le (by omega)]),hw1.chg⟩
theorem dmayAll : ∀ (n : Nat) (e : Ex),e.size < n → DMX e := by
 intro n
 induction n with
 | zero => intro e h; omega
 | succ n ih =>
  intro e hs cs w hc ho hz
  have hk := hc
  obtain ⟨y,xs,rfl,h1,h2,h3⟩ := exC_R hc
  exact dmayStep e y xs w hk h1 h2 h3 ho hz (fun i hi => ih _ (by have := lN (e := e) hi; omega))
theorem nW (e : Ex) (cs : List Value) (w : World) (h : ExC w e cs) (ho : e.ok) (hz : e.size ≤ 70368744177664) : Calls Tryz.prog 39 #[.agg cs.toArray] w (bX w (.bool e.may)) := dmayAll (e.size + 1) e (by omega) cs w h ho hz
theorem dexprE (e : Ex) (hm : e.may = true) (ho : e.ok) (low : Int) (cs : List Value) (w : World) (h : ExC w e cs) (hL : LV w) (hb : (e.txt low).1.length ≤ 70368744177664) : Calls Tryz.prog 42 #[.agg cs.toArray,.int .i64 low] w (bX w (.tuple #[.string (B (e.txt low).1),.int .i64 ((e.txt low).2 : Int)])) := dexprK (e.size + 1) e (by omega) hm ho low cs w h hL hb
end Go.Proofs.YtjbpkcbefmpfgaaGreatDoor
namespace Go.Proofs.YtjbpkcbefmpfgaaGreatDoor
open Go.WK Go.RowKit 
theorem flat71 : gW Tryz.prog 71 = some colKs := by kernel_rfl
theorem flat121 : gW Tryz.prog 121 = some ordKs := by kernel_rfl
theorem tM (l m : List ColX) (y z : SL) (bl bm : List Nat) (xa xb : List Value) (w : World) (hA : SlR colKd bl w l y xa) (hB : SlR colKd bm w m z xb) (hn : l.length ≤ 70368744177664) : Calls Tryz.prog 48 #[.slice y.A l.length y.k,.slice z.A m.length z.k] w (bX w (.bool (decide (l = m)))) := by
 refine ay (args := [.slice y.A l.length y.k,.slice z.A m.length z.k]) (lent := []) (H := []) Tryz.func48 rfl Tryz.ntmps48 rfl (Sat.start _ _ _ _) ((show Tri _ [(0,_),(1,_)] _ _ _ from ab (aa (o_assignN rfl rfl (ab (ab (aa (ah rfl rfl (aN Tryz.underlying22 rfl rfl (ah rfl rfl (aN Tryz.underlying22 rfl rfl (cB rfl rfl rfl (triL_nilN (ar rfl (fun q0 => ?_) (fun q0 => ?_)))))))))))))))
 · skip
   refine ab (az [] (.nil _) (aa (o_assignN rfl rfl (ap (an (aT rfl rfl ?_)))))); exact fun w1 hw1 => ⟨congrArg (fun b => Ending.returned (.bool b)) (by exact (decide_eq_false (qW q0)).symm),hw1.chg⟩
 · skip
   have hlen : l.length = m.length := by omega
   refine am (ag (ab (ab (tri_slo [(0,_),(1,_)] rfl (aa (o_assignN rfl rfl (aw (bf (ι := Nat) (F := fun i => [(0,.slice y.A l.length y.k),(1,.slice z.A m.length z.k),(5,.int .i64 (i : Int))]) (HH := fun i => []) (Pu := fun i => i ≤ l.length ∧ ∀ j,j < i → l.getD j ColX.zero = m.getD j ColX.zero) (μ := fun i => l.length - i) (0) (.cons rfl (.cons rfl (.cons rfl (.nil _)))) (fun _ h => h) (⟨Nat.zero_le _,fun j hj => absurd hj (by omega)⟩) (fun i hi => ab (ab (aa (ah rfl rfl (ah rfl rfl (aN Tryz.underlying22 rfl rfl (bK rfl rfl rfl (triL_nilN (ar rfl (fun q1 => ?_) (fun q1 => ?_))))))))))))))))))
   · skip
     have hil : i < l.length := by omega
     refine am (ag (ab (aw (ab (tri_slo [(0,_),(1,_),(5,_)] rfl ?_)))))
     have hca := lc hA i hil
     have hcb := lc hB i (by omega)
     refine bj (_) [(0,true),(1,true),(2,true),(3,true),(4,true),(5,true),(6,true),(7,true),(8,false)] [8] (by kernel_rfl) (by kernel_rfl) (fun _ h => h) (ai rfl (ah rfl rfl (ae ⟨rfl,ai rfl (ah rfl rfl (ae ⟨rfl,ai rfl (aL Tryz.underlying22 jK rfl rfl rfl (hA.rd0 _ _ rfl rfl) (by (try simp only [List.length_append,List.length_cons,List.length_nil]); omega) (by (try simp only [List.length_append,List.length_cons,List.length_nil]); omega) hA.len (by decide) (ae ⟨rfl,ai rfl (bo agg71 jK rfl rfl (hA.rd0 _ _ rfl rfl) (vs := ColX.cs (l.getD i ColX.zero)) hca rfl (by decide) (ae ⟨rfl,ai rfl (ah rfl rfl (ae ⟨rfl,ai rfl (ah rfl rfl (ae ⟨rfl,ai rfl (aL Tryz.underlying22 jK rfl rfl rfl (hB.rd0 _ _ rfl rfl) (by (try simp only [List.length_append,List.length_cons,List.length_nil]); omega) (by (try simp only [List.length_append,List.length_cons,List.length_nil]); omega) hB.len (by decide) (ae ⟨rfl,ai rfl (bo agg71 jK rfl rfl (hB.rd0 _ _ rfl rfl) (vs := ColX.cs (m.getD i ColX.zero)) hcb rfl (by decide) (ae ⟨rfl,(bu [8] [_] rfl rfl (o_neqCol flat71 rfl rfl rfl (ae ⟨rfl,(ag (aE rfl (fun q2 => ?_) (fun q2 => ?_)))⟩)))⟩))⟩))⟩))⟩))⟩))⟩))⟩))⟩)))
     · skip
       have q2 := of_decide_eq_false (ci q2)
       refine ab (az [] (.nil _) (aa (o_assignN rfl rfl (ap (aq (an (an (aq (an (aT rfl rfl ?_)))))))))); exact fun w1 hw1 => ⟨congrArg (fun b => Ending.returned (.bool b)) (by exact (decide_eq_false (at_ne q2)).symm),hw1.chg⟩
     · skip
       have q2 := of_decide_eq_true (bU q2)
       exact am (ao (ag (tri_slo [(0,_),(1,_),(5,_)] rfl (aa (ah rfl rfl (bn rfl rfl rfl (by (try simp only [List.length_append,List.length_cons,List.length_nil]); omega) (o_assignN rfl rfl (⟨i + 1,(.cons rfl (.cons rfl (.cons rfl (.nil _)))),fun _ h => h,⟨by omega,upd hi.2 q2⟩,by omega⟩))))))))
   · skip
     refine aS (au (au (aG (ag (ab (az [] (.nil _) (aa (o_assignN rfl rfl (ap (aT rfl rfl ?_)))))))))); exact fun w1 hw1 => ⟨congrArg (fun b => Ending.returned (.bool b)) (by exact (decide_eq_true (ff ColX.zero hlen (fun j hj => hi.2 j (by omega)))).symm),hw1.chg⟩
theorem rv (l m : List (List UInt8)) (y z : SL) (bl bm : List Nat) (xa xb : List Value) (w : World) (hA : SlR nameKd bl w l y xa) (hB : SlR nameKd bm w m z xb) (hn : l.length ≤ 70368744177664) : Calls Tryz.prog 49 #[.slice y.A l.length y.k,.slice z.A m.length z.k] w (bX w (.bool (decide (l = m)))) := by
 refine ay (args := [.slice y.A l.length y.k,.slice z.A m.length z.k]) (lent := []) (H := []) Tryz.func49 rfl Tryz.ntmps49 rfl (Sat.start _ _ _ _) ((show Tri _ [(0,_),(1,_)] _ _ _ from ab (aa (o_assignN rfl rfl (ab (ab (aa (ah rfl rfl (aN Tryz.underlying23 rfl rfl (ah rfl rfl (aN Tryz.underlying23 rfl rfl (cB rfl rfl rfl (triL_nilN (ar rfl (fun q0 => ?_) (fun q0 => ?_)))))))))))))))
 · skip
   refine ab (az [] (.nil _) (aa (o_assignN rfl rfl (ap (an (aT rfl rfl ?_)))))); exact fun w1 hw1 => ⟨congrArg (fun b => Ending.returned (.bool b)) (by exact (decide_eq_false (qW q0)).symm),hw1.chg⟩
 · skip
   have hlen : l.length = m.length := by omega
   refine am (ag (ab (ab (tri_slo [(0,_),(1,_)] rfl (aa (o_assignN rfl rfl (aw (bf (ι := Nat) (F := fun i => [(0,.slice y.A l.length y.k),(1,.slice z.A m.length z.k),(5,.int .i64 (i : Int))]) (HH := fun i => []) (Pu := fun i => i ≤ l.length ∧ ∀ j,j < i → l.getD j [] = m.getD j []) (μ := fun i => l.length - i) (0) (.cons rfl (.cons rfl (.cons rfl (.nil _)))) (fun _ h => h) (⟨Nat.zero_le _,fun j hj => absurd hj (by omega)⟩) (fun i hi => ab (ab (aa (ah rfl rfl (ah rfl rfl (aN Tryz.underlying23 rfl rfl (bK rfl rfl rfl (triL_nilN (ar rfl (fun q1 => ?_) (fun q1 => ?_))))))))))))))))))
   · skip
     have hil : i < l.length := by omega
     refine am (ag (ab (aw (ab (tri_slo [(0,_),(1,_),(5,_)] rfl ?_)))))
     have hca := jz hA i hil
     have hcb := jz hB i (by omega)
     refine bj (_) [(0,true),(1,true),(2,true),(3,true),(4,true),(5,true),(6,true),(7,true),(8,false)] [8] (by kernel_rfl) (by kernel_rfl) (fun _ h => h) (ai rfl (ah rfl rfl (ae ⟨rfl,ai rfl (ah rfl rfl (ae ⟨rfl,ai rfl (aL Tryz.underlying23 sz9 rfl rfl rfl (hA.rd0 _ _ rfl rfl) (by (try simp only [List.length_append,List.length_cons,List.length_nil]); omega) (by (try simp only [List.length_append,List.length_cons,List.length_nil]); omega) hA.len (by decide) (ae ⟨rfl,ai rfl (aH bd rfl rfl (hA.rd0 _ _ rfl rfl) (aD hca (j := 0) rfl) (ae ⟨rfl,ai rfl (ah rfl rfl (ae ⟨rfl,ai rfl (ah rfl rfl (ae ⟨rfl,ai rfl (aL Tryz.underlying23 sz9 rfl rfl rfl (hB.rd0 _ _ rfl rfl) (by (try simp only [List.length_append,List.length_cons,List.length_nil]); omega) (by (try simp only [List.length_append,List.length_cons,List.length_nil]); omega) hB.len (by decide) (ae ⟨rfl,ai rfl (aH bd rfl rfl (hB.rd0 _ _ rfl rfl) (aD hcb (j := 0) rfl) (ae ⟨rfl,(bu [8] [_] rfl rfl (cY rfl rfl rfl (ae ⟨rfl,(ag (aE rfl (fun q2 => ?_) (fun q2 => ?_)))⟩)))⟩))⟩))⟩))⟩))⟩))⟩))⟩))⟩)))
     · skip
       have q2 := of_decide_eq_true q2
       refine ab (az [] (.nil _) (aa (o_assignN rfl rfl (ap (aq (an (an (aq (an (aT rfl rfl ?_)))))))))); exact fun w1 hw1 => ⟨congrArg (fun b => Ending.returned (.bool b)) (by exact (decide_eq_false (at_ne q2)).symm),hw1.chg⟩
     · skip
       have q2 := Decidable.not_not.1 (of_decide_eq_false q2)
       exact am (ao (ag (tri_slo [(0,_),(1,_),(5,_)] rfl (aa (ah rfl rfl (bn rfl rfl rfl (by (try simp only [List.length_append,List.length_cons,List.length_nil]); omega) (o_assignN rfl rfl (⟨i + 1,(.cons rfl (.cons rfl (.cons rfl (.nil _)))),fun _ h => h,⟨by omega,upd hi.2 q2⟩,by omega⟩))))))))
   · skip
     refine aS (au (au (aG (ag (ab (az [] (.nil _) (aa (o_assignN rfl rfl (ap (aT rfl rfl ?_)))))))))); exact fun w1 hw1 => ⟨congrArg (fun b => Ending.returned (.bool b)) (by exact (decide_eq_true (ff ([] : List UInt8) hlen (fun j hj => hi.2 j (by omega)))).symm),hw1.chg⟩
theorem sameExsK (l m : List Ex) (y z : SL) (bl bm : List Nat) (xa xb : List Value) (w : World) (hA : SlR exKd bl w l y xa) (hB : SlR exKd bm w m z xb) (hn : l.length ≤ 70368744177664) (hz : ∀ i,i < l.length → (l.getD i Ex.zero).size ≤ 70368744177664) : Calls Tryz.prog 51 #[.slice y.A l.length y.k,.slice z.A m.length z.k] w (bX w (.bool (decide (l = m)))) := by
 refine ay (args := [.slice y.A l.length y.k,.slice z.A m.length z.k]) (lent := []) (H := []) Tryz.func51 rfl Tryz.ntmps51 rfl (Sat.start _ _ _ _) ((show Tri _ [(0,_),(1,_)] _ _ _ from ab (aa (o_assignN rfl rfl (ab (ab (aa (ah rfl rfl (aN Tryz.underlying28 rfl rfl (ah rfl rfl (aN Tryz.underlying28 rfl rfl (cB rfl rfl rfl (triL_nilN (ar rfl (fun q0 => ?_) (fun q0 => ?_)))))))))))))))
 · skip
   refine ab (az [] (.nil _) (aa (o_assignN rfl rfl (ap (an (aT rfl rfl ?_)))))); exact fun w1 hw1 => ⟨congrArg (fun b => Ending.returned (.bool b)) (by exact (decide_eq_false (qW q0)).symm),hw1.chg⟩
 · skip
   have hlen : l.length = m.length := by omega
   refine am (ag (ab (ab (tri_slo [(0,_),(1,_)] rfl (aa (o_assignN rfl rfl (aw (bf (ι := Nat) (F := fun i => [(0,.slice y.A l.length y.k),(1,.slice z.A m.length z.k),(5,.int .i64 (i : Int))]) (HH := fun i => []) (Pu := fun i => i ≤ l.length ∧ ∀ j,j < i → l.getD j Ex.zero = m.getD j Ex.zero) (μ := fun i => l.length - i) (0) (.cons rfl (.cons rfl (.cons rfl (.nil _)))) (fun _ h => h) (⟨Nat.zero_le _,fun j hj => absurd hj (by omega)⟩) (fun i hi => ab (ab (aa (ah rfl rfl (ah rfl rfl (aN Tryz.underlying28 rfl rfl (bK rfl rfl rfl (triL_nilN (ar rfl (fun q1 => ?_) (fun q1 => ?_))))))))))))))))))
   · skip
     have hil : i < l.length := by omega
     refine am (ag (ab (aw (ab (tri_slo [(0,_),(1,_),(5,_)] rfl ?_)))))
     obtain ⟨ya,hca,hya⟩ := nJ hA i hil
     obtain ⟨yb,hcb,hyb⟩ := nJ hB i (by omega)
     refine bj (_) [(0,true),(1,true),(2,true),(3,true),(4,true),(5,true),(6,true),(7,true),(8,false),(9,false)] [8,9] (by kernel_rfl) (by kernel_rfl) (fun _ h => h) (ai rfl (ah rfl rfl (ae ⟨rfl,ai rfl (ah rfl rfl (ae ⟨rfl,ai rfl (aL Tryz.underlying28 aV rfl rfl rfl (hA.rd0 _ _ rfl rfl) (by (try simp only [List.length_append,List.length_cons,List.length_nil]); omega) (by (try simp only [List.length_append,List.length_cons,List.length_nil]); omega) hA.len (by decide) (ae ⟨rfl,ai rfl (bo aW aV rfl rfl (hA.rd0 _ _ rfl rfl) (vs := bA (l.getD i Ex.zero) ya) hca rfl (by decide) (ae ⟨rfl,ai rfl (ah rfl rfl (ae ⟨rfl,ai rfl (ah rfl rfl (ae ⟨rfl,ai rfl (aL Tryz.underlying28 aV rfl rfl rfl (hB.rd0 _ _ rfl rfl) (by (try simp only [List.length_append,List.length_cons,List.length_nil]); omega) (by (try simp only [List.length_append,List.length_cons,List.length_nil]); omega) hB.len (by decide) (ae ⟨rfl,ai rfl (bo aW aV rfl rfl (hB.rd0 _ _ rfl rfl) (vs := bA (m.getD i Ex.zero) yb) hcb rfl (by decide) (ae ⟨rfl,(bu [8,9] [_,_] rfl rfl (av (first := []) (cap := []) rfl rfl rfl Tryz.call17 (fun w1 h1 => jT _ _ _ _ w1 (ExC.chg h1.chg _ _ (ExK.c _ _ hya)) (ExC.chg h1.chg _ _ (ExK.c _ _ hyb)) (hz i hil)) (cu rfl rfl (ae ⟨rfl,(ag (aE rfl (fun q2 => ?_) (fun q2 => ?_)))⟩))))⟩))⟩))⟩))⟩))⟩))⟩))⟩))⟩)))
     · skip
       have q2 := of_decide_eq_false (ci q2)
       refine ab (az [] (.nil _) (aa (o_assignN rfl rfl (ap (aq (an (an (aq (an (aT rfl rfl ?_)))))))))); exact fun w1 hw1 => ⟨congrArg (fun b => Ending.returned (.bool b)) (by exact (decide_eq_false (at_ne q2)).symm),hw1.chg⟩
     · skip
       have q2 := of_decide_eq_true (bU q2)
       exact am (ao (ag (tri_slo [(0,_),(1,_),(5,_)] rfl (aa (ah rfl rfl (bn rfl rfl rfl (by (try simp only [List.length_append,List.length_cons,List.length_nil]); omega) (o_assignN rfl rfl (⟨i + 1,(.cons rfl (.cons rfl (.cons rfl (.nil _)))),fun _ h => h,⟨by omega,upd hi.2 q2⟩,by omega⟩))))))))
   · skip
     refine aS (au (au (aG (ag (ab (az [] (.nil _) (aa (o_assignN rfl rfl (ap (aT rfl rfl ?_)))))))))); exact fun w1 hw1 => ⟨congrArg (fun b => Ending.returned (.bool b)) (by exact (decide_eq_true (ff Ex.zero hlen (fun j hj => hi.2 j (by omega)))).symm),hw1.chg⟩
set_option maxRecDepth 100000 in
set_option maxHeartbeats 2000000 in
theorem sameQK (a b : QryX) (y z : QLay) (bl bm : List Nat) (w : World) (hA : QAt bl w a y) (hB : QAt bm w b z) (hbd : QBd a) : Calls Tryz.prog 50 #[.agg (cI a y).toArray,.agg (cI b z).toArray] w (bX w (.bool (decide (a = b)))) := by
 refine ay (args := [.agg (cI a y).toArray,.agg (cI b z).toArray]) (lent := []) (H := []) Tryz.func50 rfl Tryz.ntmps50 rfl (Sat.start _ _ _ _) ((show Tri _ [(0,_),(1,_)] _ _ _ from ?_))
 obtain ⟨xIa,xFa,xOa,hIa,hFa,hWa,hOa⟩ := hA
 obtain ⟨xIb,xFb,xOb,hIb,hFb,hWb,hOb⟩ := hB
 have n1 : a.items.length ≤ 70368744177664 := hbd.ni
 have n2 : a.from_.length ≤ 70368744177664 := hbd.nf
 have n3 : a.ord.length ≤ 70368744177664 := hbd.no
 refine ab (aa (bY _ rfl rfl rfl (fun b2 => bY _ rfl rfl rfl (fun b3 => o_assignN rfl rfl (ab (ab (aa (aj kh rfl rfl (ak eb N1 rfl rfl rfl (aj kh rfl rfl (ak eb N0 rfl rfl rfl (lS rfl Tryz.underlying4 rfl rfl (ah rfl rfl ?_)))))))))))))
 refine' aQ [_,_,_,_,_] [(3,_),(2,_)] (dj := 13) (dr := 18) rfl rfl (fun g1 => ?_) ⟨_,rfl,rfl,rfl,(.cons rfl (.cons rfl (.nil _)))⟩ rfl ?_
 rotate_left
 · skip
   exact aj iT rfl rfl (ak eb N1 rfl rfl rfl (aj iT rfl rfl (ak eb N0 rfl rfl rfl (lS rfl Tryz.underlying4 rfl rfl (ae (Piece.mk rfl rfl (.cons rfl (.cons rfl (.nil _))) (fun _ h => h)))))))
 refine ah rfl rfl ?_
 refine' aQ [_,_,_,_,_] [(3,_),(2,_)] (dj := 20) (dr := 25) rfl rfl (fun g2 => ?_) ⟨_,rfl,rfl,rfl,(.cons rfl (.cons rfl (.nil _)))⟩ rfl ?_
 rotate_left
 · skip
   exact aj iV rfl rfl (ak eb N1 rfl rfl rfl (aj iV rfl rfl (ak eb N0 rfl rfl rfl (lS rfl Tryz.underlying4 rfl rfl (ae (Piece.mk rfl rfl (.cons rfl (.cons rfl (.nil _))) (fun _ h => h)))))))
 refine ah rfl rfl ?_
 refine' aQ [_,_,_,_,_] [(3,_),(2,_)] (dj := 27) (dr := 32) rfl rfl (fun g3 => ?_) ⟨_,rfl,rfl,rfl,(.cons rfl (.cons rfl (.nil _)))⟩ rfl ?_
 rotate_left
 · skip
   exact aj gM rfl rfl (ak bz N1 rfl rfl rfl (aj gM rfl rfl (ak bz N0 rfl rfl rfl (cB rfl rfl rfl (ae (Piece.mk rfl rfl (.cons rfl (.cons rfl (.nil _))) (fun _ h => h)))))))
 refine ah rfl rfl ?_
 refine' aQ [_,_,_,_,_,_,_] [(3,_),(2,_)] (dj := 34) (dr := 41) rfl rfl (fun g4 => ?_) ⟨_,rfl,rfl,rfl,(.cons rfl (.cons rfl (.nil _)))⟩ rfl ?_
 rotate_left
 · skip
   exact aj cA rfl rfl (ak dn N1 rfl rfl rfl (aN Tryz.underlying31 rfl rfl (aj cA rfl rfl (ak dn N0 rfl rfl rfl (aN Tryz.underlying31 rfl rfl (cB rfl rfl rfl (ae (Piece.mk rfl rfl (.cons rfl (.cons rfl (.nil _))) (fun _ h => h)))))))))
 refine ah rfl rfl ?_
 refine' aQ [_,_,_,_,_,_,_] [(3,_),(2,_)] (dj := 43) (dr := 50) rfl rfl (fun g5 => ?_) ⟨_,rfl,rfl,rfl,(.cons rfl (.cons rfl (.nil _)))⟩ rfl ?_
 rotate_left
 · skip
   exact aj cp rfl rfl (ak cP N1 rfl rfl rfl (aN Tryz.underlying32 rfl rfl (aj cp rfl rfl (ak cP N0 rfl rfl rfl (aN Tryz.underlying32 rfl rfl (cB rfl rfl rfl (ae (Piece.mk rfl rfl (.cons rfl (.cons rfl (.nil _))) (fun _ h => h)))))))))
 refine ah rfl rfl ?_
 refine' aQ [_,_,_,_,_,_,_] [(3,_),(2,_)] (dj := 52) (dr := 59) rfl rfl (fun g6 => ?_) ⟨_,rfl,rfl,rfl,(.cons rfl (.cons rfl (.nil _)))⟩ rfl ?_
 rotate_left
 · skip
   exact aj dl rfl rfl (ak eP N1 rfl rfl rfl (aN Tryz.underlying33 rfl rfl (aj dl rfl rfl (ak eP N0 rfl rfl rfl (aN Tryz.underlying33 rfl rfl (cB rfl rfl rfl (ae (Piece.mk rfl rfl (.cons rfl (.cons rfl (.nil _))) (fun _ h => h)))))))))
 refine ah rfl rfl ?_
 refine' aQ [_,_,_,_,_,_] [(3,_),(2,_)] (dj := 61) (dr := 67) rfl rfl (fun g7 => ?_) ⟨_,rfl,rfl,rfl,(.cons rfl (.cons rfl (.nil _)))⟩ rfl ?_
 rotate_left
 · skip
   exact aj fZ rfl rfl (aC aW aV (.s .z) rfl rfl (vs := bA a.wh y.V) rfl rfl (aj fZ rfl rfl (aC aW aV .z rfl rfl (vs := bA b.wh z.V) rfl rfl (av (first := []) (cap := []) rfl rfl rfl Tryz.call17 (fun w1 h1 => jT _ _ _ _ w1 (ExC.chg h1.chg _ _ (ExK.c _ _ hWa)) (ExC.chg h1.chg _ _ (ExK.c _ _ hWb)) hbd.wh) (cu rfl rfl (ae (Piece.mk rfl rfl (.cons rfl (.cons rfl (.nil _))) (fun _ h => h))))))))
 refine triL_nilN (aE rfl (fun q0 => ?_) (fun q0 => ?_))
 · skip
   have q0 : sqB a b = true := q0
   refine ab (aa (o_assignN rfl rfl (ap (an (aT rfl rfl ?_))))); exact fun w1 hw1 => ⟨congrArg (fun b => Ending.returned (.bool b)) (by exact (decide_eq_false (sq_ne q0)).symm),hw1.chg⟩
 · skip
   have q0 : sqB a b = false := q0
   obtain ⟨_,hli,hlf,hlo⟩ := sq_no q0
   refine am (ag (ab (ab (aa (o_assignN rfl rfl (aw (bf (ι := Nat) (F := fun i => [(2,.pointer (some ⟨b2,0,none⟩)),(3,.pointer (some ⟨b3,0,none⟩)),(5,.int .i64 (i : Int))]) (HH := fun i => [box b3 35 (cI b z),box b2 35 (cI a y)]) (Pu := fun i => i ≤ a.items.length ∧ ∀ j,j < i → a.items.getD j ItemX.zero = b.items.getD j ItemX.zero) (μ := fun i => a.items.length - i) (0) (.cons rfl (.cons rfl (.cons rfl (.nil _)))) (fun _ h => h) (⟨Nat.zero_le _,fun j hj => absurd hj (by omega)⟩) (fun i hi => ab (ab (aa (ah rfl rfl (aj cA rfl rfl (ak dn N1 rfl rfl rfl (aN Tryz.underlying31 rfl rfl (bK rfl rfl rfl (triL_nilN (ar rfl (fun q1 => ?_) (fun q1 => ?_))))))))))))))))))
   · skip
     have hil : i < a.items.length := by omega
     refine am (ag (ab (aw (ab ?_))))
     obtain ⟨ya,hca,hya⟩ := jy hIa i hil
     obtain ⟨yb,hcb,hyb⟩ := jy hIb i (by omega)
     by_cases hs : (a.items.getD i ItemX.zero).s = (b.items.getD i ItemX.zero).s
     · skip
       have hd : decide ((a.items.getD i ItemX.zero).s ≠ (b.items.getD i ItemX.zero).s) = false := decide_eq_false (fun h => h hs)
       refine tri_slo [(2,_),(3,_),(5,_)] rfl (bj (_) [(0,true),(1,true),(2,true),(3,true),(4,true),(5,true),(6,true),(7,true),(8,true),(9,true),(10,true),(11,true),(12,true),(13,true),(14,true),(15,true),(16,true),(17,true),(18,true),(19,true),(20,true),(21,true),(22,true),(23,true),(24,true),(25,true),(26,false),(27,false),(28,false)] [26,27,28] (by kernel_rfl) (by kernel_rfl) (fun _ h => h) (ai rfl (aj cA rfl rfl (ae ⟨rfl,ai rfl (ak dn N1 rfl rfl rfl (ae ⟨rfl,ai rfl (ah rfl rfl (ae ⟨rfl,ai rfl (aL Tryz.underlying31 iS rfl rfl rfl (hIa.rd0 _ _ rfl rfl) (by (try simp only [List.length_append,List.length_cons,List.length_nil]); omega) (by (try simp only [List.length_append,List.length_cons,List.length_nil]); omega) hIa.len (by decide) (ae ⟨rfl,ai rfl (aJ gL rfl rfl (hIa.rd0 _ _ rfl rfl) (aD hca (j := 0) rfl) (ae ⟨rfl,ai rfl (aH bd rfl rfl (hIa.rd0 _ _ rfl rfl) (aD hca (j := 8) rfl) (ae ⟨rfl,ai rfl (aj cA rfl rfl (ae ⟨rfl,ai rfl (ak dn N0 rfl rfl rfl (ae ⟨rfl,ai rfl (ah rfl rfl (ae ⟨rfl,ai rfl (aL Tryz.underlying31 iS rfl rfl rfl (hIb.rd0 _ _ rfl rfl) (by (try simp only [List.length_append,List.length_cons,List.length_nil]); omega) (by (try simp only [List.length_append,List.length_cons,List.length_nil]); omega) hIb.len (by decide) (ae ⟨rfl,ai rfl (aJ gL rfl rfl (hIb.rd0 _ _ rfl rfl) (aD hcb (j := 0) rfl) (ae ⟨rfl,ai rfl (aH bd rfl rfl (hIb.rd0 _ _ rfl rfl) (aD hcb (j := 8) rfl) (ae ⟨rfl,ai rfl (cY rfl rfl rfl ?_)⟩))⟩))⟩))⟩))⟩))⟩))⟩))⟩))⟩))⟩))⟩))⟩))))
       rw [hd]
       refine ae ⟨rfl,ai rfl (ah rfl rfl (ae ⟨rfl,ai rfl (aj cA rfl rfl (ae ⟨rfl,ai rfl (ak dn N1 rfl rfl rfl (ae ⟨rfl,ai rfl (ah rfl rfl (ae ⟨rfl,ai rfl (aL Tryz.underlying31 iS rfl rfl rfl (hIa.rd0 _ _ rfl rfl) (by (try simp only [List.length_append,List.length_cons,List.length_nil]); omega) (by (try simp only [List.length_append,List.length_cons,List.length_nil]); omega) hIa.len (by decide) (ae ⟨rfl,ai rfl (aJ ln rfl rfl (hIa.rd0 _ _ rfl rfl) (aD hca (j := 0) rfl) (ae ⟨rfl,ai rfl (bo aW aV rfl rfl (hIa.rd0 _ _ rfl rfl) (vs := bA ((a.items.getD i ItemX.zero).e) ya) (dw (p := []) (cs := bA ((a.items.getD i ItemX.zero).e) ya) (r := [_]) hca) rfl (by decide) (ae ⟨rfl,ai rfl (aj cA rfl rfl (ae ⟨rfl,ai rfl (ak dn N0 rfl rfl rfl (ae ⟨rfl,ai rfl (ah rfl rfl (ae ⟨rfl,ai rfl (aL Tryz.underlying31 iS rfl rfl rfl (hIb.rd0 _ _ rfl rfl) (by (try simp only [List.length_append,List.length_cons,List.length_nil]); omega) (by (try simp only [List.length_append,List.length_cons,List.length_nil]); omega) hIb.len (by decide) (ae ⟨rfl,ai rfl (aJ ln rfl rfl (hIb.rd0 _ _ rfl rfl) (aD hcb (j := 0) rfl) (ae ⟨rfl,ai rfl (bo aW aV rfl rfl (hIb.rd0 _ _ rfl rfl) (vs := bA ((b.items.getD i ItemX.zero).e) yb) (dw (p := []) (cs := bA ((b.items.getD i ItemX.zero).e) yb) (r := [_]) hcb) rfl (by decide) (ae ⟨rfl,(bu [26,27,28] [_,_,_] rfl rfl (av (first := []) (cap := []) rfl rfl rfl Tryz.call17 (fun w1 h1 => jT _ _ _ _ w1 (ExC.chg h1.chg _ _ (ExK.c _ _ hya)) (ExC.chg h1.chg _ _ (ExK.c _ _ hyb)) (hbd.items i hil).1) (cu rfl rfl (jw rfl rfl rfl rfl (ae ⟨rfl,(ag (aE rfl (fun q2 => ?_) (fun q2 => ?_)))⟩)))))⟩))⟩))⟩))⟩))⟩))⟩))⟩))⟩))⟩))⟩))⟩))⟩))⟩))⟩
       · skip
         refine ab (az [] (.nil _) (aa (o_assignN rfl rfl (ap (aq (an (an (aq (an (aT rfl rfl ?_)))))))))); exact fun w1 hw1 => ⟨congrArg (fun b => Ending.returned (.bool b)) (by exact (decide_eq_false (pF (se (.inr (of_decide_eq_false (ci q2)))))).symm),hw1.chg⟩
       · skip
         exact am (ao (ag (tri_slo [(2,_),(3,_),(5,_)] rfl (aa (ah rfl rfl (bn rfl rfl rfl (by (try simp only [List.length_append,List.length_cons,List.length_nil]); omega) (o_assignN rfl rfl (⟨i + 1,(.cons rfl (.cons rfl (.cons rfl (.nil _)))),fun _ h => h,⟨by omega,upd hi.2 (item_eq hs (of_decide_eq_true (bU q2)))⟩,by omega⟩))))))))
     · skip
       have hd : decide ((a.items.getD i ItemX.zero).s ≠ (b.items.getD i ItemX.zero).s) = true := decide_eq_true hs
       refine tri_slo [(2,_),(3,_),(5,_)] rfl (bj (_) [(0,true),(1,true),(2,true),(3,true),(4,true),(5,true),(6,true),(7,true),(8,true),(9,true),(10,true),(11,true),(12,true),(13,true),(14,true),(15,true),(16,true),(17,true),(18,true),(19,true),(20,true),(21,true),(22,true),(23,true),(24,true),(25,true),(26,false),(27,false),(28,false)] [26,27,28] (by kernel_rfl) (by kernel_rfl) (fun _ h => h) (ai rfl (aj cA rfl rfl (ae ⟨rfl,ai rfl (ak dn N1 rfl rfl rfl (ae ⟨rfl,ai rfl (ah rfl rfl (ae ⟨rfl,ai rfl (aL Tryz.underlying31 iS rfl rfl rfl (hIa.rd0 _ _ rfl rfl) (by (try simp only [List.length_append,List.length_cons,List.length_nil]); omega) (by (try simp only [List.length_append,List.length_cons,List.length_nil]); omega) hIa.len (by decide) (ae ⟨rfl,ai rfl (aJ gL rfl rfl (hIa.rd0 _ _ rfl rfl) (aD hca (j := 0) rfl) (ae ⟨rfl,ai rfl (aH bd rfl rfl (hIa.rd0 _ _ rfl rfl) (aD hca (j := 8) rfl) (ae ⟨rfl,ai rfl (aj cA rfl rfl (ae ⟨rfl,ai rfl (ak dn N0 rfl rfl rfl (ae ⟨rfl,ai rfl (ah rfl rfl (ae ⟨rfl,ai rfl (aL Tryz.underlying31 iS rfl rfl rfl (hIb.rd0 _ _ rfl rfl) (by (try simp only [List.length_append,List.length_cons,List.length_nil]); omega) (by (try simp only [List.length_append,List.length_cons,List.length_nil]); omega) hIb.len (by decide) (ae ⟨rfl,ai rfl (aJ gL rfl rfl (hIb.rd0 _ _ rfl rfl) (aD hcb (j := 0) rfl) (ae ⟨rfl,ai rfl (aH bd rfl rfl (hIb.rd0 _ _ rfl rfl) (aD hcb (j := 8) rfl) (ae ⟨rfl,ai rfl (cY rfl rfl rfl ?_)⟩))⟩))⟩))⟩))⟩))⟩))⟩))⟩))⟩))⟩))⟩))⟩))))
       rw [hd]
       refine ae ⟨rfl,ai rfl (ah rfl rfl (ae ⟨rfl,ai rfl (bL rfl rfl (ae ⟨rfl,ai rfl (bL rfl rfl (ae ⟨rfl,ai rfl (bL rfl rfl (ae ⟨rfl,ai rfl (bL rfl rfl (ae ⟨rfl,ai rfl (bL rfl rfl (ae ⟨rfl,ai rfl (bL rfl rfl (ae ⟨rfl,ai rfl (bL rfl rfl (ae ⟨rfl,ai rfl (bL rfl rfl (ae ⟨rfl,ai rfl (bL rfl rfl (ae ⟨rfl,ai rfl (bL rfl rfl (ae ⟨rfl,ai rfl (bL rfl rfl (ae ⟨rfl,ai rfl (bL rfl rfl (ae ⟨rfl,(bu [26,27,28] [_,_,_] rfl rfl (bL rfl rfl (bL rfl rfl (go rfl rfl rfl rfl (ae ⟨rfl,(ag (ct rfl (ab (az [] (.nil _) (aa (o_assignN rfl rfl (ap (aq ?_))))))))⟩)))))⟩))⟩))⟩))⟩))⟩))⟩))⟩))⟩))⟩))⟩))⟩))⟩))⟩))⟩; refine an (an (aq (an (aT rfl rfl ?_)))); exact fun w1 hw1 => ⟨congrArg (fun b => Ending.returned (.bool b)) (by exact (decide_eq_false (pF (se (.inl hs)))).symm),hw1.chg⟩
   · skip
     have hxi : ∀ j,j < a.items.length → _ = _ := fun j hj => hi.2 j (by omega)
     refine aS (au (au (aG (ag (ab (ab (tri_slo [(2,_),(3,_)] rfl (aa (o_assignN rfl rfl (aw (bf (ι := Nat) (F := fun i => [(2,.pointer (some ⟨b2,0,none⟩)),(3,.pointer (some ⟨b3,0,none⟩)),(6,.int .i64 (i : Int))]) (HH := fun i => [box b3 35 (cI b z),box b2 35 (cI a y)]) (Pu := fun i => i ≤ a.from_.length ∧ ∀ j,j < i → a.from_.getD j SrcX.zero = b.from_.getD j SrcX.zero) (μ := fun i => a.from_.length - i) (0) (.cons rfl (.cons rfl (.cons rfl (.nil _)))) (fun _ h => h) (⟨Nat.zero_le _,fun j hj => absurd hj (by omega)⟩) (fun i hi => ab (ab (aa (ah rfl rfl (aj cp rfl rfl (ak cP N1 rfl rfl rfl (aN Tryz.underlying32 rfl rfl (bK rfl rfl rfl (triL_nilN (ar rfl (fun q4 => ?_) (fun q4 => ?_))))))))))))))))))))))
     · skip
       have hil : i < a.from_.length := by omega
       refine am (ag (ab (aw (ab ?_))))
       obtain ⟨ya,hca,hya⟩ := kc hFa i hil
       obtain ⟨yb,hcb,hyb⟩ := kc hFb i (by omega)
       have h3c : ((a.from_.getD i SrcX.zero).t ≠ (b.from_.getD i SrcX.zero).t) ∨ ((a.from_.getD i SrcX.zero).t = (b.from_.getD i SrcX.zero).t ∧ (a.from_.getD i SrcX.zero).s ≠ (b.from_.getD i SrcX.zero).s) ∨ ((a.from_.getD i SrcX.zero).t = (b.from_.getD i SrcX.zero).t ∧ (a.from_.getD i SrcX.zero).s = (b.from_.getD i SrcX.zero).s) := by
        by_cases h1 : (a.from_.getD i SrcX.zero).t = (b.from_.getD i SrcX.zero).t
        · by_cases h2 : (a.from_.getD i SrcX.zero).s = (b.from_.getD i SrcX.zero).s
          · exact .inr (.inr ⟨h1,h2⟩)
          · exact .inr (.inl ⟨h1,h2⟩)
        · exact .inl h1
       rcases h3c with hs | ⟨ht,hs⟩ | ⟨ht,hs⟩
       · skip
         have hd : decide ((a.from_.getD i SrcX.zero).t ≠ (b.from_.getD i SrcX.zero).t) = true := decide_eq_true hs
         refine tri_slo [(2,_),(3,_),(6,_)] rfl (bj (_) [(0,true),(1,true),(2,true),(3,true),(4,true),(5,true),(6,true),(7,true),(8,true),(9,true),(10,true),(11,true),(12,true),(13,true),(14,true),(15,true),(16,true),(17,true),(18,true),(19,true),(20,true),(21,true),(22,true),(23,true),(24,true),(25,true),(26,true),(27,true),(28,true),(29,true),(30,true),(31,true),(32,true),(33,true),(34,true),(35,true),(36,true),(37,true),(38,true),(39,true),(40,true),(41,false),(42,false),(43,false)] [41,42,43] (by kernel_rfl) (by kernel_rfl) (fun _ h => h) (ai rfl (aj cp rfl rfl (ae ⟨rfl,ai rfl (ak cP N1 rfl rfl rfl (ae ⟨rfl,ai rfl (ah rfl rfl (ae ⟨rfl,ai rfl (aL Tryz.underlying32 dY rfl rfl rfl (hFa.rd0 _ _ rfl rfl) (by (try simp only [List.length_append,List.length_cons,List.length_nil]); omega) (by (try simp only [List.length_append,List.length_cons,List.length_nil]); omega) hFa.len (by decide) (ae ⟨rfl,ai rfl (aJ gO rfl rfl (hFa.rd0 _ _ rfl rfl) (aD hca (j := 0) rfl) (ae ⟨rfl,ai rfl (aH bd rfl rfl (hFa.rd0 _ _ rfl rfl) (aD hca (j := 0) rfl) (ae ⟨rfl,ai rfl (aj cp rfl rfl (ae ⟨rfl,ai rfl (ak cP N0 rfl rfl rfl (ae ⟨rfl,ai rfl (ah rfl rfl (ae ⟨rfl,ai rfl (aL Tryz.underlying32 dY rfl rfl rfl (hFb.rd0 _ _ rfl rfl) (by (try simp only [List.length_append,List.length_cons,List.length_nil]); omega) (by (try simp only [List.length_append,List.length_cons,List.length_nil]); omega) hFb.len (by decide) (ae ⟨rfl,ai rfl (aJ gO rfl rfl (hFb.rd0 _ _ rfl rfl) (aD hcb (j := 0) rfl) (ae ⟨rfl,ai rfl (aH bd rfl rfl (hFb.rd0 _ _ rfl rfl) (aD hcb (j := 0) rfl) (ae ⟨rfl,ai rfl (cY rfl rfl rfl ?_)⟩))⟩))⟩))⟩))⟩))⟩))⟩))⟩))⟩))⟩))⟩))⟩))))
         rw [hd]
         refine ae ⟨rfl,ai rfl (ah rfl rfl (ae ⟨rfl,ai rfl (bL rfl rfl (ae ⟨rfl,ai rfl (bL rfl rfl (ae ⟨rfl,ai rfl (bL rfl rfl (ae ⟨rfl,ai rfl (bL rfl rfl (ae ⟨rfl,ai rfl (bL rfl rfl (ae ⟨rfl,ai rfl (bL rfl rfl (ae ⟨rfl,ai rfl (bL rfl rfl (ae ⟨rfl,ai rfl (bL rfl rfl (ae ⟨rfl,ai rfl (bL rfl rfl (ae ⟨rfl,ai rfl (bL rfl rfl (ae ⟨rfl,ai rfl (bL rfl rfl (ae ⟨rfl,ai rfl (bL rfl rfl (ae ⟨rfl,ai rfl (bL rfl rfl ?_)⟩))⟩))⟩))⟩))⟩))⟩))⟩))⟩))⟩))⟩))⟩))⟩))⟩))⟩
         try rw [he]
         refine ae ⟨rfl,ai rfl (go rfl rfl rfl rfl (ae ⟨rfl,ai rfl (ah rfl rfl (ae ⟨rfl,ai rfl (bL rfl rfl (ae ⟨rfl,ai rfl (bL rfl rfl (ae ⟨rfl,ai rfl (bL rfl rfl (ae ⟨rfl,ai rfl (bL rfl rfl (ae ⟨rfl,ai rfl (bL rfl rfl (ae ⟨rfl,ai rfl (bL rfl rfl (ae ⟨rfl,ai rfl (bL rfl rfl (ae ⟨rfl,ai rfl (bL rfl rfl (ae ⟨rfl,ai rfl (bL rfl rfl (ae ⟨rfl,ai rfl (bL rfl rfl (ae ⟨rfl,ai rfl (bL rfl rfl (ae ⟨rfl,ai rfl (bL rfl rfl (ae ⟨rfl,(bu [41,42,43] [_,_,_] rfl rfl (bL rfl rfl (bL rfl rfl (go rfl rfl rfl rfl (ae ⟨rfl,(ag (ct rfl (ab (az [] (.nil _) (aa (o_assignN rfl rfl ?_))))))⟩)))))⟩))⟩))⟩))⟩))⟩))⟩))⟩))⟩))⟩))⟩))⟩))⟩))⟩))⟩))⟩; refine ap (aq (an (an (aq (an (aT rfl rfl ?_)))))); exact fun w1 hw1 => ⟨congrArg (fun b => Ending.returned (.bool b)) (by exact (decide_eq_false (ot (qX (.inl hs)))).symm),hw1.chg⟩
       · skip
         have hd : decide ((a.from_.getD i SrcX.zero).t ≠ (b.from_.getD i SrcX.zero).t) = false := decide_eq_false (fun h => h ht)
         have he : decide ((a.from_.getD i SrcX.zero).s ≠ (b.from_.getD i SrcX.zero).s) = true := decide_eq_true hs
         refine tri_slo [(2,_),(3,_),(6,_)] rfl (bj (_) [(0,true),(1,true),(2,true),(3,true),(4,true),(5,true),(6,true),(7,true),(8,true),(9,true),(10,true),(11,true),(12,true),(13,true),(14,true),(15,true),(16,true),(17,true),(18,true),(19,true),(20,true),(21,true),(22,true),(23,true),(24,true),(25,true),(26,true),(27,true),(28,true),(29,true),(30,true),(31,true),(32,true),(33,true),(34,true),(35,true),(36,true),(37,true),(38,true),(39,true),(40,true),(41,false),(42,false),(43,false)] [41,42,43] (by kernel_rfl) (by kernel_rfl) (fun _ h => h) (ai rfl (aj cp rfl rfl (ae ⟨rfl,ai rfl (ak cP N1 rfl rfl rfl (ae ⟨rfl,ai rfl (ah rfl rfl (ae ⟨rfl,ai rfl (aL Tryz.underlying32 dY rfl rfl rfl (hFa.rd0 _ _ rfl rfl) (by (try simp only [List.length_append,List.length_cons,List.length_nil]); omega) (by (try simp only [List.length_append,List.length_cons,List.length_nil]); omega) hFa.len (by decide) (ae ⟨rfl,ai rfl (aJ gO rfl rfl (hFa.rd0 _ _ rfl rfl) (aD hca (j := 0) rfl) (ae ⟨rfl,ai rfl (aH bd rfl rfl (hFa.rd0 _ _ rfl rfl) (aD hca (j := 0) rfl) (ae ⟨rfl,ai rfl (aj cp rfl rfl (ae ⟨rfl,ai rfl (ak cP N0 rfl rfl rfl (ae ⟨rfl,ai rfl (ah rfl rfl (ae ⟨rfl,ai rfl (aL Tryz.underlying32 dY rfl rfl rfl (hFb.rd0 _ _ rfl rfl) (by (try simp only [List.length_append,List.length_cons,List.length_nil]); omega) (by (try simp only [List.length_append,List.length_cons,List.length_nil]); omega) hFb.len (by decide) (ae ⟨rfl,ai rfl (aJ gO rfl rfl (hFb.rd0 _ _ rfl rfl) (aD hcb (j := 0) rfl) (ae ⟨rfl,ai rfl (aH bd rfl rfl (hFb.rd0 _ _ rfl rfl) (aD hcb (j := 0) rfl) (ae ⟨rfl,ai rfl (cY rfl rfl rfl ?_)⟩))⟩))⟩))⟩))⟩))⟩))⟩))⟩))⟩))⟩))⟩))⟩))))
         rw [hd]
         refine ae ⟨rfl,ai rfl (ah rfl rfl (ae ⟨rfl,ai rfl (aj cp rfl rfl (ae ⟨rfl,ai rfl (ak cP N1 rfl rfl rfl (ae ⟨rfl,ai rfl (ah rfl rfl (ae ⟨rfl,ai rfl (aL Tryz.underlying32 dY rfl rfl rfl (hFa.rd0 _ _ rfl rfl) (by (try simp only [List.length_append,List.length_cons,List.length_nil]); omega) (by (try simp only [List.length_append,List.length_cons,List.length_nil]); omega) hFa.len (by decide) (ae ⟨rfl,ai rfl (aJ fY rfl rfl (hFa.rd0 _ _ rfl rfl) (aD hca (j := 0) rfl) (ae ⟨rfl,ai rfl (aH bd rfl rfl (hFa.rd0 _ _ rfl rfl) (aD hca (j := 1) rfl) (ae ⟨rfl,ai rfl (aj cp rfl rfl (ae ⟨rfl,ai rfl (ak cP N0 rfl rfl rfl (ae ⟨rfl,ai rfl (ah rfl rfl (ae ⟨rfl,ai rfl (aL Tryz.underlying32 dY rfl rfl rfl (hFb.rd0 _ _ rfl rfl) (by (try simp only [List.length_append,List.length_cons,List.length_nil]); omega) (by (try simp only [List.length_append,List.length_cons,List.length_nil]); omega) hFb.len (by decide) (ae ⟨rfl,ai rfl (aJ fY rfl rfl (hFb.rd0 _ _ rfl rfl) (aD hcb (j := 0) rfl) (ae ⟨rfl,ai rfl (aH bd rfl rfl (hFb.rd0 _ _ rfl rfl) (aD hcb (j := 1) rfl) (ae ⟨rfl,ai rfl (cY rfl rfl rfl ?_)⟩))⟩))⟩))⟩))⟩))⟩))⟩))⟩))⟩))⟩))⟩))⟩))⟩))⟩
         try rw [he]
         refine ae ⟨rfl,ai rfl (jw rfl rfl rfl rfl (ae ⟨rfl,ai rfl (ah rfl rfl (ae ⟨rfl,ai rfl (bL rfl rfl (ae ⟨rfl,ai rfl (bL rfl rfl (ae ⟨rfl,ai rfl (bL rfl rfl (ae ⟨rfl,ai rfl (bL rfl rfl (ae ⟨rfl,ai rfl (bL rfl rfl (ae ⟨rfl,ai rfl (bL rfl rfl (ae ⟨rfl,ai rfl (bL rfl rfl (ae ⟨rfl,ai rfl (bL rfl rfl (ae ⟨rfl,ai rfl (bL rfl rfl (ae ⟨rfl,ai rfl (bL rfl rfl (ae ⟨rfl,ai rfl (bL rfl rfl (ae ⟨rfl,ai rfl (bL rfl rfl (ae ⟨rfl,(bu [41,42,43] [_,_,_] rfl rfl (bL rfl rfl (bL rfl rfl (go rfl rfl rfl rfl (ae ⟨rfl,(ag (ct rfl (ab (az [] (.nil _) (aa (o_assignN rfl rfl ?_))))))⟩)))))⟩))⟩))⟩))⟩))⟩))⟩))⟩))⟩))⟩))⟩))⟩))⟩))⟩))⟩))⟩; refine ap (aq (an (an (aq (an (aT rfl rfl ?_)))))); exact fun w1 hw1 => ⟨congrArg (fun b => Ending.returned (.bool b)) (by exact (decide_eq_false (ot (qX (.inr (.inl hs))))).symm),hw1.chg⟩
       · skip
         have hd : decide ((a.from_.getD i SrcX.zero).t ≠ (b.from_.getD i SrcX.zero).t) = false := decide_eq_false (fun h => h ht)
         have he : decide ((a.from_.getD i SrcX.zero).s ≠ (b.from_.getD i SrcX.zero).s) = false := decide_eq_false (fun h => h hs)
         refine tri_slo [(2,_),(3,_),(6,_)] rfl (bj (_) [(0,true),(1,true),(2,true),(3,true),(4,true),(5,true),(6,true),(7,true),(8,true),(9,true),(10,true),(11,true),(12,true),(13,true),(14,true),(15,true),(16,true),(17,true),(18,true),(19,true),(20,true),(21,true),(22,true),(23,true),(24,true),(25,true),(26,true),(27,true),(28,true),(29,true),(30,true),(31,true),(32,true),(33,true),(34,true),(35,true),(36,true),(37,true),(38,true),(39,true),(40,true),(41,false),(42,false),(43,false)] [41,42,43] (by kernel_rfl) (by kernel_rfl) (fun _ h => h) (ai rfl (aj cp rfl rfl (ae ⟨rfl,ai rfl (ak cP N1 rfl rfl rfl (ae ⟨rfl,ai rfl (ah rfl rfl (ae ⟨rfl,ai rfl (aL Tryz.underlying32 dY rfl rfl rfl (hFa.rd0 _ _ rfl rfl) (by (try simp only [List.length_append,List.length_cons,List.length_nil]); omega) (by (try simp only [List.length_append,List.length_cons,List.length_nil]); omega) hFa.len (by decide) (ae ⟨rfl,ai rfl (aJ gO rfl rfl (hFa.rd0 _ _ rfl rfl) (aD hca (j := 0) rfl) (ae ⟨rfl,ai rfl (aH bd rfl rfl (hFa.rd0 _ _ rfl rfl) (aD hca (j := 0) rfl) (ae ⟨rfl,ai rfl (aj cp rfl rfl (ae ⟨rfl,ai rfl (ak cP N0 rfl rfl rfl (ae ⟨rfl,ai rfl (ah rfl rfl (ae ⟨rfl,ai rfl (aL Tryz.underlying32 dY rfl rfl rfl (hFb.rd0 _ _ rfl rfl) (by (try simp only [List.length_append,List.length_cons,List.length_nil]); omega) (by (try simp only [List.length_append,List.length_cons,List.length_nil]); omega) hFb.len (by decide) (ae ⟨rfl,ai rfl (aJ gO rfl rfl (hFb.rd0 _ _ rfl rfl) (aD hcb (j := 0) rfl) (ae ⟨rfl,ai rfl (aH bd rfl rfl (hFb.rd0 _ _ rfl rfl) (aD hcb (j := 0) rfl) (ae ⟨rfl,ai rfl (cY rfl rfl rfl ?_)⟩))⟩))⟩))⟩))⟩))⟩))⟩))⟩))⟩))⟩))⟩))⟩))))
         rw [hd]
         refine ae ⟨rfl,ai rfl (ah rfl rfl (ae ⟨rfl,ai rfl (aj cp rfl rfl (ae ⟨rfl,ai rfl (ak cP N1 rfl rfl rfl (ae ⟨rfl,ai rfl (ah rfl rfl (ae ⟨rfl,ai rfl (aL Tryz.underlying32 dY rfl rfl rfl (hFa.rd0 _ _ rfl rfl) (by (try simp only [List.length_append,List.length_cons,List.length_nil]); omega) (by (try simp only [List.length_append,List.length_cons,List.length_nil]); omega) hFa.len (by decide) (ae ⟨rfl,ai rfl (aJ fY rfl rfl (hFa.rd0 _ _ rfl rfl) (aD hca (j := 0) rfl) (ae ⟨rfl,ai rfl (aH bd rfl rfl (hFa.rd0 _ _ rfl rfl) (aD hca (j := 1) rfl) (ae ⟨rfl,ai rfl (aj cp rfl rfl (ae ⟨rfl,ai rfl (ak cP N0 rfl rfl rfl (ae ⟨rfl,ai rfl (ah rfl rfl (ae ⟨rfl,ai rfl (aL Tryz.underlying32 dY rfl rfl rfl (hFb.rd0 _ _ rfl rfl) (by (try simp only [List.length_append,List.length_cons,List.length_nil]); omega) (by (try simp only [List.length_append,List.length_cons,List.length_nil]); omega) hFb.len (by decide) (ae ⟨rfl,ai rfl (aJ fY rfl rfl (hFb.rd0 _ _ rfl rfl) (aD hcb (j := 0) rfl) (ae ⟨rfl,ai rfl (aH bd rfl rfl (hFb.rd0 _ _ rfl rfl) (aD hcb (j := 1) rfl) (ae ⟨rfl,ai rfl (cY rfl rfl rfl ?_)⟩))⟩))⟩))⟩))⟩))⟩))⟩))⟩))⟩))⟩))⟩))⟩))⟩))⟩
         try rw [he]
         refine ae ⟨rfl,ai rfl (jw rfl rfl rfl rfl (ae ⟨rfl,ai rfl (ah rfl rfl (ae ⟨rfl,ai rfl (aj cp rfl rfl (ae ⟨rfl,ai rfl (ak cP N1 rfl rfl rfl (ae ⟨rfl,ai rfl (ah rfl rfl (ae ⟨rfl,ai rfl (aL Tryz.underlying32 dY rfl rfl rfl (hFa.rd0 _ _ rfl rfl) (by (try simp only [List.length_append,List.length_cons,List.length_nil]); omega) (by (try simp only [List.length_append,List.length_cons,List.length_nil]); omega) hFa.len (by decide) (ae ⟨rfl,ai rfl (aJ iU rfl rfl (hFa.rd0 _ _ rfl rfl) (aD hca (j := 0) rfl) (ae ⟨rfl,ai rfl (bo aW aV rfl rfl (hFa.rd0 _ _ rfl rfl) (vs := bA ((a.from_.getD i SrcX.zero).e) ya) (dw (p := [.string (B (a.from_.getD i SrcX.zero).t),.string (B (a.from_.getD i SrcX.zero).s)]) (cs := bA ((a.from_.getD i SrcX.zero).e) ya) (r := []) hca) rfl (by decide) (ae ⟨rfl,ai rfl (aj cp rfl rfl (ae ⟨rfl,ai rfl (ak cP N0 rfl rfl rfl (ae ⟨rfl,ai rfl (ah rfl rfl (ae ⟨rfl,ai rfl (aL Tryz.underlying32 dY rfl rfl rfl (hFb.rd0 _ _ rfl rfl) (by (try simp only [List.length_append,List.length_cons,List.length_nil]); omega) (by (try simp only [List.length_append,List.length_cons,List.length_nil]); omega) hFb.len (by decide) (ae ⟨rfl,ai rfl (aJ iU rfl rfl (hFb.rd0 _ _ rfl rfl) (aD hcb (j := 0) rfl) (ae ⟨rfl,ai rfl (bo aW aV rfl rfl (hFb.rd0 _ _ rfl rfl) (vs := bA ((b.from_.getD i SrcX.zero).e) yb) (dw (p := [.string (B (b.from_.getD i SrcX.zero).t),.string (B (b.from_.getD i SrcX.zero).s)]) (cs := bA ((b.from_.getD i SrcX.zero).e) yb) (r := []) hcb) rfl (by decide) (ae ⟨rfl,(bu [41,42,43] [_,_,_] rfl rfl (av (first := []) (cap := []) rfl rfl rfl Tryz.call17 (fun w1 h1 => jT _ _ _ _ w1 (ExC.chg h1.chg _ _ (ExK.c _ _ hya)) (ExC.chg h1.chg _ _ (ExK.c _ _ hyb)) (hbd.from_ i hil).1) (cu rfl rfl (jw rfl rfl rfl rfl (ae ⟨rfl,(ag (aE rfl (fun q7 => ?_) (fun q7 => ?_)))⟩)))))⟩))⟩))⟩))⟩))⟩))⟩))⟩))⟩))⟩))⟩))⟩))⟩))⟩))⟩))⟩
         · skip
           refine ab (az [] (.nil _) (aa (o_assignN rfl rfl (ap (aq (an (an (aq (an (aT rfl rfl ?_)))))))))); exact fun w1 hw1 => ⟨congrArg (fun b => Ending.returned (.bool b)) (by exact (decide_eq_false (ot (qX (.inr (.inr (of_decide_eq_false (ci q7))))))).symm),hw1.chg⟩
         · skip
           exact am (ao (ag (tri_slo [(2,_),(3,_),(6,_)] rfl (aa (ah rfl rfl (bn rfl rfl rfl (by (try simp only [List.length_append,List.length_cons,List.length_nil]); omega) (o_assignN rfl rfl (⟨i + 1,(.cons rfl (.cons rfl (.cons rfl (.nil _)))),fun _ h => h,⟨by omega,upd hi.2 (src_eq ht hs (of_decide_eq_true (bU q7)))⟩,by omega⟩))))))))
     · skip
       have hxf : ∀ j,j < a.from_.length → _ = _ := fun j hj => hi.2 j (by omega)
       refine aS (au (au (aG (ag (ab (ab (tri_slo [(2,_),(3,_)] rfl (aa (o_assignN rfl rfl (aw (bf (ι := Nat) (F := fun i => [(2,.pointer (some ⟨b2,0,none⟩)),(3,.pointer (some ⟨b3,0,none⟩)),(7,.int .i64 (i : Int))]) (HH := fun i => [box b3 35 (cI b z),box b2 35 (cI a y)]) (Pu := fun i => i ≤ a.ord.length ∧ ∀ j,j < i → a.ord.getD j OrdX.zero = b.ord.getD j OrdX.zero) (μ := fun i => a.ord.length - i) (0) (.cons rfl (.cons rfl (.cons rfl (.nil _)))) (fun _ h => h) (⟨Nat.zero_le _,fun j hj => absurd hj (by omega)⟩) (fun i hi => ab (ab (aa (ah rfl rfl (aj dl rfl rfl (ak eP N1 rfl rfl rfl (aN Tryz.underlying33 rfl rfl (bK rfl rfl rfl (triL_nilN (ar rfl (fun q8 => ?_) (fun q8 => ?_))))))))))))))))))))))
       · skip
         have hil : i < a.ord.length := by omega
         refine am (ag (ab (aw (ab (tri_slo [(2,_),(3,_),(7,_)] rfl ?_)))))
         have hca := ld hOa i hil
         have hcb := ld hOb i (by omega)
         refine bj (_) [(0,true),(1,true),(2,true),(3,true),(4,true),(5,true),(6,true),(7,true),(8,true),(9,true),(10,false)] [10] (by kernel_rfl) (by kernel_rfl) (fun _ h => h) (ai rfl (aj dl rfl rfl (ae ⟨rfl,ai rfl (ak eP N1 rfl rfl rfl (ae ⟨rfl,ai rfl (ah rfl rfl (ae ⟨rfl,ai rfl (aL Tryz.underlying33 hZ rfl rfl rfl (hOa.rd0 _ _ rfl rfl) (by (try simp only [List.length_append,List.length_cons,List.length_nil]); omega) (by (try simp only [List.length_append,List.length_cons,List.length_nil]); omega) hOa.len (by decide) (ae ⟨rfl,ai rfl (bo oH hZ rfl rfl (hOa.rd0 _ _ rfl rfl) (vs := OrdX.cs (a.ord.getD i OrdX.zero)) hca rfl (by decide) (ae ⟨rfl,ai rfl (aj dl rfl rfl (ae ⟨rfl,ai rfl (ak eP N0 rfl rfl rfl (ae ⟨rfl,ai rfl (ah rfl rfl (ae ⟨rfl,ai rfl (aL Tryz.underlying33 hZ rfl rfl rfl (hOb.rd0 _ _ rfl rfl) (by (try simp only [List.length_append,List.length_cons,List.length_nil]); omega) (by (try simp only [List.length_append,List.length_cons,List.length_nil]); omega) hOb.len (by decide) (ae ⟨rfl,ai rfl (bo oH hZ rfl rfl (hOb.rd0 _ _ rfl rfl) (vs := OrdX.cs (b.ord.getD i OrdX.zero)) hcb rfl (by decide) (ae ⟨rfl,(bu [10] [_] rfl rfl (o_neqOrd flat121 rfl rfl rfl (ae ⟨rfl,(ag (aE rfl (fun q9 => ?_) (fun q9 => ?_)))⟩)))⟩))⟩))⟩))⟩))⟩))⟩))⟩))⟩))⟩))⟩)))
         · skip
           refine ab (az [] (.nil _) (aa (o_assignN rfl rfl (ap (aq (an (an (aq (an (aT rfl rfl ?_)))))))))); exact fun w1 hw1 => ⟨congrArg (fun b => Ending.returned (.bool b)) (by exact (decide_eq_false (ords_ne (of_decide_eq_false (ci q9)))).symm),hw1.chg⟩
         · skip
           exact am (ao (ag (tri_slo [(2,_),(3,_),(7,_)] rfl (aa (ah rfl rfl (bn rfl rfl rfl (by (try simp only [List.length_append,List.length_cons,List.length_nil]); omega) (o_assignN rfl rfl (⟨i + 1,(.cons rfl (.cons rfl (.cons rfl (.nil _)))),fun _ h => h,⟨by omega,upd hi.2 (of_decide_eq_true (bU q9))⟩,by omega⟩))))))))
       · skip
         have hxo : ∀ j,j < a.ord.length → _ = _ := fun j hj => hi.2 j (by omega)
         refine aS (au (au (aG (ag (ab (az [] (.nil _) (aa (o_assignN rfl rfl (ap (aT rfl rfl ?_)))))))))); exact fun w1 hw1 => ⟨congrArg (fun b => Ending.returned (.bool b)) (by exact (decide_eq_true (sq_eq q0 hxi hxf hxo)).symm),hw1.chg⟩
end Go.Proofs.YtjbpkcbefmpfgaaGreatDoor
namespace Go.Proofs.YtjbpkcbefmpfgaaGreatDoor
open Go.WK Go.RowKit 
set_option maxRecDepth 100000 in
set_option maxHeartbeats 2000000 in
theorem sK (a b : StmtX) (y z : Lay) (bl bm : List Nat) (w : World) (hA : SAt bl w a y) (hB : SAt bm w b z) (hbl : ∀ k ∈ bl,k < w.heap.size) (hbm : ∀ k ∈ bm,k < w.heap.size) (hbd : SBd a) : Calls Tryz.prog 16 #[.agg (bk a y).toArray,.agg (bk b z).toArray] w (bX w (.bool (decide (a = b)))) := by
 refine ay (args := [.agg (bk a y).toArray,.agg (bk b z).toArray]) (lent := []) (H := []) Tryz.func16 rfl Tryz.ntmps16 rfl (Sat.start _ _ _ _) ((show Tri _ [(0,_),(1,_)] _ _ _ from ?_))
 obtain ⟨xCa,xNa,xRa,xSa,xIa,xFa,xOa,hCa,hNa,hRa,hSa,hWa,hQa⟩ := id hA
 obtain ⟨xCb,xNb,xRb,xSb,xIb,xFb,xOb,hCb,hNb,hRb,hSb,hWb,hQb⟩ := id hB
 have n1 : a.rows.length ≤ 70368744177664 := hbd.nr
 have n2 : a.sets.length ≤ 70368744177664 := hbd.ns
 refine ab (aa (bY _ rfl rfl rfl (fun b2 => bY _ rfl rfl rfl (fun b3 => o_assignN rfl rfl (ab (ab (aa (aj dK rfl rfl (ak bz N1 rfl rfl rfl (aj dK rfl rfl (ak bz N0 rfl rfl rfl (cB rfl rfl rfl (ah rfl rfl ?_)))))))))))))
 refine' aQ [_,_,_,_,_] [(3,_),(2,_)] (dj := 12) (dr := 17) rfl rfl (fun g1 => ?_) ⟨_,rfl,rfl,rfl,(.cons rfl (.cons rfl (.nil _)))⟩ rfl ?_
 rotate_left
 · skip
   exact aj cl rfl rfl (ak bd N1 rfl rfl rfl (aj cl rfl rfl (ak bd N0 rfl rfl rfl (cY rfl rfl rfl (ae (Piece.mk rfl rfl (.cons rfl (.cons rfl (.nil _))) (fun _ h => h)))))))
 refine ah rfl rfl ?_
 refine' aQ [_,_,_,_,_] [(3,_),(2,_)] (dj := 19) (dr := 24) rfl rfl (fun g2 => ?_) ⟨_,rfl,rfl,rfl,(.cons rfl (.cons rfl (.nil _)))⟩ rfl ?_
 rotate_left
 · skip
   exact aj dL rfl rfl (ak bd N1 rfl rfl rfl (aj dL rfl rfl (ak bd N0 rfl rfl rfl (cY rfl rfl rfl (ae (Piece.mk rfl rfl (.cons rfl (.cons rfl (.nil _))) (fun _ h => h)))))))
 refine ah rfl rfl ?_
 refine' aQ [_,_,_,_,_] [(3,_),(2,_)] (dj := 26) (dr := 31) rfl rfl (fun g3 => ?_) ⟨_,rfl,rfl,rfl,(.cons rfl (.cons rfl (.nil _)))⟩ rfl ?_
 rotate_left
 · skip
   exact aj il rfl rfl (ak eb N1 rfl rfl rfl (aj il rfl rfl (ak eb N0 rfl rfl rfl (lS rfl Tryz.underlying4 rfl rfl (ae (Piece.mk rfl rfl (.cons rfl (.cons rfl (.nil _))) (fun _ h => h)))))))
 refine ah rfl rfl ?_
 refine' aQ [_,_,_,_,_,_] [(3,_),(2,_)] (dj := 33) (dr := 39) rfl rfl (fun g4 => ?_) ⟨_,rfl,rfl,rfl,(.cons rfl (.cons rfl (.nil _)))⟩ rfl ?_
 rotate_left
 · skip
   exact aj db rfl rfl (ak eQ N1 rfl rfl rfl (aj db rfl rfl (ak eQ N0 rfl rfl rfl (av (first := []) (cap := []) rfl rfl rfl Tryz.call48 (fun w1 h1 => tM a.cols b.cols y.C z.C bl bm xCa xCb w1 (hCa.stab (fun k hk => h1.chg.block k (hbl k hk) (by simp))) (hCb.stab (fun k hk => h1.chg.block k (hbm k hk) (by simp))) hbd.nc) (cu rfl rfl (ae (Piece.mk rfl rfl (.cons rfl (.cons rfl (.nil _))) (fun _ h => h))))))))
 refine ah rfl rfl ?_
 refine' aQ [_,_,_,_,_,_] [(3,_),(2,_)] (dj := 41) (dr := 47) rfl rfl (fun g5 => ?_) ⟨_,rfl,rfl,rfl,(.cons rfl (.cons rfl (.nil _)))⟩ rfl ?_
 rotate_left
 · skip
   exact aj dF rfl rfl (ak fP N1 rfl rfl rfl (aj dF rfl rfl (ak fP N0 rfl rfl rfl (av (first := []) (cap := []) rfl rfl rfl Tryz.call49 (fun w1 h1 => rv a.on b.on y.N z.N bl bm xNa xNb w1 (hNa.stab (fun k hk => h1.chg.block k (hbl k hk) (by simp))) (hNb.stab (fun k hk => h1.chg.block k (hbm k hk) (by simp))) hbd.nn) (cu rfl rfl (ae (Piece.mk rfl rfl (.cons rfl (.cons rfl (.nil _))) (fun _ h => h))))))))
 refine ah rfl rfl ?_
 refine' aQ [_,_,_,_,_,_] [(3,_),(2,_)] (dj := 49) (dr := 55) rfl rfl (fun g6 => ?_) ⟨_,rfl,rfl,rfl,(.cons rfl (.cons rfl (.nil _)))⟩ rfl ?_
 rotate_left
 · skip
   exact aj dx rfl rfl (aC aW aV (.s .z) rfl rfl (vs := bA a.wh y.W) rfl rfl (aj dx rfl rfl (aC aW aV .z rfl rfl (vs := bA b.wh z.W) rfl rfl (av (first := []) (cap := []) rfl rfl rfl Tryz.call17 (fun w1 h1 => jT _ _ _ _ w1 (ExC.chg h1.chg _ _ (ExK.c _ _ hWa)) (ExC.chg h1.chg _ _ (ExK.c _ _ hWb)) hbd.wh) (cu rfl rfl (ae (Piece.mk rfl rfl (.cons rfl (.cons rfl (.nil _))) (fun _ h => h))))))))
 refine ah rfl rfl ?_
 refine' aQ [_,_,_,_,_,_] [(3,_),(2,_)] (dj := 57) (dr := 63) rfl rfl (fun g7 => ?_) ⟨_,rfl,rfl,rfl,(.cons rfl (.cons rfl (.nil _)))⟩ rfl ?_
 rotate_left
 · skip
   exact aj fv rfl rfl (aC jS jL (.s .z) rfl rfl (vs := cI a.q y.q) rfl rfl (aj fv rfl rfl (aC jS jL .z rfl rfl (vs := cI b.q z.q) rfl rfl (av (first := []) (cap := []) rfl rfl rfl Tryz.call50 (fun w1 h1 => sameQK a.q b.q y.q z.q bl bm w1 (hA.q.stab (fun k hk => h1.chg.block k (hbl k hk) (by simp))) (hB.q.stab (fun k hk => h1.chg.block k (hbm k hk) (by simp))) hbd.q) (cu rfl rfl (ae (Piece.mk rfl rfl (.cons rfl (.cons rfl (.nil _))) (fun _ h => h))))))))
 refine ah rfl rfl ?_
 refine' aQ [_,_,_,_,_,_,_] [(3,_),(2,_)] (dj := 65) (dr := 72) rfl rfl (fun g8 => ?_) ⟨_,rfl,rfl,rfl,(.cons rfl (.cons rfl (.nil _)))⟩ rfl ?_
 rotate_left
 · skip
   exact aj dc rfl rfl (ak eR N1 rfl rfl rfl (aN Tryz.underlying24 rfl rfl (aj dc rfl rfl (ak eR N0 rfl rfl rfl (aN Tryz.underlying24 rfl rfl (cB rfl rfl rfl (ae (Piece.mk rfl rfl (.cons rfl (.cons rfl (.nil _))) (fun _ h => h)))))))))
 refine ah rfl rfl ?_
 refine' aQ [_,_,_,_,_,_,_] [(3,_),(2,_)] (dj := 74) (dr := 81) rfl rfl (fun g9 => ?_) ⟨_,rfl,rfl,rfl,(.cons rfl (.cons rfl (.nil _)))⟩ rfl ?_
 rotate_left
 · skip
   exact aj cC rfl rfl (ak dz N1 rfl rfl rfl (aN Tryz.underlying25 rfl rfl (aj cC rfl rfl (ak dz N0 rfl rfl rfl (aN Tryz.underlying25 rfl rfl (cB rfl rfl rfl (ae (Piece.mk rfl rfl (.cons rfl (.cons rfl (.nil _))) (fun _ h => h)))))))))
 refine triL_nilN (aE rfl (fun q0 => ?_) (fun q0 => ?_))
 · skip
   have q0 : ssB a b = true := q0
   refine ab (aa (o_assignN rfl rfl (ap (an (aT rfl rfl ?_))))); exact fun w1 hw1 => ⟨congrArg (fun b => Ending.returned (.bool b)) (by exact (decide_eq_false (ss_ne q0)).symm),hw1.chg⟩
 · skip
   have q0 : ssB a b = false := q0
   obtain ⟨_,hlr,hls⟩ := ss_no q0
   refine am (ag (ab (ab (aa (o_assignN rfl rfl (aw (bf (ι := Nat) (F := fun i => [(2,.pointer (some ⟨b2,0,none⟩)),(3,.pointer (some ⟨b3,0,none⟩)),(5,.int .i64 (i : Int))]) (HH := fun i => [box b3 37 (bk b z),box b2 37 (bk a y)]) (Pu := fun i => i ≤ a.rows.length ∧ ∀ j,j < i → a.rows.getD j [] = b.rows.getD j []) (μ := fun i => a.rows.length - i) (0) (.cons rfl (.cons rfl (.cons rfl (.nil _)))) (fun _ h => h) (⟨Nat.zero_le _,fun j hj => absurd hj (by omega)⟩) (fun i hi => ab (ab (aa (ah rfl rfl (aj dc rfl rfl (ak eR N1 rfl rfl rfl (aN Tryz.underlying24 rfl rfl (bK rfl rfl rfl (triL_nilN (ar rfl (fun q1 => ?_) (fun q1 => ?_))))))))))))))))))
   · skip
     have hil : i < a.rows.length := by omega
     refine am (ag (ab (aw (ab (tri_slo [(2,_),(3,_),(5,_)] rfl ?_)))))
     obtain ⟨yra,xra,hca,hRa2⟩ := iO hRa i hil
     obtain ⟨yrb,xrb,hcb,hRb2⟩ := iO hRb i (by omega)
     refine bj (_) [(0,true),(1,true),(2,true),(3,true),(4,true),(5,true),(6,true),(7,true),(8,true),(9,true),(10,false),(11,false)] [10,11] (by kernel_rfl) (by kernel_rfl) (fun _ h => h) (ai rfl (aj dc rfl rfl (ae ⟨rfl,ai rfl (ak eR N1 rfl rfl rfl (ae ⟨rfl,ai rfl (ah rfl rfl (ae ⟨rfl,ai rfl (aL Tryz.underlying24 sz28 rfl rfl rfl (hRa.rd0 _ _ rfl rfl) (by (try simp only [List.length_append,List.length_cons,List.length_nil]); omega) (by (try simp only [List.length_append,List.length_cons,List.length_nil]); omega) hRa.len (by decide) (ae ⟨rfl,ai rfl (aH cM rfl rfl (hRa.rd0 _ _ rfl rfl) (aD hca (j := 0) rfl) (ae ⟨rfl,ai rfl (aj dc rfl rfl (ae ⟨rfl,ai rfl (ak eR N0 rfl rfl rfl (ae ⟨rfl,ai rfl (ah rfl rfl (ae ⟨rfl,ai rfl (aL Tryz.underlying24 sz28 rfl rfl rfl (hRb.rd0 _ _ rfl rfl) (by (try simp only [List.length_append,List.length_cons,List.length_nil]); omega) (by (try simp only [List.length_append,List.length_cons,List.length_nil]); omega) hRb.len (by decide) (ae ⟨rfl,ai rfl (aH cM rfl rfl (hRb.rd0 _ _ rfl rfl) (aD hcb (j := 0) rfl) (ae ⟨rfl,(bu [10,11] [_,_] rfl rfl (av (first := []) (cap := []) rfl rfl rfl Tryz.call51 (fun w1 h1 => sameExsK _ _ yra yrb bl bm xra xrb w1 (hRa2.stab (fun k hk => h1.chg.block k (hbl k hk) (by simp))) (hRb2.stab (fun k hk => h1.chg.block k (hbm k hk) (by simp))) (hbd.rows i hil).1 (hbd.rows i hil).2) (cu rfl rfl (ae ⟨rfl,(ag (aE rfl (fun q2 => ?_) (fun q2 => ?_)))⟩))))⟩))⟩))⟩))⟩))⟩))⟩))⟩))⟩))⟩))⟩)))
     · skip
       refine ab (az [] (.nil _) (aa (o_assignN rfl rfl (ap (aq (an (an (aq (an (aT rfl rfl ?_)))))))))); exact fun w1 hw1 => ⟨congrArg (fun b => Ending.returned (.bool b)) (by exact (decide_eq_false (rows_ne (of_decide_eq_false (ci q2)))).symm),hw1.chg⟩
     · skip
       exact am (ao (ag (tri_slo [(2,_),(3,_),(5,_)] rfl (aa (ah rfl rfl (bn rfl rfl rfl (by (try simp only [List.length_append,List.length_cons,List.length_nil]); omega) (o_assignN rfl rfl (⟨i + 1,(.cons rfl (.cons rfl (.cons rfl (.nil _)))),fun _ h => h,⟨by omega,upd hi.2 (of_decide_eq_true (bU q2))⟩,by omega⟩))))))))
   · skip
     have hxr : ∀ j,j < a.rows.length → _ = _ := fun j hj => hi.2 j (by omega)
     refine aS (au (au (aG (ag (ab (ab (tri_slo [(2,_),(3,_)] rfl (aa (o_assignN rfl rfl (aw (bf (ι := Nat) (F := fun i => [(2,.pointer (some ⟨b2,0,none⟩)),(3,.pointer (some ⟨b3,0,none⟩)),(6,.int .i64 (i : Int))]) (HH := fun i => [box b3 37 (bk b z),box b2 37 (bk a y)]) (Pu := fun i => i ≤ a.sets.length ∧ ∀ j,j < i → a.sets.getD j SetX.zero = b.sets.getD j SetX.zero) (μ := fun i => a.sets.length - i) (0) (.cons rfl (.cons rfl (.cons rfl (.nil _)))) (fun _ h => h) (⟨Nat.zero_le _,fun j hj => absurd hj (by omega)⟩) (fun i hi => ab (ab (aa (ah rfl rfl (aj cC rfl rfl (ak dz N1 rfl rfl rfl (aN Tryz.underlying25 rfl rfl (bK rfl rfl rfl (triL_nilN (ar rfl (fun q3 => ?_) (fun q3 => ?_))))))))))))))))))))))
     · skip
       have hil : i < a.sets.length := by omega
       refine am (ag (ab (aw (ab ?_))))
       obtain ⟨ya,hca,hya⟩ := lb hSa i hil
       obtain ⟨yb,hcb,hyb⟩ := lb hSb i (by omega)
       by_cases hs : (a.sets.getD i SetX.zero).n = (b.sets.getD i SetX.zero).n
       · skip
         have hd : decide ((a.sets.getD i SetX.zero).n ≠ (b.sets.getD i SetX.zero).n) = false := decide_eq_false (fun h => h hs)
         refine tri_slo [(2,_),(3,_),(6,_)] rfl (bj (_) [(0,true),(1,true),(2,true),(3,true),(4,true),(5,true),(6,true),(7,true),(8,true),(9,true),(10,true),(11,true),(12,true),(13,true),(14,true),(15,true),(16,true),(17,true),(18,true),(19,true),(20,true),(21,true),(22,true),(23,true),(24,true),(25,true),(26,false),(27,false),(28,false)] [26,27,28] (by kernel_rfl) (by kernel_rfl) (fun _ h => h) (ai rfl (aj cC rfl rfl (ae ⟨rfl,ai rfl (ak dz N1 rfl rfl rfl (ae ⟨rfl,ai rfl (ah rfl rfl (ae ⟨rfl,ai rfl (aL Tryz.underlying25 kl rfl rfl rfl (hSa.rd0 _ _ rfl rfl) (by (try simp only [List.length_append,List.length_cons,List.length_nil]); omega) (by (try simp only [List.length_append,List.length_cons,List.length_nil]); omega) hSa.len (by decide) (ae ⟨rfl,ai rfl (aJ jo rfl rfl (hSa.rd0 _ _ rfl rfl) (aD hca (j := 0) rfl) (ae ⟨rfl,ai rfl (aH bd rfl rfl (hSa.rd0 _ _ rfl rfl) (aD hca (j := 0) rfl) (ae ⟨rfl,ai rfl (aj cC rfl rfl (ae ⟨rfl,ai rfl (ak dz N0 rfl rfl rfl (ae ⟨rfl,ai rfl (ah rfl rfl (ae ⟨rfl,ai rfl (aL Tryz.underlying25 kl rfl rfl rfl (hSb.rd0 _ _ rfl rfl) (by (try simp only [List.length_append,List.length_cons,List.length_nil]); omega) (by (try simp only [List.length_append,List.length_cons,List.length_nil]); omega) hSb.len (by decide) (ae ⟨rfl,ai rfl (aJ jo rfl rfl (hSb.rd0 _ _ rfl rfl) (aD hcb (j := 0) rfl) (ae ⟨rfl,ai rfl (aH bd rfl rfl (hSb.rd0 _ _ rfl rfl) (aD hcb (j := 0) rfl) (ae ⟨rfl,ai rfl (cY rfl rfl rfl ?_)⟩))⟩))⟩))⟩))⟩))⟩))⟩))⟩))⟩))⟩))⟩))⟩))))
         rw [hd]
         refine ae ⟨rfl,ai rfl (ah rfl rfl (ae ⟨rfl,ai rfl (aj cC rfl rfl (ae ⟨rfl,ai rfl (ak dz N1 rfl rfl rfl (ae ⟨rfl,ai rfl (ah rfl rfl (ae ⟨rfl,ai rfl (aL Tryz.underlying25 kl rfl rfl rfl (hSa.rd0 _ _ rfl rfl) (by (try simp only [List.length_append,List.length_cons,List.length_nil]); omega) (by (try simp only [List.length_append,List.length_cons,List.length_nil]); omega) hSa.len (by decide) (ae ⟨rfl,ai rfl (aJ lr rfl rfl (hSa.rd0 _ _ rfl rfl) (aD hca (j := 0) rfl) (ae ⟨rfl,ai rfl (bo aW aV rfl rfl (hSa.rd0 _ _ rfl rfl) (vs := bA ((a.sets.getD i SetX.zero).e) ya) (dw (p := [.string (B (a.sets.getD i SetX.zero).n)]) (cs := bA ((a.sets.getD i SetX.zero).e) ya) (r := []) hca) rfl (by decide) (ae ⟨rfl,ai rfl (aj cC rfl rfl (ae ⟨rfl,ai rfl (ak dz N0 rfl rfl rfl (ae ⟨rfl,ai rfl (ah rfl rfl (ae ⟨rfl,ai rfl (aL Tryz.underlying25 kl rfl rfl rfl (hSb.rd0 _ _ rfl rfl) (by (try simp only [List.length_append,List.length_cons,List.length_nil]); omega) (by (try simp only [List.length_append,List.length_cons,List.length_nil]); omega) hSb.len (by decide) (ae ⟨rfl,ai rfl (aJ lr rfl rfl (hSb.rd0 _ _ rfl rfl) (aD hcb (j := 0) rfl) (ae ⟨rfl,ai rfl (bo aW aV rfl rfl (hSb.rd0 _ _ rfl rfl) (vs := bA ((b.sets.getD i SetX.zero).e) yb) (dw (p := [.string (B (b.sets.getD i SetX.zero).n)]) (cs := bA ((b.sets.getD i SetX.zero).e) yb) (r := []) hcb) rfl (by decide) (ae ⟨rfl,(bu [26,27,28] [_,_,_] rfl rfl (av (first := []) (cap := []) rfl rfl rfl Tryz.call17 (fun w1 h1 => jT _ _ _ _ w1 (ExC.chg h1.chg _ _ (ExK.c _ _ hya)) (ExC.chg h1.chg _ _ (ExK.c _ _ hyb)) (hbd.sets i hil).1) (cu rfl rfl (jw rfl rfl rfl rfl (ae ⟨rfl,(ag (aE rfl (fun q4 => ?_) (fun q4 => ?_)))⟩)))))⟩))⟩))⟩))⟩))⟩))⟩))⟩))⟩))⟩))⟩))⟩))⟩))⟩))⟩
         · skip
           refine ab (az [] (.nil _) (aa (o_assignN rfl rfl (ap (aq (an (an (aq (an (aT rfl rfl ?_)))))))))); exact fun w1 hw1 => ⟨congrArg (fun b => Ending.returned (.bool b)) (by exact (decide_eq_false (sf (set_ne (.inr (of_decide_eq_false (ci q4)))))).symm),hw1.chg⟩
         · skip
           exact am (ao (ag (tri_slo [(2,_),(3,_),(6,_)] rfl (aa (ah rfl rfl (bn rfl rfl rfl (by (try simp only [List.length_append,List.length_cons,List.length_nil]); omega) (o_assignN rfl rfl (⟨i + 1,(.cons rfl (.cons rfl (.cons rfl (.nil _)))),fun _ h => h,⟨by omega,upd hi.2 (set_eq hs (of_decide_eq_true (bU q4)))⟩,by omega⟩))))))))
       · skip
         have hd : decide ((a.sets.getD i SetX.zero).n ≠ (b.sets.getD i SetX.zero).n) = true := decide_eq_true hs
         refine tri_slo [(2,_),(3,_),(6,_)] rfl (bj (_) [(0,true),(1,true),(2,true),(3,true),(4,true),(5,true),(6,true),(7,true),(8,true),(9,true),(10,true),(11,true),(12,true),(13,true),(14,true),(15,true),(16,true),(17,true),(18,true),(19,true),(20,true),(21,true),(22,true),(23,true),(24,true),(25,true),(26,false),(27,false),(28,false)] [26,27,28] (by kernel_rfl) (by kernel_rfl) (fun _ h => h) (ai rfl (aj cC rfl rfl (ae ⟨rfl,ai rfl (ak dz N1 rfl rfl rfl (ae ⟨rfl,ai rfl (ah rfl rfl (ae ⟨rfl,ai rfl (aL Tryz.underlying25 kl rfl rfl rfl (hSa.rd0 _ _ rfl rfl) (by (try simp only [List.length_append,List.length_cons,List.length_nil]); omega) (by (try simp only [List.length_append,List.length_cons,List.length_nil]); omega) hSa.len (by decide) (ae ⟨rfl,ai rfl (aJ jo rfl rfl (hSa.rd0 _ _ rfl rfl) (aD hca (j := 0) rfl) (ae ⟨rfl,ai rfl (aH bd rfl rfl (hSa.rd0 _ _ rfl rfl) (aD hca (j := 0) rfl) (ae ⟨rfl,ai rfl (aj cC rfl rfl (ae ⟨rfl,ai rfl (ak dz N0 rfl rfl rfl (ae ⟨rfl,ai rfl (ah rfl rfl (ae ⟨rfl,ai rfl (aL Tryz.underlying25 kl rfl rfl rfl (hSb.rd0 _ _ rfl rfl) (by (try simp only [List.length_append,List.length_cons,List.length_nil]); omega) (by (try simp only [List.length_append,List.length_cons,List.length_nil]); omega) hSb.len (by decide) (ae ⟨rfl,ai rfl (aJ jo rfl rfl (hSb.rd0 _ _ rfl rfl) (aD hcb (j := 0) rfl) (ae ⟨rfl,ai rfl (aH bd rfl rfl (hSb.rd0 _ _ rfl rfl) (aD hcb (j := 0) rfl) (ae ⟨rfl,ai rfl (cY rfl rfl rfl ?_)⟩))⟩))⟩))⟩))⟩))⟩))⟩))⟩))⟩))⟩))⟩))⟩))))
         rw [hd]
         refine ae ⟨rfl,ai rfl (ah rfl rfl (ae ⟨rfl,ai rfl (bL rfl rfl (ae ⟨rfl,ai rfl (bL rfl rfl (ae ⟨rfl,ai rfl (bL rfl rfl (ae ⟨rfl,ai rfl (bL rfl rfl (ae ⟨rfl,ai rfl (bL rfl rfl (ae ⟨rfl,ai rfl (bL rfl rfl (ae ⟨rfl,ai rfl (bL rfl rfl (ae ⟨rfl,ai rfl (bL rfl rfl (ae ⟨rfl,ai rfl (bL rfl rfl (ae ⟨rfl,ai rfl (bL rfl rfl (ae ⟨rfl,ai rfl (bL rfl rfl (ae ⟨rfl,ai rfl (bL rfl rfl (ae ⟨rfl,(bu [26,27,28] [_,_,_] rfl rfl (bL rfl rfl (bL rfl rfl (go rfl rfl rfl rfl (ae ⟨rfl,(ag (ct rfl (ab (az [] (.nil _) (aa (o_assignN rfl rfl (ap (aq ?_))))))))⟩)))))⟩))⟩))⟩))⟩))⟩))⟩))⟩))⟩))⟩))⟩))⟩))⟩))⟩))⟩; refine an (an (aq (an (aT rfl rfl ?_)))); exact fun w1 hw1 => ⟨congrArg (fun b => Ending.returned (.bool b)) (by exact (decide_eq_false (sf (set_ne (.inl hs)))).symm),hw1.chg⟩
     · skip
       have hxs : ∀ j,j < a.sets.length → _ = _ := fun j hj => hi.2 j (by omega)
       refine aS (au (au (aG (ag (ab (az [] (.nil _) (aa (o_assignN rfl rfl (ap (aT rfl rfl ?_)))))))))); exact fun w1 hw1 => ⟨congrArg (fun b => Ending.returned (.bool b)) (by exact (decide_eq_true (ss_eq q0 hxr hxs)).symm),hw1.chg⟩
end Go.Proofs.YtjbpkcbefmpfgaaGreatDoor
namespace Go.Proofs.YtjbpkcbefmpfgaaGreatDoor
open Go.WK Go.RowKit 
theorem mayExsD (l : List Ex) (y : SL) (bl : List Nat) (xs : List Value) (w : World) (hA : SlR exKd bl w l y xs) (hok : ∀ i,i < l.length → (l.getD i Ex.zero).ok) (hn : l.length ≤ 70368744177664) (hz : ∀ i,i < l.length → (l.getD i Ex.zero).size ≤ 70368744177664) : Calls Tryz.prog 37 #[.slice y.A l.length y.k] w (bX w (.bool (cS l))) := by
 refine ay (args := [.slice y.A l.length y.k]) (lent := []) (H := []) Tryz.func37 rfl Tryz.ntmps37 rfl (Sat.start _ _ _ _) ((show Tri _ [(0,_)] _ _ _ from ab (aa (o_assignN rfl rfl (ab (ab (aa (o_assignN rfl rfl (aw (bf (ι := Nat) (F := fun i => [(0,.slice y.A l.length y.k),(3,.int .i64 (i : Int))]) (HH := fun i => []) (Pu := fun i => i ≤ l.length ∧ bO (fun k => (l.getD k Ex.zero).may) i = true) (μ := fun i => l.length - i) (0) (.cons rfl (.cons rfl (.nil _))) (fun _ h => h) (⟨Nat.zero_le _,rfl⟩) (fun i hi => ab (ab (aa (ah rfl rfl (ah rfl rfl (aN Tryz.underlying28 rfl rfl (bK rfl rfl rfl (triL_nilN (ar rfl (fun q0 => ?_) (fun q0 => ?_))))))))))))))))))))
 · skip
   have hil : i < l.length := by omega
   refine am (ag (ab (aw (ab (tri_slo [(0,_),(3,_)] rfl ?_)))))
   obtain ⟨ya,hca,hya⟩ := nJ hA i hil
   refine aa (ah rfl rfl (ah rfl rfl (aL Tryz.underlying28 aV rfl rfl rfl (hA.rd0 _ _ rfl rfl) (by (try simp only [List.length_append,List.length_cons,List.length_nil]); omega) (by (try simp only [List.length_append,List.length_cons,List.length_nil]); omega) hA.len (by decide) (bo aW aV rfl rfl (hA.rd0 _ _ rfl rfl) (vs := bA (l.getD i Ex.zero) ya) hca rfl (by decide) (av (first := []) (cap := []) rfl rfl rfl Tryz.call39 (fun w1 h1 => nW (l.getD i Ex.zero) _ w1 (ExC.chg h1.chg _ _ (ExK.c _ _ hya)) (hok i hil) (hz i hil)) (cu rfl rfl (triL_nilN (aE rfl (fun q1 => ?_) (fun q1 => ?_)))))))))
   · skip
     have q1 := ci q1
     refine ab (az [] (.nil _) (aa (o_assignN rfl rfl (ap (aq (an (an (aq (an (aT rfl rfl ?_)))))))))); exact fun w1 hw1 => ⟨congrArg (fun b => Ending.returned (.bool b)) (by exact (row_no hil q1).symm),hw1.chg⟩
   · skip
     have q1 := bU q1
     exact am (ao (ag (tri_slo [(0,_),(3,_)] rfl (aa (ah rfl rfl (bn rfl rfl rfl (by (try simp only [List.length_append,List.length_cons,List.length_nil]); omega) (o_assignN rfl rfl (⟨i + 1,(.cons rfl (.cons rfl (.nil _))),fun _ h => h,⟨by omega,by simp only [bO,hi.2,q1,Bool.and_self]⟩,by omega⟩))))))))
 · skip
   have hie : i = l.length := by omega
   rw [hie] at hi
   refine aS (au (au (aG (ag (ab (tri_slo [(0,_)] rfl (aa (ah rfl rfl (aN Tryz.underlying28 rfl rfl (cR rfl rfl rfl (ah rfl rfl ?_)))))))))))
   refine' aA [_,_,_] [] (dj := 19) (dr := 22) rfl rfl (fun g1 => ?_) ⟨_,rfl,rfl,rfl,(.nil _)⟩ rfl ?_
   rotate_left
   · skip
     exact ah rfl rfl (aN Tryz.underlying28 rfl rfl (bK rfl rfl rfl (ae (Piece.mk rfl rfl (.nil _) (fun _ h => h)))))
   refine o_assignN rfl rfl (ap (aT rfl rfl ?_)); exact fun w1 hw1 => ⟨congrArg (fun b => Ending.returned (.bool b)) (by exact row_yes hi.2),hw1.chg⟩
set_option maxRecDepth 100000 in
set_option maxHeartbeats 2000000 in
theorem mayQD (q : QryX) (y : QLay) (bl : List Nat) (w : World) (hA : QAt bl w q y) (hok : QOk q) (hbd : QBd q) : Calls Tryz.prog 40 #[.agg (cI q y).toArray] w (bX w (.bool (fL q))) := by
 refine ay (args := [.agg (cI q y).toArray]) (lent := []) (H := []) Tryz.func40 rfl Tryz.ntmps40 rfl (Sat.start _ _ _ _) ((show Tri _ [(0,_)] _ _ _ from ?_))
 obtain ⟨xI,xF,xO,hI,hF,hW,hO⟩ := id hA
 have n1 : q.items.length ≤ 70368744177664 := hbd.ni
 have n2 : q.from_.length ≤ 70368744177664 := hbd.nf
 have n3 : q.ord.length ≤ 70368744177664 := hbd.no
 refine ab (aa (bY _ rfl rfl rfl (fun b1 => o_assignN rfl rfl (ab (ab (aa (aj iT rfl rfl (ak eb N0 rfl rfl rfl (aj cA rfl rfl (ak dn N0 rfl rfl rfl (aN Tryz.underlying31 rfl rfl (ax rfl rfl rfl (lS rfl Tryz.underlying4 rfl rfl (ah rfl rfl ?_))))))))))))))
 refine' aQ [_,_,_,_] [(1,_)] (dj := 14) (dr := 18) rfl rfl (fun g1 => ?_) ⟨_,rfl,rfl,rfl,(.cons rfl (.nil _))⟩ rfl ?_
 rotate_left
 · skip
   exact aj cA rfl rfl (ak dn N0 rfl rfl rfl (aN Tryz.underlying31 rfl rfl (cR rfl rfl rfl (ae (Piece.mk rfl rfl (.cons rfl (.nil _)) (fun _ h => h))))))
 refine ah rfl rfl ?_
 refine' aQ [_,_,_,_] [(1,_)] (dj := 20) (dr := 24) rfl rfl (fun g2 => ?_) ⟨_,rfl,rfl,rfl,(.cons rfl (.nil _))⟩ rfl ?_
 rotate_left
 · skip
   exact aj cp rfl rfl (ak cP N0 rfl rfl rfl (aN Tryz.underlying32 rfl rfl (cR rfl rfl rfl (ae (Piece.mk rfl rfl (.cons rfl (.nil _)) (fun _ h => h))))))
 refine ah rfl rfl ?_
 refine' aQ [_,_,_,_] [(1,_)] (dj := 26) (dr := 30) rfl rfl (fun g3 => ?_) ⟨_,rfl,rfl,rfl,(.cons rfl (.nil _))⟩ rfl ?_
 rotate_left
 · skip
   exact aj dl rfl rfl (ak eP N0 rfl rfl rfl (aN Tryz.underlying33 rfl rfl (cR rfl rfl rfl (ae (Piece.mk rfl rfl (.cons rfl (.nil _)) (fun _ h => h))))))
 refine ah rfl rfl ?_
 refine' aQ [_,_,_] [(1,_)] (dj := 32) (dr := 35) rfl rfl (fun g4 => ?_) ⟨_,rfl,rfl,rfl,(.cons rfl (.nil _))⟩ rfl ?_
 rotate_left
 · skip
   exact aj gM rfl rfl (ak bz N0 rfl rfl rfl (bK rfl rfl rfl (ae (Piece.mk rfl rfl (.cons rfl (.nil _)) (fun _ h => h)))))
 refine ah rfl rfl ?_
 refine' aQ [_,_,_,_,_,_,_,_] [(1,_)] (dj := 37) (dr := 45) rfl rfl (fun g5 => ?_) ⟨_,rfl,rfl,rfl,(.cons rfl (.nil _))⟩ rfl ?_
 rotate_left
 · skip
   refine aj iV rfl rfl (ak eb N0 rfl rfl rfl (cu rfl rfl (ah rfl rfl ?_)))
   refine' aA [_,_,_] [(37,_),(1,_)] (dj := 41) (dr := 44) rfl rfl (fun g6 => ?_) ⟨_,rfl,rfl,rfl,(.cons rfl (.cons rfl (.nil _)))⟩ rfl ?_
   rotate_left
   · skip
     exact aj gM rfl rfl (ak bz N0 rfl rfl rfl (cB rfl rfl rfl (ae (Piece.mk rfl rfl (.cons rfl (.cons rfl (.nil _))) (fun _ h => h)))))
   exact ae (Piece.mk rfl rfl (.cons rfl (.nil _)) (fun _ h => h))
 refine ah rfl rfl ?_
 refine' aQ [_,_,_,_,_,_,_,_,_,_] [(1,_)] (dj := 47) (dr := 57) rfl rfl (fun g7 => ?_) ⟨_,rfl,rfl,rfl,(.cons rfl (.nil _))⟩ rfl ?_
 rotate_left
 · skip
   refine aj fZ rfl rfl (aC aW aV .z rfl rfl (vs := bA q.wh y.V) rfl rfl (av (first := []) (cap := []) rfl rfl rfl Tryz.call38 (fun w1 h1 => noneD q.wh y.V w1 (ExC.chg h1.chg _ _ (ExK.c _ _ hW)) hbd.wh) (cu rfl rfl (ah rfl rfl ?_))))
   refine' aA [_,_,_,_] [(47,_),(1,_)] (dj := 52) (dr := 56) rfl rfl (fun g8 => ?_) ⟨_,rfl,rfl,rfl,(.cons rfl (.cons rfl (.nil _)))⟩ rfl ?_
   rotate_left
   · skip
     exact aj fZ rfl rfl (aC aW aV .z rfl rfl (vs := bA q.wh y.V) rfl rfl (av (first := []) (cap := []) rfl rfl rfl Tryz.call39 (fun w1 h1 => nW q.wh _ w1 (ExC.chg h1.chg _ _ (ExK.c _ _ hW)) hok.wh hbd.wh) (cu rfl rfl (ae (Piece.mk rfl rfl (.cons rfl (.cons rfl (.nil _))) (fun _ h => h))))))
   exact ae (Piece.mk rfl rfl (.cons rfl (.nil _)) (fun _ h => h))
 refine triL_nilN (aE rfl (fun q0 => ?_) (fun q0 => ?_))
 · skip
   have q0 : dqB q = true := q0
   refine ab (aa (o_assignN rfl rfl (ap (an (aT rfl rfl ?_))))); exact fun w1 hw1 => ⟨congrArg (fun b => Ending.returned (.bool b)) (by exact (dq_no q0).symm),hw1.chg⟩
 · skip
   have q0 : dqB q = false := q0
   refine am (ag (ab (ab (aa (o_assignN rfl rfl (aw (bf (ι := Nat) (F := fun i => [(1,.pointer (some ⟨b1,0,none⟩)),(3,.int .i64 (i : Int))]) (HH := fun i => [box b1 35 (cI q y)]) (Pu := fun i => i ≤ q.items.length ∧ bO (fun i => ij (q.items.getD i ItemX.zero)) i = true) (μ := fun i => q.items.length - i) (0) (.cons rfl (.cons rfl (.nil _))) (fun _ h => h) (⟨Nat.zero_le _,rfl⟩) (fun i hi => ab (ab (aa (ah rfl rfl (aj cA rfl rfl (ak dn N0 rfl rfl rfl (aN Tryz.underlying31 rfl rfl (bK rfl rfl rfl (triL_nilN (ar rfl (fun q1 => ?_) (fun q1 => ?_))))))))))))))))))
   · skip
     have hil : i < q.items.length := by omega
     refine am (ag (ab (aw (ab (tri_slo [(1,_),(3,_)] rfl ?_)))))
     obtain ⟨ye,hci,hye⟩ := jy hI i hil
     refine aa (aj cA rfl rfl (ak dn N0 rfl rfl rfl (ah rfl rfl (aL Tryz.underlying31 iS rfl rfl rfl (hI.rd0 _ _ rfl rfl) (by (try simp only [List.length_append,List.length_cons,List.length_nil]); omega) (by (try simp only [List.length_append,List.length_cons,List.length_nil]); omega) hI.len (by decide) (aJ ln rfl rfl (hI.rd0 _ _ rfl rfl) (aD hci (j := 0) rfl) (bo aW aV rfl rfl (hI.rd0 _ _ rfl rfl) (vs := bA (q.items.getD i ItemX.zero).e ye) (dw (p := []) (cs := bA (q.items.getD i ItemX.zero).e ye) (r := [_]) hci) rfl (by decide) (av (first := []) (cap := []) rfl rfl rfl Tryz.call39 (fun w1 h1 => nW (q.items.getD i ItemX.zero).e _ w1 (ExC.chg h1.chg _ _ (ExK.c _ _ hye)) (hok.items i hil) (hbd.items i hil).1) (cu rfl rfl (ah rfl rfl ?_)))))))))
     refine' aQ [_,_,_,_,_,_,_,_,_,_,_,_,_,_,_,_,_] [(1,_),(3,_)] (dj := 74) (dr := 91) rfl rfl (fun g9 => ?_) ⟨_,rfl,rfl,rfl,(.cons rfl (.cons rfl (.nil _)))⟩ rfl ?_
     rotate_left
     · skip
       refine aj cA rfl rfl (ak dn N0 rfl rfl rfl (ah rfl rfl (aL Tryz.underlying31 iS rfl rfl rfl (hI.rd0 _ _ rfl rfl) (by (try simp only [List.length_append,List.length_cons,List.length_nil]); omega) (by (try simp only [List.length_append,List.length_cons,List.length_nil]); omega) hI.len (by decide) (aJ gL rfl rfl (hI.rd0 _ _ rfl rfl) (aD hci (j := 0) rfl) (aH bd rfl rfl (hI.rd0 _ _ rfl rfl) (aD hci (j := 8) rfl) (cY rfl rfl rfl (ah rfl rfl ?_)))))))
       refine' aA [_,_,_,_,_,_,_,_] [(74,_),(1,_),(3,_)] (dj := 82) (dr := 90) rfl rfl (fun g10 => ?_) ⟨_,rfl,rfl,rfl,(.cons rfl (.cons rfl (.cons rfl (.nil _))))⟩ rfl ?_
       rotate_left
       · skip
         exact aj cA rfl rfl (ak dn N0 rfl rfl rfl (ah rfl rfl (aL Tryz.underlying31 iS rfl rfl rfl (hI.rd0 _ _ rfl rfl) (by (try simp only [List.length_append,List.length_cons,List.length_nil]); omega) (by (try simp only [List.length_append,List.length_cons,List.length_nil]); omega) hI.len (by decide) (aJ gL rfl rfl (hI.rd0 _ _ rfl rfl) (aD hci (j := 0) rfl) (aH bd rfl rfl (hI.rd0 _ _ rfl rfl) (aD hci (j := 8) rfl) (av (first := []) (cap := []) rfl rfl rfl Tryz.call36 (fun w1 h1 => jp (q.items.getD i ItemX.zero).s w1 (hbd.items i hil).2) (cu rfl rfl (ae (Piece.mk rfl rfl (.cons rfl (.cons rfl (.cons rfl (.nil _)))) (fun _ h => h))))))))))
       exact ae (Piece.mk rfl rfl (.cons rfl (.cons rfl (.nil _))) (fun _ h => h))
     refine triL_nilN (aE rfl (fun q2 => ?_) (fun q2 => ?_))
     · skip
       refine ab (aa (o_assignN rfl rfl (ap (aq (an (an (aq (an (aT rfl rfl ?_))))))))); exact fun w1 hw1 => ⟨congrArg (fun b => Ending.returned (.bool b)) (by exact (dq_items hil (ci ((dI_eq _).symm.trans q2))).symm),hw1.chg⟩
     · skip
       exact am (ao (ag (aa (ah rfl rfl (bn rfl rfl rfl (by (try simp only [List.length_append,List.length_cons,List.length_nil]); omega) (o_assignN rfl rfl (⟨i + 1,(.cons rfl (.cons rfl (.nil _))),fun _ h => h,⟨by omega,by simp only [bO,hi.2,Bool.true_and]; exact bU ((dI_eq _).symm.trans q2)⟩,by omega⟩)))))))
   · skip
     have hie : i = q.items.length := by omega
     rw [hie] at hi
     have hai := hi.2
     refine aS (au (au (aG (ag (ab (ab (tri_slo [(1,_)] rfl (aa (o_assignN rfl rfl (aw (bf (ι := Nat) (F := fun i => [(1,.pointer (some ⟨b1,0,none⟩)),(4,.int .i64 (i : Int))]) (HH := fun i => [box b1 35 (cI q y)]) (Pu := fun i => i ≤ q.from_.length ∧ bO (fun i => iY i (q.from_.getD i SrcX.zero)) i = true) (μ := fun i => q.from_.length - i) (0) (.cons rfl (.cons rfl (.nil _))) (fun _ h => h) (⟨Nat.zero_le _,rfl⟩) (fun i hi => ab (ab (aa (ah rfl rfl (aj cp rfl rfl (ak cP N0 rfl rfl rfl (aN Tryz.underlying32 rfl rfl (bK rfl rfl rfl (triL_nilN (ar rfl (fun q3 => ?_) (fun q3 => ?_))))))))))))))))))))))
     · skip
       have hil : i < q.from_.length := by omega
       refine am (ag (ab (aw (ab (tri_slo [(1,_),(4,_)] rfl ?_)))))
       obtain ⟨ye,hci,hye⟩ := kc hF i hil
       refine aa (aj cp rfl rfl (ak cP N0 rfl rfl rfl (ah rfl rfl (aL Tryz.underlying32 dY rfl rfl rfl (hF.rd0 _ _ rfl rfl) (by (try simp only [List.length_append,List.length_cons,List.length_nil]); omega) (by (try simp only [List.length_append,List.length_cons,List.length_nil]); omega) hF.len (by decide) (bo lG dY rfl rfl (hF.rd0 _ _ rfl rfl) (vs := Value.string (B (q.from_.getD i SrcX.zero).t) :: Value.string (B (q.from_.getD i SrcX.zero).s) :: bA (q.from_.getD i SrcX.zero).e ye) hci rfl (by decide) (aP _ rfl ll rfl (fun b5 => bg (us := [.string .empty,.string .empty,.int .i64 0,.int .i64 0,.int .i64 0,.string .empty,.string .empty,.string .empty,.int .i64 0,.slice none 0 0]) (cs := Value.string (B (q.from_.getD i SrcX.zero).t) :: Value.string (B (q.from_.getD i SrcX.zero).s) :: bA (q.from_.getD i SrcX.zero).e ye) rfl rfl rfl dY .z rfl rfl rfl (triL_nilN (ab (tri_slo [(5,_),(1,_),(4,_)] rfl (aa (aj gO rfl rfl (ak bd N0 rfl rfl rfl (av (first := []) (cap := []) rfl rfl rfl Tryz.call36 (fun w1 h1 => jp (q.from_.getD i SrcX.zero).t w1 (hbd.from_ i hil).2.1) (cu rfl rfl (ah rfl rfl ?_))))))))))))))))
       refine' aQ [_,_,_,_,_,_,_,_,_] [(5,_),(1,_),(4,_)] (dj := 109) (dr := 118) rfl rfl (fun g11 => ?_) ⟨_,rfl,rfl,rfl,(.cons rfl (.cons rfl (.cons rfl (.nil _))))⟩ rfl ?_
       rotate_left
       · skip
         refine aj fY rfl rfl (ak bd N0 rfl rfl rfl (cY rfl rfl rfl (ah rfl rfl ?_)))
         refine' aA [_,_,_,_] [(109,_),(5,_),(1,_),(4,_)] (dj := 113) (dr := 117) rfl rfl (fun g12 => ?_) ⟨_,rfl,rfl,rfl,(.cons rfl (.cons rfl (.cons rfl (.cons rfl (.nil _)))))⟩ rfl ?_
         rotate_left
         · skip
           exact aj fY rfl rfl (ak bd N0 rfl rfl rfl (av (first := []) (cap := []) rfl rfl rfl Tryz.call36 (fun w1 h1 => jp (q.from_.getD i SrcX.zero).s w1 (hbd.from_ i hil).2.2) (cu rfl rfl (ae (Piece.mk rfl rfl (.cons rfl (.cons rfl (.cons rfl (.cons rfl (.nil _))))) (fun _ h => h))))))
         exact ae (Piece.mk rfl rfl (.cons rfl (.cons rfl (.cons rfl (.nil _)))) (fun _ h => h))
       refine ah rfl rfl ?_
       refine' aQ [_,_,_,_,_,_,_,_] [(5,_),(1,_),(4,_)] (dj := 120) (dr := 128) rfl rfl (fun g13 => ?_) ⟨_,rfl,rfl,rfl,(.cons rfl (.cons rfl (.cons rfl (.nil _))))⟩ rfl ?_
       rotate_left
       · skip
         refine ah rfl rfl (ax rfl rfl rfl (ah rfl rfl ?_))
         refine' aA [_,_,_,_] [(120,_),(5,_),(1,_),(4,_)] (dj := 123) (dr := 127) rfl rfl (fun g14 => ?_) ⟨_,rfl,rfl,rfl,(.cons rfl (.cons rfl (.cons rfl (.cons rfl (.nil _)))))⟩ rfl ?_
         rotate_left
         · skip
           exact aj iU rfl rfl (aC aW aV .z rfl rfl (vs := bA (q.from_.getD i SrcX.zero).e ye) rfl rfl (av (first := []) (cap := []) rfl rfl rfl Tryz.call38 (fun w1 h1 => noneD (q.from_.getD i SrcX.zero).e ye w1 (ExC.chg h1.chg _ _ (ExK.c _ _ hye)) (hbd.from_ i hil).1) (cu rfl rfl (ae (Piece.mk rfl rfl (.cons rfl (.cons rfl (.cons rfl (.cons rfl (.nil _))))) (fun _ h => h))))))
         exact ae (Piece.mk rfl rfl (.cons rfl (.cons rfl (.cons rfl (.nil _)))) (fun _ h => h))
       refine ah rfl rfl ?_
       refine' aQ [_,_,_,_,_,_,_,_] [(1,_),(4,_)] (dj := 130) (dr := 138) rfl rfl (fun g15 => ?_) ⟨_,rfl,rfl,rfl,(.cons rfl (.cons rfl (.nil _)))⟩ rfl ?_
       rotate_left
       · skip
         refine ah rfl rfl (cR rfl rfl rfl (ah rfl rfl ?_))
         refine' aA [_,_,_,_] [(130,_),(1,_),(4,_)] (dj := 133) (dr := 137) rfl rfl (fun g16 => ?_) ⟨_,rfl,rfl,rfl,(.cons rfl (.cons rfl (.cons rfl (.nil _))))⟩ rfl ?_
         rotate_left
         · skip
           exact aj iU rfl rfl (aC aW aV .z rfl rfl (vs := bA (q.from_.getD i SrcX.zero).e ye) rfl rfl (av (first := []) (cap := []) rfl rfl rfl Tryz.call39 (fun w1 h1 => nW (q.from_.getD i SrcX.zero).e _ w1 (ExC.chg h1.chg _ _ (ExK.c _ _ hye)) (hok.from_ i hil) (hbd.from_ i hil).1) (cu rfl rfl (ae (Piece.mk rfl rfl (.cons rfl (.cons rfl (.cons rfl (.nil _)))) (fun _ h => h))))))
         exact ae (Piece.mk rfl rfl (.cons rfl (.cons rfl (.nil _))) (fun _ h => h))
       refine triL_nilN (aE rfl (fun q4 => ?_) (fun q4 => ?_))
       · skip
         refine ab (aa (o_assignN rfl rfl (ap (aq (an (an (aq (an (aT rfl rfl ?_))))))))); exact fun w1 hw1 => ⟨congrArg (fun b => Ending.returned (.bool b)) (by exact (dq_from hil (ci ((dF_eq i _).symm.trans q4))).symm),hw1.chg⟩
       · skip
         exact am (ao (ag (aa (ah rfl rfl (bn rfl rfl rfl (by (try simp only [List.length_append,List.length_cons,List.length_nil]); omega) (o_assignN rfl rfl (⟨i + 1,(.cons rfl (.cons rfl (.nil _))),(fun w2 hw2 => hw2.tail),⟨by omega,by simp only [bO,hi.2,Bool.true_and]; exact bU ((dF_eq i _).symm.trans q4)⟩,by omega⟩)))))))
     · skip
       have hie : i = q.from_.length := by omega
       rw [hie] at hi
       have haf := hi.2
       refine aS (au (au (aG (ag (ab (ab (tri_slo [(1,_)] rfl (aa (o_assignN rfl rfl (aw (bf (ι := Nat) (F := fun i => [(1,.pointer (some ⟨b1,0,none⟩)),(6,.int .i64 (i : Int))]) (HH := fun i => [box b1 35 (cI q y)]) (Pu := fun i => i ≤ q.ord.length ∧ bO (fun i => nameOk (q.ord.getD i OrdX.zero).n) i = true) (μ := fun i => q.ord.length - i) (0) (.cons rfl (.cons rfl (.nil _))) (fun _ h => h) (⟨Nat.zero_le _,rfl⟩) (fun i hi => ab (ab (aa (ah rfl rfl (aj dl rfl rfl (ak eP N0 rfl rfl rfl (aN Tryz.underlying33 rfl rfl (bK rfl rfl rfl (triL_nilN (ar rfl (fun q5 => ?_) (fun q5 => ?_))))))))))))))))))))))
       · skip
         have hil : i < q.ord.length := by omega
         refine am (ag (ab (aw (ab (tri_slo [(1,_),(6,_)] rfl ?_)))))
         have hci := ld hO i hil
         refine aa (aj dl rfl rfl (ak eP N0 rfl rfl rfl (ah rfl rfl (aL Tryz.underlying33 hZ rfl rfl rfl (hO.rd0 _ _ rfl rfl) (by (try simp only [List.length_append,List.length_cons,List.length_nil]); omega) (by (try simp only [List.length_append,List.length_cons,List.length_nil]); omega) hO.len (by decide) (aJ lP rfl rfl (hO.rd0 _ _ rfl rfl) (aD hci (j := 0) rfl) (aH bd rfl rfl (hO.rd0 _ _ rfl rfl) (aD hci (j := 0) rfl) (av (first := []) (cap := []) rfl rfl rfl Tryz.call36 (fun w1 h1 => jp (q.ord.getD i OrdX.zero).n w1 (hbd.ord i hil)) (cu rfl rfl (triL_nilN (aE rfl (fun q6 => ?_) (fun q6 => ?_)))))))))))
         · skip
           refine ab (az [] (.nil _) (aa (o_assignN rfl rfl (ap (aq (an (an (aq (an (aT rfl rfl ?_)))))))))); exact fun w1 hw1 => ⟨congrArg (fun b => Ending.returned (.bool b)) (by exact (dq_ord hil (ci q6)).symm),hw1.chg⟩
         · skip
           exact am (ao (ag (tri_slo [(1,_),(6,_)] rfl (aa (ah rfl rfl (bn rfl rfl rfl (by (try simp only [List.length_append,List.length_cons,List.length_nil]); omega) (o_assignN rfl rfl (⟨i + 1,(.cons rfl (.cons rfl (.nil _))),fun _ h => h,⟨by omega,by simp only [bO,hi.2,Bool.true_and]; exact bU q6⟩,by omega⟩))))))))
       · skip
         have hie : i = q.ord.length := by omega
         rw [hie] at hi
         have hao := hi.2
         refine aS (au (au (aG (ag (ab (az [] (.nil _) (aa (o_assignN rfl rfl (ap (aT rfl rfl ?_)))))))))); exact fun w1 hw1 => ⟨congrArg (fun b => Ending.returned (.bool b)) (by exact (dq_yes q0 hai haf hao).symm),hw1.chg⟩
end Go.Proofs.YtjbpkcbefmpfgaaGreatDoor
namespace Go.Proofs.YtjbpkcbefmpfgaaGreatDoor
open Go.WK Go.RowKit 
set_option maxRecDepth 100000 in
set_option maxHeartbeats 2000000 in
theorem mayStD (s : StmtX) (y : Lay) (bl : List Nat) (w : World) (hA : SAt bl w s y) (hbl : ∀ k ∈ bl,k < w.heap.size) (hok : SOk s) (hbd : SBd s) : Calls Tryz.prog 11 #[.agg (bk s y).toArray] w (bX w (.bool (eh s))) := by
 refine ay (args := [.agg (bk s y).toArray]) (lent := []) (H := []) Tryz.func11 rfl Tryz.ntmps11 rfl (Sat.start _ _ _ _) ((show Tri _ [(0,_)] _ _ _ from ?_))
 obtain ⟨xC,xN,xR,xS,xI,xF,xO,hC,hN,hR_,hS,hW,hQ⟩ := id hA
 have n1 : s.cols.length ≤ 70368744177664 := hbd.nc
 have n2 : s.on.length ≤ 70368744177664 := hbd.nn
 have n3 : s.rows.length ≤ 70368744177664 := hbd.nr
 have n4 : s.sets.length ≤ 70368744177664 := hbd.ns
 refine ab (aa (bY _ rfl rfl rfl (fun b1 => o_assignN rfl rfl (ab (aa (aj dK rfl rfl (ak bz N0 rfl rfl rfl (o_assignN rfl rfl (ab (ab (tri_slo [(3,_),(1,_)] rfl (aa (ah rfl rfl (bK rfl rfl rfl (ah rfl rfl ?_)))))))))))))))
 refine' aQ [_,_] [(3,_),(1,_)] (dj := 14) (dr := 16) rfl rfl (fun g1 => ?_) ⟨_,rfl,rfl,rfl,(.cons rfl (.cons rfl (.nil _)))⟩ rfl ?_
 rotate_left
 · skip
   exact ah rfl rfl (cR rfl rfl rfl (ae (Piece.mk rfl rfl (.cons rfl (.cons rfl (.nil _))) (fun _ h => h))))
 refine triL_nilN (aE rfl (fun q0 => ?_) (fun q0 => ?_))
 · skip
   refine ab (aa (o_assignN rfl rfl (ap (an (aT rfl rfl ?_))))); exact fun w1 hw1 => ⟨congrArg (fun b => Ending.returned (.bool b)) (by exact (doc_no s (fun h => by simp only [Bool.or_eq_true,decide_eq_true_eq] at q0; omega)).symm),hw1.chg⟩
 · skip
   simp only [Bool.or_eq_false_iff,decide_eq_false_iff_not] at q0
   refine am (ag (ab (aa (ah rfl rfl (aU (nV _) rfl rfl (aP _ rfl jn rfl (fun b4 => bg (us := [.int .i64 0,.string .empty,.string .empty,.slice none 0 0,.slice none 0 0,.bool false,.slice none 0 0,.slice none 0 0,.int .i64 0,.int .i64 0,.int .i64 0,.string .empty,.string .empty,.string .empty,.int .i64 0,.slice none 0 0,.bool false,.bool false,.slice none 0 0,.slice none 0 0,.int .i64 0,.int .i64 0,.int .i64 0,.string .empty,.string .empty,.string .empty,.int .i64 0,.slice none 0 0,.slice none 0 0,.bool false,.int .i64 0]) (cs := bk { StmtX.zero with k := s.k,t := [] } Lay.nil) rfl rfl rfl eH .z rfl rfl rfl (triL_nilN (ab (aa (o_assignN rfl rfl (br (ι := StmtX × Lay) (fun j => [(1,.pointer (some ⟨b1,0,none⟩)),(3,.int .i64 s.k),(4,.pointer (some ⟨b4,0,none⟩)),(5,.bool (pt1 s))]) (fun j => [box b4 37 (bk j.1 j.2),box b1 37 (bk s y)]) (fun j => j.1 = kp1 s ∧ SAt bl w j.1 j.2) ?_ (fun j hj => ?_)))))))))))))
   · skip
     refine ab (aa (ah rfl rfl (cB rfl rfl rfl (ah rfl rfl ?_))))
     refine' aA [_,_] [(5,_),(4,_),(3,_),(1,_)] (dj := 22) (dr := 24) rfl rfl (fun g2 => ?_) ⟨_,rfl,rfl,rfl,(.cons rfl (.cons rfl (.cons rfl (.cons rfl (.nil _)))))⟩ rfl ?_
     rotate_left
     · skip
       exact ah rfl rfl (bK rfl rfl rfl (ae (Piece.mk rfl rfl (.cons rfl (.cons rfl (.cons rfl (.cons rfl (.nil _))))) (fun _ h => h))))
     refine triL_nilN (aE rfl (fun q1 => ?_) (fun q1 => ?_))
     · skip
       exact ab (aa (aj cl rfl rfl (ak bd N1 rfl rfl rfl (aj cl rfl rfl (cf (bk { StmtX.zero with k := s.k,t := s.t } Lay.nil) sz9 .z rfl rfl rfl rfl rfl (Nat.le_of_ble_eq_true rfl) rfl rfl (triL_nilN (tri_slo [(4,_),(3,_),(1,_)] rfl (aa (aj cl rfl rfl (ak bd N1 rfl rfl rfl (av (first := []) (cap := []) rfl rfl rfl Tryz.call36 (fun w1 h1 => jp s.t w1 hbd.t) (o_assignN rfl rfl (⟨({ StmtX.zero with k := s.k,t := s.t },Lay.nil),(.cons rfl (.cons rfl (.cons rfl (.cons (congrArg (fun b => some (Value.bool b)) (by rw [pt1,if_pos q1])) (.nil _))))),fun _ h => h,⟨by rw [kp1,if_pos q1],SAt.kt bl w s.k s.t⟩⟩)))))))))))))
     · skip
       exact am (ag (⟨({ StmtX.zero with k := s.k,t := [] },Lay.nil),(.cons rfl (.cons rfl (.cons rfl (.cons (congrArg (fun b => some (Value.bool b)) (by rw [pt1,if_neg (dP q1)])) (.nil _))))),fun _ h => h,⟨by rw [kp1,if_neg (dP q1)],SAt.kt bl w s.k []⟩⟩))
   refine br (ι := StmtX × Lay) (fun j => [(1,.pointer (some ⟨b1,0,none⟩)),(3,.int .i64 s.k),(4,.pointer (some ⟨b4,0,none⟩)),(5,.bool (pt2 s))]) (fun j => [box b4 37 (bk j.1 j.2),box b1 37 (bk s y)]) (fun j => j.1 = kp2 s ∧ SAt bl w j.1 j.2) ?_ (fun j hj => ?_)
   · skip
     refine ab (aa (ah rfl rfl (ax rfl rfl rfl (ah rfl rfl ?_))))
     refine' aQ [_,_] [(1,_),(3,_),(4,_),(5,_)] (dj := 34) (dr := 36) rfl rfl (fun g3 => ?_) ⟨_,rfl,rfl,rfl,(.cons rfl (.cons rfl (.cons rfl (.cons rfl (.nil _)))))⟩ rfl ?_
     rotate_left
     · skip
       exact ah rfl rfl (ax rfl rfl rfl (ae (Piece.mk rfl rfl (.cons rfl (.cons rfl (.cons rfl (.cons rfl (.nil _))))) (fun _ h => h))))
     refine triL_nilN (aE rfl (fun q2 => ?_) (fun q2 => ?_))
     · skip
       refine ab (aa (aj dL rfl rfl (ak bd N1 rfl rfl rfl (aj dL rfl rfl (cf (bk { j.1 with n := s.n } j.2) sz9 .z rfl rfl rfl rfl rfl (Nat.le_of_ble_eq_true rfl) rfl rfl (triL_nilN (tri_slo [(1,_),(3,_),(4,_),(5,_)] rfl (aa (ah rfl rfl (ah rfl rfl ?_))))))))))
       refine' aA [_,_,_] [(1,_),(3,_),(4,_),(5,_)] (dj := 42) (dr := 45) rfl rfl (fun g4 => ?_) ⟨_,rfl,rfl,rfl,(.cons rfl (.cons rfl (.cons rfl (.cons rfl (.nil _)))))⟩ rfl ?_
       rotate_left
       · skip
         exact aj dL rfl rfl (ak bd N1 rfl rfl rfl (av (first := []) (cap := []) rfl rfl rfl Tryz.call36 (fun w1 h1 => jp s.n w1 hbd.n) (ae (Piece.mk rfl rfl (.cons rfl (.cons rfl (.cons rfl (.cons rfl (.nil _))))) (fun _ h => h)))))
       exact o_assignN rfl rfl (⟨({ j.1 with n := s.n },j.2),(.cons rfl (.cons rfl (.cons rfl (.cons (congrArg (fun b => some (Value.bool b)) (by rw [pt2,if_pos q2])) (.nil _))))),fun _ h => h,⟨by rw [kp2,if_pos q2,hj.1],hj.2.setn s.n⟩⟩)
     · skip
       exact am (ag (⟨(j.1,j.2),(.cons rfl (.cons rfl (.cons rfl (.cons (congrArg (fun b => some (Value.bool b)) (by rw [pt2,if_neg (dP q2)])) (.nil _))))),fun _ h => h,⟨by rw [kp2,if_neg (dP q2),hj.1],hj.2⟩⟩))
   refine br (ι := StmtX × Lay) (fun j => [(1,.pointer (some ⟨b1,0,none⟩)),(3,.int .i64 s.k),(4,.pointer (some ⟨b4,0,none⟩)),(5,.bool (pt3 s))]) (fun j => [box b4 37 (bk j.1 j.2),box b1 37 (bk s y)]) (fun j => j.1 = kp3 s ∧ SAt bl w j.1 j.2) ?_ (fun j hj => ?_)
   · skip
     refine ab (aa (ah rfl rfl (ax rfl rfl rfl (triL_nilN (ar rfl (fun q3 => ?_) (fun q3 => ?_))))))
     · skip
       refine ab (aa (aj db rfl rfl (ak eQ N1 rfl rfl rfl (aj db rfl rfl (cf (bk { j.1 with cols := s.cols } { j.2 with C := y.C }) sz22 .z rfl rfl rfl rfl rfl (Nat.le_of_ble_eq_true rfl) rfl rfl (triL_nilN (ab (tri_slo [(1,_),(3,_),(4,_),(5,_)] rfl (aa (ah rfl rfl (ah rfl rfl ?_)))))))))))
       refine' aA [_,_,_,_] [(1,_),(3,_),(4,_),(5,_)] (dj := 53) (dr := 57) rfl rfl (fun g5 => ?_) ⟨_,rfl,rfl,rfl,(.cons rfl (.cons rfl (.cons rfl (.cons rfl (.nil _)))))⟩ rfl ?_
       rotate_left
       · skip
         exact aj db rfl rfl (ak eQ N1 rfl rfl rfl (aN Tryz.underlying22 rfl rfl (cR rfl rfl rfl (ae (Piece.mk rfl rfl (.cons rfl (.cons rfl (.cons rfl (.cons rfl (.nil _))))) (fun _ h => h))))))
       refine ah rfl rfl ?_
       refine' aA [_,_,_,_] [(1,_),(3,_),(4,_),(5,_)] (dj := 59) (dr := 63) rfl rfl (fun g6 => ?_) ⟨_,rfl,rfl,rfl,(.cons rfl (.cons rfl (.cons rfl (.cons rfl (.nil _)))))⟩ rfl ?_
       rotate_left
       · skip
         exact aj db rfl rfl (ak eQ N1 rfl rfl rfl (aN Tryz.underlying22 rfl rfl (bK rfl rfl rfl (ae (Piece.mk rfl rfl (.cons rfl (.cons rfl (.cons rfl (.cons rfl (.nil _))))) (fun _ h => h))))))
       refine o_assignN rfl rfl (ab (aa (o_assignN rfl rfl (aw (bf (ι := Nat) (F := fun i => [(1,.pointer (some ⟨b1,0,none⟩)),(3,.int .i64 s.k),(4,.pointer (some ⟨b4,0,none⟩)),(5,.bool (few (pt2 s) s.cols.length && bO (fun i => ew (s.cols.getD i ColX.zero)) i)),(6,.int .i64 (i : Int))]) (HH := fun i => [box b4 37 (bk { j.1 with cols := s.cols } { j.2 with C := y.C }),box b1 37 (bk s y)]) (Pu := fun i => i ≤ s.cols.length) (μ := fun i => s.cols.length - i) (0) (.cons rfl (.cons rfl (.cons rfl (.cons (congrArg (fun b => some (Value.bool b)) (by simp [bO,few])) (.cons rfl (.nil _)))))) (fun _ h => h) (Nat.zero_le _) (fun i hi => ab (ab (aa (ah rfl rfl (aj db rfl rfl (ak eQ N1 rfl rfl rfl (aN Tryz.underlying22 rfl rfl (bK rfl rfl rfl (triL_nilN (ar rfl (fun qa => ?_) (fun qa => ?_))))))))))))))))
       · skip
         have hil : i < s.cols.length := by omega
         refine am (ag (ab (aw (tri_slo [(1,_),(3,_),(4,_),(5,_),(6,_)] rfl ?_))))
         have hci := lc hC i hil
         refine aa (ah rfl rfl (ah rfl rfl ?_))
         refine' aA [_,_,_,_,_,_,_] [(1,_),(3,_),(4,_),(5,_),(6,_)] (dj := 73) (dr := 80) rfl rfl (fun g7 => ?_) ⟨_,rfl,rfl,rfl,(.cons rfl (.cons rfl (.cons rfl (.cons rfl (.cons rfl (.nil _))))))⟩ rfl ?_
         rotate_left
         · skip
           exact aj db rfl rfl (ak eQ N1 rfl rfl rfl (ah rfl rfl (aL Tryz.underlying22 jK rfl rfl rfl (hC.rd0 _ _ rfl rfl) (by (try simp only [List.length_append,List.length_cons,List.length_nil]); omega) (by (try simp only [List.length_append,List.length_cons,List.length_nil]); omega) hC.len (by decide) (aJ oN rfl rfl (hC.rd0 _ _ rfl rfl) (aD hci (j := 0) rfl) (aH bd rfl rfl (hC.rd0 _ _ rfl rfl) (aD hci (j := 0) rfl) (av (first := []) (cap := []) rfl rfl rfl Tryz.call36 (fun w1 h1 => jp (s.cols.getD i ColX.zero).n w1 (hbd.cols i hil)) (ae (Piece.mk rfl rfl (.cons rfl (.cons rfl (.cons rfl (.cons rfl (.cons rfl (.nil _)))))) (fun _ h => h)))))))))
         refine ah rfl rfl ?_
         refine' aA [_,_,_,_,_,_,_] [(1,_),(3,_),(4,_),(5,_),(6,_)] (dj := 82) (dr := 89) rfl rfl (fun g8 => ?_) ⟨_,rfl,rfl,rfl,(.cons rfl (.cons rfl (.cons rfl (.cons rfl (.cons rfl (.nil _))))))⟩ rfl ?_
         rotate_left
         · skip
           exact aj db rfl rfl (ak eQ N1 rfl rfl rfl (ah rfl rfl (aL Tryz.underlying22 jK rfl rfl rfl (hC.rd0 _ _ rfl rfl) (by (try simp only [List.length_append,List.length_cons,List.length_nil]); omega) (by (try simp only [List.length_append,List.length_cons,List.length_nil]); omega) hC.len (by decide) (aJ lq rfl rfl (hC.rd0 _ _ rfl rfl) (aD hci (j := 0) rfl) (aH bz rfl rfl (hC.rd0 _ _ rfl rfl) (aD hci (j := 1) rfl) (cR rfl rfl rfl (ae (Piece.mk rfl rfl (.cons rfl (.cons rfl (.cons rfl (.cons rfl (.cons rfl (.nil _)))))) (fun _ h => h)))))))))
         refine ah rfl rfl ?_
         refine' aA [_,_,_,_,_,_,_] [(1,_),(3,_),(4,_),(5,_),(6,_)] (dj := 91) (dr := 98) rfl rfl (fun g9 => ?_) ⟨_,rfl,rfl,rfl,(.cons rfl (.cons rfl (.cons rfl (.cons rfl (.cons rfl (.nil _))))))⟩ rfl ?_
         rotate_left
         · skip
           exact aj db rfl rfl (ak eQ N1 rfl rfl rfl (ah rfl rfl (aL Tryz.underlying22 jK rfl rfl rfl (hC.rd0 _ _ rfl rfl) (by (try simp only [List.length_append,List.length_cons,List.length_nil]); omega) (by (try simp only [List.length_append,List.length_cons,List.length_nil]); omega) hC.len (by decide) (aJ lq rfl rfl (hC.rd0 _ _ rfl rfl) (aD hci (j := 0) rfl) (aH bz rfl rfl (hC.rd0 _ _ rfl rfl) (aD hci (j := 1) rfl) (bK rfl rfl rfl (ae (Piece.mk rfl rfl (.cons rfl (.cons rfl (.cons rfl (.cons rfl (.cons rfl (.nil _)))))) (fun _ h => h)))))))))
         exact aB rfl rfl (ae (ao (ag (aa (ah rfl rfl (bn rfl rfl rfl (by (try simp only [List.length_append,List.length_cons,List.length_nil]); omega) (o_assignN rfl rfl (⟨i + 1,(.cons rfl (.cons rfl (.cons rfl (.cons (congrArg (fun b => some (Value.bool b)) (by exact tA (few (pt2 s) s.cols.length) (fun i => s.cols.getD i ColX.zero) i)) (.cons rfl (.nil _)))))),fun _ h => h,by omega,by omega⟩))))))))
       · skip
         have hie : i = s.cols.length := by omega
         rw [hie]
         exact aS (au (au (aG (ag (⟨({ j.1 with cols := s.cols }, { j.2 with C := y.C }),(.cons rfl (.cons rfl (.cons rfl (.cons (congrArg (fun b => some (Value.bool b)) (by rw [pt3,if_pos q3])) (.nil _))))),fun _ h => h,⟨by rw [kp3,if_pos q3,hj.1],hj.2.setC hA⟩⟩)))))
     · skip
       exact am (ag (⟨(j.1,j.2),(.cons rfl (.cons rfl (.cons rfl (.cons (congrArg (fun b => some (Value.bool b)) (by rw [pt3,if_neg q3])) (.nil _))))),fun _ h => h,⟨by rw [kp3,if_neg q3,hj.1],hj.2⟩⟩))
   refine br (ι := StmtX × Lay) (fun j => [(1,.pointer (some ⟨b1,0,none⟩)),(3,.int .i64 s.k),(4,.pointer (some ⟨b4,0,none⟩)),(5,.bool (pt4 s))]) (fun j => [box b4 37 (bk j.1 j.2),box b1 37 (bk s y)]) (fun j => j.1 = kp4 s ∧ SAt bl w j.1 j.2) ?_ (fun j hj => ?_)
   · skip
     refine ab (aa (ah rfl rfl (ax rfl rfl rfl (triL_nilN (ar rfl (fun q5 => ?_) (fun q5 => ?_))))))
     · skip
       refine ab (bj ([box b1 37 (bk s y)]) [(0,true),(1,true),(2,true),(3,true),(4,true),(5,false),(6,false),(7,false)] [6,7] (by kernel_rfl) (by kernel_rfl) (fun _ h => Sat.dropS 1 h) (ai rfl (aj dF rfl rfl (ae ⟨rfl,ai rfl (ak fP N0 rfl rfl rfl (ae ⟨rfl,ai rfl (aj il rfl rfl (ae ⟨rfl,ai rfl (ak eb N0 rfl rfl rfl (ae ⟨rfl,ai rfl (aj dF rfl rfl (ae ⟨rfl,(aZ rfl (cf (bk { j.1 with on := s.on } { j.2 with N := y.N }) sz23 .z rfl rfl rfl rfl rfl (Nat.le_of_ble_eq_true rfl) rfl rfl (ae ⟨rfl,fun _ _ h => Sat.dropS 1 h,(bu [6,7] [_,_] rfl rfl (aj il rfl rfl (cf (bk { j.1 with on := s.on,un := s.un } { j.2 with N := y.N }) sz4 .z rfl rfl rfl rfl rfl (Nat.le_of_ble_eq_true rfl) rfl rfl (ae ⟨rfl,(ag (ab (tri_slo [(1,_),(3,_),(4,_),(5,_)] rfl (aa (ah rfl rfl (ah rfl rfl ?_))))))⟩))))⟩)))⟩))⟩))⟩))⟩))⟩))))
       refine' aA [_,_,_,_] [(1,_),(3,_),(4,_),(5,_)] (dj := 109) (dr := 113) rfl rfl (fun g10 => ?_) ⟨_,rfl,rfl,rfl,(.cons rfl (.cons rfl (.cons rfl (.cons rfl (.nil _)))))⟩ rfl ?_
       rotate_left
       · skip
         exact aj dF rfl rfl (ak fP N1 rfl rfl rfl (aN Tryz.underlying23 rfl rfl (cR rfl rfl rfl (ae (Piece.mk rfl rfl (.cons rfl (.cons rfl (.cons rfl (.cons rfl (.nil _))))) (fun _ h => h))))))
       refine ah rfl rfl ?_
       refine' aA [_,_,_,_] [(1,_),(3,_),(4,_),(5,_)] (dj := 115) (dr := 119) rfl rfl (fun g11 => ?_) ⟨_,rfl,rfl,rfl,(.cons rfl (.cons rfl (.cons rfl (.cons rfl (.nil _)))))⟩ rfl ?_
       rotate_left
       · skip
         exact aj dF rfl rfl (ak fP N1 rfl rfl rfl (aN Tryz.underlying23 rfl rfl (bK rfl rfl rfl (ae (Piece.mk rfl rfl (.cons rfl (.cons rfl (.cons rfl (.cons rfl (.nil _))))) (fun _ h => h))))))
       refine o_assignN rfl rfl (ab (aa (o_assignN rfl rfl (aw (bf (ι := Nat) (F := fun i => [(1,.pointer (some ⟨b1,0,none⟩)),(3,.int .i64 s.k),(4,.pointer (some ⟨b4,0,none⟩)),(5,.bool (few (pt3 s) s.on.length && bO (fun i => nameOk (s.on.getD i [])) i)),(7,.int .i64 (i : Int))]) (HH := fun i => [box b4 37 (bk { j.1 with on := s.on,un := s.un } { j.2 with N := y.N }),box b1 37 (bk s y)]) (Pu := fun i => i ≤ s.on.length) (μ := fun i => s.on.length - i) (0) (.cons rfl (.cons rfl (.cons rfl (.cons (congrArg (fun b => some (Value.bool b)) (by simp [bO,few])) (.cons rfl (.nil _)))))) (fun _ h => h) (Nat.zero_le _) (fun i hi => ab (ab (aa (ah rfl rfl (aj dF rfl rfl (ak fP N1 rfl rfl rfl (aN Tryz.underlying23 rfl rfl (bK rfl rfl rfl (triL_nilN (ar rfl (fun qb => ?_) (fun qb => ?_))))))))))))))))
       · skip
         have hil : i < s.on.length := by omega
         refine am (ag (ab (aw (tri_slo [(1,_),(3,_),(4,_),(5,_),(7,_)] rfl ?_))))
         have hci := jz hN i hil
         refine aa (ah rfl rfl (ah rfl rfl ?_))
         refine' aA [_,_,_,_,_,_] [(1,_),(3,_),(4,_),(5,_),(7,_)] (dj := 129) (dr := 135) rfl rfl (fun g12 => ?_) ⟨_,rfl,rfl,rfl,(.cons rfl (.cons rfl (.cons rfl (.cons rfl (.cons rfl (.nil _))))))⟩ rfl ?_
         rotate_left
         · skip
           exact aj dF rfl rfl (ak fP N1 rfl rfl rfl (ah rfl rfl (aL Tryz.underlying23 sz9 rfl rfl rfl (hN.rd0 _ _ rfl rfl) (by (try simp only [List.length_append,List.length_cons,List.length_nil]); omega) (by (try simp only [List.length_append,List.length_cons,List.length_nil]); omega) hN.len (by decide) (aH bd rfl rfl (hN.rd0 _ _ rfl rfl) (aD hci (j := 0) rfl) (av (first := []) (cap := []) rfl rfl rfl Tryz.call36 (fun w1 h1 => jp (s.on.getD i []) w1 (hbd.on i hil)) (ae (Piece.mk rfl rfl (.cons rfl (.cons rfl (.cons rfl (.cons rfl (.cons rfl (.nil _)))))) (fun _ h => h))))))))
         exact aB rfl rfl (ae (ao (ag (aa (ah rfl rfl (bn rfl rfl rfl (by (try simp only [List.length_append,List.length_cons,List.length_nil]); omega) (o_assignN rfl rfl (⟨i + 1,(.cons rfl (.cons rfl (.cons rfl (.cons (congrArg (fun b => some (Value.bool b)) (by exact le (few (pt3 s) s.on.length) (fun i => s.on.getD i []) i)) (.cons rfl (.nil _)))))),fun _ h => h,by omega,by omega⟩))))))))
       · skip
         have hie : i = s.on.length := by omega
         rw [hie]
         exact aS (au (au (aG (ag (⟨({ j.1 with on := s.on,un := s.un }, { j.2 with N := y.N }),(.cons rfl (.cons rfl (.cons rfl (.cons (congrArg (fun b => some (Value.bool b)) (by rw [pt4,if_pos q5])) (.nil _))))),fun _ h => h,⟨by rw [kp4,if_pos q5,hj.1],hj.2.setN hA⟩⟩)))))
     · skip
       exact am (ag (⟨(j.1,j.2),(.cons rfl (.cons rfl (.cons rfl (.cons (congrArg (fun b => some (Value.bool b)) (by rw [pt4,if_neg q5])) (.nil _))))),fun _ h => h,⟨by rw [kp4,if_neg q5,hj.1],hj.2⟩⟩))
   refine br (ι := StmtX × Lay) (fun j => [(1,.pointer (some ⟨b1,0,none⟩)),(3,.int .i64 s.k),(4,.pointer (some ⟨b4,0,none⟩)),(5,.bool (pt5 s))]) (fun j => [box b4 37 (bk j.1 j.2),box b1 37 (bk s y)]) (fun j => j.1 = kp5 s ∧ SAt bl w j.1 j.2) ?_ (fun j hj => ?_)
   · skip
     refine ab (aa (ah rfl rfl (ax rfl rfl rfl (triL_nilN (ar rfl (fun q7 => ?_) (fun q7 => ?_))))))
     · skip
       refine ab (aa (aj dc rfl rfl (ak eR N1 rfl rfl rfl (aj dc rfl rfl (cf (bk { j.1 with rows := s.rows } { j.2 with R := y.R }) sz24 .z rfl rfl rfl rfl rfl (Nat.le_of_ble_eq_true rfl) rfl rfl (triL_nilN (ab (tri_slo [(1,_),(3,_),(4,_),(5,_)] rfl (aa (ah rfl rfl (ah rfl rfl ?_)))))))))))
       refine' aA [_,_,_,_] [(1,_),(3,_),(4,_),(5,_)] (dj := 143) (dr := 147) rfl rfl (fun g13 => ?_) ⟨_,rfl,rfl,rfl,(.cons rfl (.cons rfl (.cons rfl (.cons rfl (.nil _)))))⟩ rfl ?_
       rotate_left
       · skip
         exact aj dc rfl rfl (ak eR N1 rfl rfl rfl (aN Tryz.underlying24 rfl rfl (cR rfl rfl rfl (ae (Piece.mk rfl rfl (.cons rfl (.cons rfl (.cons rfl (.cons rfl (.nil _))))) (fun _ h => h))))))
       refine o_assignN rfl rfl (ab (aa (o_assignN rfl rfl (aw (bf (ι := Nat) (F := fun i => [(1,.pointer (some ⟨b1,0,none⟩)),(3,.int .i64 s.k),(4,.pointer (some ⟨b4,0,none⟩)),(5,.bool ((pt4 s && decide (0 < (s.rows.length : Int))) && bO (fun i => cS (s.rows.getD i [])) i)),(8,.int .i64 (i : Int))]) (HH := fun i => [box b4 37 (bk { j.1 with rows := s.rows } { j.2 with R := y.R }),box b1 37 (bk s y)]) (Pu := fun i => i ≤ s.rows.length) (μ := fun i => s.rows.length - i) (0) (.cons rfl (.cons rfl (.cons rfl (.cons (congrArg (fun b => some (Value.bool b)) (by simp [bO])) (.cons rfl (.nil _)))))) (fun _ h => h) (Nat.zero_le _) (fun i hi => ab (ab (aa (ah rfl rfl (aj dc rfl rfl (ak eR N1 rfl rfl rfl (aN Tryz.underlying24 rfl rfl (bK rfl rfl rfl (triL_nilN (ar rfl (fun qc => ?_) (fun qc => ?_))))))))))))))))
       · skip
         have hil : i < s.rows.length := by omega
         refine am (ag (ab (aw (tri_slo [(1,_),(3,_),(4,_),(5,_),(8,_)] rfl ?_))))
         obtain ⟨yr,xr,hcr,hRr⟩ := iO hR_ i hil
         refine aa (ah rfl rfl (ah rfl rfl ?_))
         refine' aA [_,_,_,_,_,_] [(1,_),(3,_),(4,_),(5,_),(8,_)] (dj := 157) (dr := 163) rfl rfl (fun g14 => ?_) ⟨_,rfl,rfl,rfl,(.cons rfl (.cons rfl (.cons rfl (.cons rfl (.cons rfl (.nil _))))))⟩ rfl ?_
         rotate_left
         · skip
           exact aj dc rfl rfl (ak eR N1 rfl rfl rfl (ah rfl rfl (aL Tryz.underlying24 sz28 rfl rfl rfl (hR_.rd0 _ _ rfl rfl) (by (try simp only [List.length_append,List.length_cons,List.length_nil]); omega) (by (try simp only [List.length_append,List.length_cons,List.length_nil]); omega) hR_.len (by decide) (aH cM rfl rfl (hR_.rd0 _ _ rfl rfl) (aD hcr (j := 0) rfl) (av (first := []) (cap := []) rfl rfl rfl Tryz.call37 (fun w1 h1 => mayExsD (s.rows.getD i []) yr bl xr w1 (hRr.stab (fun k hk => h1.chg.block k (hbl k hk) (by simp))) (fun k hk => hok.rows i hil k hk) (hbd.rows i hil).1 (hbd.rows i hil).2) (ae (Piece.mk rfl rfl (.cons rfl (.cons rfl (.cons rfl (.cons rfl (.cons rfl (.nil _)))))) (fun _ h => h))))))))
         exact aB rfl rfl (ae (ao (ag (aa (ah rfl rfl (bn rfl rfl rfl (by (try simp only [List.length_append,List.length_cons,List.length_nil]); omega) (o_assignN rfl rfl (⟨i + 1,(.cons rfl (.cons rfl (.cons rfl (.cons (congrArg (fun b => some (Value.bool b)) (by exact tB (pt4 s && decide (0 < (s.rows.length : Int))) (fun i => s.rows.getD i []) i)) (.cons rfl (.nil _)))))),fun _ h => h,by omega,by omega⟩))))))))
       · skip
         have hie : i = s.rows.length := by omega
         rw [hie]
         exact aS (au (au (aG (ag (⟨({ j.1 with rows := s.rows }, { j.2 with R := y.R }),(.cons rfl (.cons rfl (.cons rfl (.cons (congrArg (fun b => some (Value.bool b)) (by rw [pt5,if_pos q7])) (.nil _))))),fun _ h => h,⟨by rw [kp5,if_pos q7,hj.1],hj.2.setR hA⟩⟩)))))
     · skip
       exact am (ag (⟨(j.1,j.2),(.cons rfl (.cons rfl (.cons rfl (.cons (congrArg (fun b => some (Value.bool b)) (by rw [pt5,if_neg q7])) (.nil _))))),fun _ h => h,⟨by rw [kp5,if_neg q7,hj.1],hj.2⟩⟩))
   refine br (ι := StmtX × Lay) (fun j => [(1,.pointer (some ⟨b1,0,none⟩)),(3,.int .i64 s.k),(4,.pointer (some ⟨b4,0,none⟩)),(5,.bool (pt6 s))]) (fun j => [box b4 37 (bk j.1 j.2),box b1 37 (bk s y)]) (fun j => j.1 = kp6 s ∧ SAt bl w j.1 j.2) ?_ (fun j hj => ?_)
   · skip
     refine ab (aa (ah rfl rfl (ax rfl rfl rfl (ah rfl rfl ?_))))
     refine' aQ [_,_] [(1,_),(3,_),(4,_),(5,_)] (dj := 167) (dr := 169) rfl rfl (fun g15 => ?_) ⟨_,rfl,rfl,rfl,(.cons rfl (.cons rfl (.cons rfl (.cons rfl (.nil _)))))⟩ rfl ?_
     rotate_left
     · skip
       exact ah rfl rfl (ax rfl rfl rfl (ae (Piece.mk rfl rfl (.cons rfl (.cons rfl (.cons rfl (.cons rfl (.nil _))))) (fun _ h => h))))
     refine triL_nilN (aE rfl (fun q9 => ?_) (fun q9 => ?_))
     · skip
       refine ab (aa (aj dx rfl rfl (aC aW aV (.s .z) rfl rfl (vs := bA s.wh y.W) rfl rfl (aj dx rfl rfl (cf (bk { j.1 with wh := s.wh } { j.2 with W := y.W }) aV .z rfl rfl rfl rfl rfl (Nat.le_of_ble_eq_true rfl) rfl rfl (triL_nilN (tri_slo [(1,_),(3,_),(4,_),(5,_)] rfl (aa (ah rfl rfl (ah rfl rfl ?_))))))))))
       refine' aA [_,_,_,_,_,_,_,_] [(1,_),(3,_),(4,_),(5,_)] (dj := 175) (dr := 183) rfl rfl (fun g16 => ?_) ⟨_,rfl,rfl,rfl,(.cons rfl (.cons rfl (.cons rfl (.cons rfl (.nil _)))))⟩ rfl ?_
       rotate_left
       · skip
         refine aj dx rfl rfl (aC aW aV (.s .z) rfl rfl (vs := bA s.wh y.W) rfl rfl (av (first := []) (cap := []) rfl rfl rfl Tryz.call38 (fun w1 h1 => noneD s.wh y.W w1 (ExC.chg h1.chg _ _ (ExK.c _ _ hW)) hbd.wh) (ah rfl rfl ?_)))
         refine' aQ [_,_,_] [(175,_),(1,_),(3,_),(4,_),(5,_)] (dj := 179) (dr := 182) rfl rfl (fun g17 => ?_) ⟨_,rfl,rfl,rfl,(.cons rfl (.cons rfl (.cons rfl (.cons rfl (.cons rfl (.nil _))))))⟩ rfl ?_
         rotate_left
         · skip
           exact aj dx rfl rfl (aC aW aV (.s .z) rfl rfl (vs := bA s.wh y.W) rfl rfl (av (first := []) (cap := []) rfl rfl rfl Tryz.call39 (fun w1 h1 => nW s.wh _ w1 (ExC.chg h1.chg _ _ (ExK.c _ _ hW)) hok.wh hbd.wh) (ae (Piece.mk rfl rfl (.cons rfl (.cons rfl (.cons rfl (.cons rfl (.cons rfl (.nil _)))))) (fun _ h => h)))))
         exact ae (Piece.mk rfl rfl (.cons rfl (.cons rfl (.cons rfl (.cons rfl (.nil _))))) (fun _ h => h))
       exact o_assignN rfl rfl (⟨({ j.1 with wh := s.wh }, { j.2 with W := y.W }),(.cons rfl (.cons rfl (.cons rfl (.cons (congrArg (fun b => some (Value.bool b)) (by rw [pt6,if_pos q9])) (.nil _))))),fun _ h => h,⟨by rw [kp6,if_pos q9,hj.1],hj.2.setW hA⟩⟩)
     · skip
       exact am (ag (⟨(j.1,j.2),(.cons rfl (.cons rfl (.cons rfl (.cons (congrArg (fun b => some (Value.bool b)) (by rw [pt6,if_neg (dP q9)])) (.nil _))))),fun _ h => h,⟨by rw [kp6,if_neg (dP q9),hj.1],hj.2⟩⟩))
   refine br (ι := StmtX × Lay) (fun j => [(1,.pointer (some ⟨b1,0,none⟩)),(3,.int .i64 s.k),(4,.pointer (some ⟨b4,0,none⟩)),(5,.bool (pt7 s))]) (fun j => [box b4 37 (bk j.1 j.2),box b1 37 (bk s y)]) (fun j => j.1 = kp7 s ∧ SAt bl w j.1 j.2) ?_ (fun j hj => ?_)
   · skip
     refine ab (aa (ah rfl rfl (ax rfl rfl rfl (triL_nilN (ar rfl (fun q10 => ?_) (fun q10 => ?_))))))
     · skip
       refine ab (aa (aj cC rfl rfl (ak dz N1 rfl rfl rfl (aj cC rfl rfl (cf (bk { j.1 with sets := s.sets } { j.2 with S := y.S }) sz25 .z rfl rfl rfl rfl rfl (Nat.le_of_ble_eq_true rfl) rfl rfl (triL_nilN (ab (tri_slo [(1,_),(3,_),(4,_),(5,_)] rfl (aa (ah rfl rfl (ah rfl rfl ?_)))))))))))
       refine' aA [_,_,_,_] [(1,_),(3,_),(4,_),(5,_)] (dj := 191) (dr := 195) rfl rfl (fun g18 => ?_) ⟨_,rfl,rfl,rfl,(.cons rfl (.cons rfl (.cons rfl (.cons rfl (.nil _)))))⟩ rfl ?_
       rotate_left
       · skip
         exact aj cC rfl rfl (ak dz N1 rfl rfl rfl (aN Tryz.underlying25 rfl rfl (cR rfl rfl rfl (ae (Piece.mk rfl rfl (.cons rfl (.cons rfl (.cons rfl (.cons rfl (.nil _))))) (fun _ h => h))))))
       refine ah rfl rfl ?_
       refine' aA [_,_,_,_] [(1,_),(3,_),(4,_),(5,_)] (dj := 197) (dr := 201) rfl rfl (fun g19 => ?_) ⟨_,rfl,rfl,rfl,(.cons rfl (.cons rfl (.cons rfl (.cons rfl (.nil _)))))⟩ rfl ?_
       rotate_left
       · skip
         exact aj cC rfl rfl (ak dz N1 rfl rfl rfl (aN Tryz.underlying25 rfl rfl (bK rfl rfl rfl (ae (Piece.mk rfl rfl (.cons rfl (.cons rfl (.cons rfl (.cons rfl (.nil _))))) (fun _ h => h))))))
       refine o_assignN rfl rfl (ab (aa (o_assignN rfl rfl (aw (bf (ι := Nat) (F := fun i => [(1,.pointer (some ⟨b1,0,none⟩)),(3,.int .i64 s.k),(4,.pointer (some ⟨b4,0,none⟩)),(5,.bool (few (pt6 s) s.sets.length && bO (fun i => fu (s.sets.getD i SetX.zero)) i)),(9,.int .i64 (i : Int))]) (HH := fun i => [box b4 37 (bk { j.1 with sets := s.sets } { j.2 with S := y.S }),box b1 37 (bk s y)]) (Pu := fun i => i ≤ s.sets.length) (μ := fun i => s.sets.length - i) (0) (.cons rfl (.cons rfl (.cons rfl (.cons (congrArg (fun b => some (Value.bool b)) (by simp [bO,few])) (.cons rfl (.nil _)))))) (fun _ h => h) (Nat.zero_le _) (fun i hi => ab (ab (aa (ah rfl rfl (aj cC rfl rfl (ak dz N1 rfl rfl rfl (aN Tryz.underlying25 rfl rfl (bK rfl rfl rfl (triL_nilN (ar rfl (fun qd => ?_) (fun qd => ?_))))))))))))))))
       · skip
         have hil : i < s.sets.length := by omega
         refine am (ag (ab (aw (tri_slo [(1,_),(3,_),(4,_),(5,_),(9,_)] rfl ?_))))
         obtain ⟨ye,hci,hye⟩ := lb hS i hil
         refine aa (ah rfl rfl (ah rfl rfl ?_))
         refine' aA [_,_,_,_,_,_,_] [(1,_),(3,_),(4,_),(5,_),(9,_)] (dj := 211) (dr := 218) rfl rfl (fun g20 => ?_) ⟨_,rfl,rfl,rfl,(.cons rfl (.cons rfl (.cons rfl (.cons rfl (.cons rfl (.nil _))))))⟩ rfl ?_
         rotate_left
         · skip
           exact aj cC rfl rfl (ak dz N1 rfl rfl rfl (ah rfl rfl (aL Tryz.underlying25 kl rfl rfl rfl (hS.rd0 _ _ rfl rfl) (by (try simp only [List.length_append,List.length_cons,List.length_nil]); omega) (by (try simp only [List.length_append,List.length_cons,List.length_nil]); omega) hS.len (by decide) (aJ jo rfl rfl (hS.rd0 _ _ rfl rfl) (aD hci (j := 0) rfl) (aH bd rfl rfl (hS.rd0 _ _ rfl rfl) (aD hci (j := 0) rfl) (av (first := []) (cap := []) rfl rfl rfl Tryz.call36 (fun w1 h1 => jp (s.sets.getD i SetX.zero).n w1 (hbd.sets i hil).2) (ae (Piece.mk rfl rfl (.cons rfl (.cons rfl (.cons rfl (.cons rfl (.cons rfl (.nil _)))))) (fun _ h => h)))))))))
         refine ah rfl rfl ?_
         refine' aA [_,_,_,_,_,_,_] [(1,_),(3,_),(4,_),(5,_),(9,_)] (dj := 220) (dr := 227) rfl rfl (fun g21 => ?_) ⟨_,rfl,rfl,rfl,(.cons rfl (.cons rfl (.cons rfl (.cons rfl (.cons rfl (.nil _))))))⟩ rfl ?_
         rotate_left
         · skip
           exact aj cC rfl rfl (ak dz N1 rfl rfl rfl (ah rfl rfl (aL Tryz.underlying25 kl rfl rfl rfl (hS.rd0 _ _ rfl rfl) (by (try simp only [List.length_append,List.length_cons,List.length_nil]); omega) (by (try simp only [List.length_append,List.length_cons,List.length_nil]); omega) hS.len (by decide) (aJ lr rfl rfl (hS.rd0 _ _ rfl rfl) (aD hci (j := 0) rfl) (bo aW aV rfl rfl (hS.rd0 _ _ rfl rfl) (vs := bA (s.sets.getD i SetX.zero).e ye) (dw (p := [_]) (cs := bA (s.sets.getD i SetX.zero).e ye) (r := []) hci) rfl (by decide) (av (first := []) (cap := []) rfl rfl rfl Tryz.call39 (fun w1 h1 => nW (s.sets.getD i SetX.zero).e _ w1 (ExC.chg h1.chg _ _ (ExK.c _ _ hye)) (hok.sets i hil) (hbd.sets i hil).1) (ae (Piece.mk rfl rfl (.cons rfl (.cons rfl (.cons rfl (.cons rfl (.cons rfl (.nil _)))))) (fun _ h => h)))))))))
         exact aB rfl rfl (ae (ao (ag (aa (ah rfl rfl (bn rfl rfl rfl (by (try simp only [List.length_append,List.length_cons,List.length_nil]); omega) (o_assignN rfl rfl (⟨i + 1,(.cons rfl (.cons rfl (.cons rfl (.cons (congrArg (fun b => some (Value.bool b)) (by exact pA (few (pt6 s) s.sets.length) (fun i => s.sets.getD i SetX.zero) i)) (.cons rfl (.nil _)))))),fun _ h => h,by omega,by omega⟩))))))))
       · skip
         have hie : i = s.sets.length := by omega
         rw [hie]
         exact aS (au (au (aG (ag (⟨({ j.1 with sets := s.sets }, { j.2 with S := y.S }),(.cons rfl (.cons rfl (.cons rfl (.cons (congrArg (fun b => some (Value.bool b)) (by rw [pt7,if_pos q10])) (.nil _))))),fun _ h => h,⟨by rw [kp7,if_pos q10,hj.1],hj.2.setS hA⟩⟩)))))
     · skip
       exact am (ag (⟨(j.1,j.2),(.cons rfl (.cons rfl (.cons rfl (.cons (congrArg (fun b => some (Value.bool b)) (by rw [pt7,if_neg q10])) (.nil _))))),fun _ h => h,⟨by rw [kp7,if_neg q10,hj.1],hj.2⟩⟩))
   refine br (ι := StmtX × Lay) (fun j => [(1,.pointer (some ⟨b1,0,none⟩)),(3,.int .i64 s.k),(4,.pointer (some ⟨b4,0,none⟩)),(5,.bool (pt8 s))]) (fun j => [box b4 37 (bk j.1 j.2),box b1 37 (bk s y)]) (fun j => j.1 = kp8 s ∧ SAt bl w j.1 j.2) ?_ (fun j hj => ?_)
   · skip
     refine ab (aa (ah rfl rfl (ax rfl rfl rfl (triL_nilN (ar rfl (fun q12 => ?_) (fun q12 => ?_))))))
     · skip
       exact ab (aa (aj fv rfl rfl (aC jS jL (.s .z) rfl rfl (vs := cI s.q y.q) rfl rfl (aj fv rfl rfl (cf (bk { j.1 with q := s.q } { j.2 with q := y.q }) jL .z rfl rfl rfl rfl rfl (Nat.le_of_ble_eq_true rfl) rfl rfl (triL_nilN (tri_slo [(1,_),(3,_),(4,_)] rfl (aa (aj fv rfl rfl (aC jS jL (.s .z) rfl rfl (vs := cI s.q y.q) rfl rfl (av (first := []) (cap := []) rfl rfl rfl Tryz.call40 (fun w1 h1 => mayQD s.q y.q bl w1 (hA.q.stab (fun k hk => h1.chg.block k (hbl k hk) (by simp))) hok.q hbd.q) (o_assignN rfl rfl (⟨({ j.1 with q := s.q }, { j.2 with q := y.q }),(.cons rfl (.cons rfl (.cons rfl (.cons (congrArg (fun b => some (Value.bool b)) (by rw [pt8,if_pos q12])) (.nil _))))),fun _ h => h,⟨by rw [kp8,if_pos q12,hj.1],hj.2.setQ hA⟩⟩)))))))))))))
     · skip
       exact am (ag (⟨(j.1,j.2),(.cons rfl (.cons rfl (.cons rfl (.cons (congrArg (fun b => some (Value.bool b)) (by rw [pt8,if_neg q12])) (.nil _))))),fun _ h => h,⟨by rw [kp8,if_neg q12,hj.1],hj.2⟩⟩))
   refine ab (aa (ah rfl rfl (ah rfl rfl ?_)))
   refine' aA [_,_,_] [] (dj := 238) (dr := 241) rfl rfl (fun g22 => ?_) ⟨_,rfl,rfl,rfl,(.nil _)⟩ rfl ?_
   rotate_left
   · skip
     exact aC ej eH (.s .z) rfl rfl (vs := bk s y) rfl rfl (aC ej eH .z rfl rfl (vs := bk j.1 j.2) rfl rfl (av (first := []) (cap := []) rfl rfl rfl Tryz.call16 (fun w1 h1 => sK s j.1 y j.2 bl bl w1 (hA.stab (fun k hk => h1.chg.block k (hbl k hk) (by simp))) (hj.2.stab (fun k hk => h1.chg.block k (hbl k hk) (by simp))) (fun k hk => Nat.lt_of_lt_of_le (hbl k hk) h1.chg.size) (fun k hk => Nat.lt_of_lt_of_le (hbl k hk) h1.chg.size) hbd) (ae (Piece.mk rfl rfl (.nil _) (fun _ h => h)))))
   refine o_assignN rfl rfl (ap (aT rfl rfl ?_)); exact fun w1 hw1 => ⟨congrArg (fun b => Ending.returned (.bool b)) (by rw [hj.1]; exact doc_may s (by omega)),hw1.chg⟩
end Go.Proofs.YtjbpkcbefmpfgaaGreatDoor
namespace Go.Proofs.YtjbpkcbefmpfgaaGreatDoor
open Go.WK Go.RowKit 
theorem bP : cG Tryz.prog 114 = some true := by kernel_rfl
theorem bB : szB Tryz.prog 114 = some 2 := by kernel_rfl
theorem ib : (Tryz.prog.info? 114).map (·.zero) = some (some (.agg #[.string .empty,.int .i64 0])) := by kernel_rfl
theorem lQ : bH Tryz.prog 114 0 = some 0 := by kernel_rfl
theorem sL : bH Tryz.prog 114 1 = some 1 := by kernel_rfl
theorem oP (x0 : ByteArray) (x1 : Int) : Tryz.prog.built 114 [(0,.string x0),(1,.int .i64 x1)] = some ([.string x0,.int .i64 x1] : List Value).toArray := by kernel_rfl
theorem eU (t : Txt) (s : List UInt8) (w : World) (hb : (cat t (raw s)).1.length ≤ 70368744177664) : Calls Tryz.prog 63 #[.agg (txC (t)).toArray,.string (B s)] w (bX w (.agg (txC (cat t (raw s))).toArray)) := by
 refine ay (args := [.agg (txC (t)).toArray,.string (B s)]) (lent := []) (H := []) Tryz.func63 rfl Tryz.ntmps63 rfl (Sat.start _ _ _ _) ((show Tri _ [(0,_),(1,_)] _ _ _ from ?_))
 simp only [cat,raw,List.length_append] at hb
 refine ab (aa (bY _ rfl rfl rfl (fun b2 => aP _ rfl ib rfl (fun b4 => triL_nilN (ab (aa (aj lQ rfl rfl (ak bd N1 rfl rfl rfl (ah rfl rfl (cD rfl rfl rfl (by (try simp only [List.length_append,List.length_cons,List.length_nil]); omega) (aj lQ rfl rfl (cf (txC (t.1 ++ s,t.2)) sz9 (.s .z) rfl rfl rfl rfl rfl (Nat.le_of_ble_eq_true rfl) rfl rfl (triL_nilN (ab (tri_slo [(4,_),(2,_)] rfl (aa (aC bP bB (.s .z) rfl rfl (vs := txC ((t.1 ++ s,t.2))) rfl rfl (bg (us := [.string .empty,.int .i64 0]) (cs := txC _) (z := 2) rfl rfl rfl bB .z rfl rfl rfl (triL_nilN (ap (cw rfl bP bB N0 rfl rfl ?_))))))))))))))))))))); exact fun w1 hw1 => ⟨congrArg (fun T : Txt => Ending.returned (.agg (txC T).toArray)) (show (((t.1 ++ s,t.2)) : Txt) = cat t (raw s) from by simp [cat,raw]),hw1.chg⟩
theorem km (t : Txt) (i : Nat) (w : World) (hb : (cat t (raw (cm i))).1.length ≤ 70368744177664) : Calls Tryz.prog 64 #[.agg (txC (t)).toArray,.int .i64 (i : Int)] w (bX w (.agg (txC (cat t (raw (cm i)))).toArray)) := by
 refine ay (args := [.agg (txC (t)).toArray,.int .i64 (i : Int)]) (lent := []) (H := []) Tryz.func64 rfl Tryz.ntmps64 rfl (Sat.start _ _ _ _) ((show Tri _ [(0,_),(1,_)] _ _ _ from ab (aa (bY _ rfl rfl rfl (fun b2 => aP _ rfl ib rfl (fun b4 => triL_nilN (ab (ab (aa (ah rfl rfl (ax rfl rfl rfl (triL_nilN (ar rfl (fun q0 => ?_) (fun q0 => ?_))))))))))))))
 · skip
   refine ab (tri_slo [(4,_),(2,_)] rfl (aa (aC bP bB (.s .z) rfl rfl (vs := txC (t)) rfl rfl (bg (us := [.string .empty,.int .i64 0]) (cs := txC _) (z := 2) rfl rfl rfl bB .z rfl rfl rfl (triL_nilN (ap (an (cw rfl bP bB N0 rfl rfl ?_)))))))); exact fun w1 hw1 => ⟨congrArg (fun T : Txt => Ending.returned (.agg (txC T).toArray)) (show ((t) : Txt) = cat t (raw (cm i)) from by exact comma_no q0),hw1.chg⟩
 · skip
   refine am (ag (ab (tri_slo [(4,_),(2,_)] rfl (aa (aC bP bB (.s .z) rfl rfl (vs := txC (t)) rfl rfl (av (first := []) (cap := []) rfl rfl rfl Tryz.call63 (fun w1 h1 => eU (t) ([44,32]) w1 (by rw [nK q0]; exact hb)) (bg (us := [.string .empty,.int .i64 0]) (cs := txC _) (z := 2) rfl rfl rfl bB .z rfl rfl rfl (triL_nilN (ap (cw rfl bP bB N0 rfl rfl ?_)))))))))); exact fun w1 hw1 => ⟨congrArg (fun T : Txt => Ending.returned (.agg (txC T).toArray)) (show ((cat t (raw [44,32])) : Txt) = cat t (raw (cm i)) from by exact nK q0),hw1.chg⟩
theorem asD (t : Txt) (s : List UInt8) (w : World) (hb : (cat t (raw (asT s))).1.length ≤ 70368744177664) : Calls Tryz.prog 122 #[.agg (txC (t)).toArray,.string (B s)] w (bX w (.agg (txC (cat t (raw (asT s)))).toArray)) := by
 refine ay (args := [.agg (txC (t)).toArray,.string (B s)]) (lent := []) (H := []) Tryz.func122 rfl Tryz.ntmps122 rfl (Sat.start _ _ _ _) ((show Tri _ [(0,_),(1,_)] _ _ _ from ab (aa (bY _ rfl rfl rfl (fun b2 => aP _ rfl ib rfl (fun b4 => triL_nilN (ab (ab (aa (ah rfl rfl (bE rfl rfl rfl (triL_nilN (ar rfl (fun q0 => ?_) (fun q0 => ?_))))))))))))))
 · skip
   refine ab (tri_slo [(4,_),(2,_)] rfl (aa (aC bP bB (.s .z) rfl rfl (vs := txC (t)) rfl rfl (bg (us := [.string .empty,.int .i64 0]) (cs := txC _) (z := 2) rfl rfl rfl bB .z rfl rfl rfl (triL_nilN (ap (an (cw rfl bP bB N0 rfl rfl ?_)))))))); exact fun w1 hw1 => ⟨congrArg (fun T : Txt => Ending.returned (.agg (txC T).toArray)) (show ((t) : Txt) = cat t (raw (asT s)) from by exact as_no q0),hw1.chg⟩
 · skip
   have hb2 := hb
   rw [← qY q0] at hb2
   simp only [cat,raw,List.length_append,List.length_cons,List.length_nil] at hb2
   refine am (ag (ab (aa (aC bP bB (.s .z) rfl rfl (vs := txC (t)) rfl rfl (ah rfl rfl (cD rfl rfl rfl (by (try simp only [List.length_cons,List.length_nil]); omega) (av (first := []) (cap := []) rfl rfl rfl Tryz.call63 (fun w1 h1 => eU (t) ([32,97,115,32] ++ s) w1 (by rw [qY q0]; exact hb)) (bg (us := [.string .empty,.int .i64 0]) (cs := txC _) (z := 2) rfl rfl rfl bB .z rfl rfl rfl (triL_nilN (ap (cw rfl bP bB N0 rfl rfl ?_))))))))))); exact fun w1 hw1 => ⟨congrArg (fun T : Txt => Ending.returned (.agg (txC T).toArray)) (show ((cat t (raw ([32,97,115,32] ++ s))) : Txt) = cat t (raw (asT s)) from by exact qY q0),hw1.chg⟩
theorem pU (t : Txt) (e : Ex) (y : SL) (w : World) (hE : ExC w e (bA e y)) (hm : e.may = true) (ho : e.ok) (hL : LV w) (hb : (cat t (e.txt 1)).1.length ≤ 70368744177664) : Calls Tryz.prog 65 #[.agg (txC (t)).toArray,.agg (bA e y).toArray] w (bX w (.agg (txC (cat t (e.txt 1))).toArray)) := by
 refine ay (args := [.agg (txC (t)).toArray,.agg (bA e y).toArray]) (lent := []) (H := []) Tryz.func65 rfl Tryz.ntmps65 rfl (Sat.start _ _ _ _) ((show Tri _ [(0,_),(1,_)] _ _ _ from ?_))
 simp only [cat,List.length_append] at hb
 refine ab (aa (bY _ rfl rfl rfl (fun b2 => bY _ rfl rfl rfl (fun b3 => aP _ rfl ib rfl (fun b4 => triL_nilN (ab (aa (aC aW aV (.s .z) rfl rfl (vs := bA e y) rfl rfl (av (first := []) (cap := []) rfl rfl rfl Tryz.call42 (fun w1 h1 => dexprE e hm ho 1 _ w1 (ExC.chg h1.chg _ _ hE) (hL.chg h1.chg) (by omega)) (ah rfl rfl (aX rfl rfl rfl (aX rfl rfl rfl (aB rfl rfl (o_assignN rfl rfl (ab (tri_slo [(6,_),(5,_),(4,_),(2,_)] rfl (aa (aj lQ rfl rfl (ak bd N2 rfl rfl rfl (ah rfl rfl (cD rfl rfl rfl (by (try simp only [List.length_append,List.length_cons,List.length_nil]); omega) (aj sL rfl rfl (ak bz N2 rfl rfl rfl (ah rfl rfl (o_max rfl rfl rfl ?_)))))))))))))))))))))))))
 rw [max_nat]
 refine aU (oP _ _) rfl rfl (bg (us := [.string .empty,.int .i64 0]) (cs := txC (t.1 ++ (e.txt 1).1,max t.2 (e.txt 1).2)) (z := 2) rfl rfl rfl bB .z rfl rfl rfl (triL_nilN (ap (cw rfl bP bB N0 rfl rfl ?_)))); exact fun w1 hw1 => ⟨congrArg (fun T : Txt => Ending.returned (.agg (txC T).toArray)) (show (((t.1 ++ (e.txt 1).1,max t.2 (e.txt 1).2)) : Txt) = cat t (e.txt 1) from by rfl),hw1.chg⟩
theorem ry (t : Txt) (e : Ex) (y : SL) (w : World) (hE : ExC w e (bA e y)) (hm : e.o ≠ 0 → e.may = true) (ho : e.ok) (hL : LV w) (hb : (cat t (cT e)).1.length ≤ 70368744177664) : Calls Tryz.prog 66 #[.agg (txC (t)).toArray,.agg (bA e y).toArray] w (bX w (.agg (txC (cat t (cT e))).toArray)) := by
 refine ay (args := [.agg (txC (t)).toArray,.agg (bA e y).toArray]) (lent := []) (H := []) Tryz.func66 rfl Tryz.ntmps66 rfl (Sat.start _ _ _ _) ((show Tri _ [(0,_),(1,_)] _ _ _ from ab (aa (bY _ rfl rfl rfl (fun b2 => bY _ rfl rfl rfl (fun b3 => aP _ rfl ib rfl (fun b4 => triL_nilN (ab (ab (aa (aj bT rfl rfl (ak bz N1 rfl rfl rfl (ax rfl rfl rfl (triL_nilN (ar rfl (fun q0 => ?_) (fun q0 => ?_))))))))))))))))
 · skip
   refine ab (tri_slo [(4,_),(2,_)] rfl (aa (aC bP bB (.s (.s .z)) rfl rfl (vs := txC (t)) rfl rfl (bg (us := [.string .empty,.int .i64 0]) (cs := txC _) (z := 2) rfl rfl rfl bB .z rfl rfl rfl (triL_nilN (ap (an (cw rfl bP bB N0 rfl rfl ?_)))))))); exact fun w1 hw1 => ⟨congrArg (fun T : Txt => Ending.returned (.agg (txC T).toArray)) (show ((t) : Txt) = cat t (cT e) from by rw [show cT e = ([],0) from if_pos q0,dE]),hw1.chg⟩
 · skip
   have hw : cT e = cat (raw [32,119,104,101,114,101,32]) (e.txt 1) := if_neg q0
   rw [hw] at hb
   simp only [cat,raw,List.length_append,List.length_cons,List.length_nil] at hb
   refine am (ag (ab (tri_slo [(4,_),(3,_),(2,_)] rfl (bj (_) [(0,true),(2,true),(1,false),(3,false),(4,false)] [3,4] (by kernel_rfl) (by kernel_rfl) (fun _ h => h) (ai rfl (aC bP bB (.s (.s .z)) rfl rfl (vs := txC (t)) rfl rfl (ae ⟨rfl,ai rfl (aC aW aV (.s .z) rfl rfl (vs := bA e y) rfl rfl (ae ⟨rfl,(aZ rfl (av (first := []) (cap := []) rfl rfl rfl Tryz.call63 (fun w1 h1 => eU (t) ([32,119,104,101,114,101,32]) w1 (by simp only [cat,raw,List.length_append,List.length_cons,List.length_nil]; omega)) (ae ⟨rfl,fun _ _ h => Sat.dropS 0 h,(bu [3,4] [_,_] rfl rfl (av (first := []) (cap := []) rfl rfl rfl Tryz.call65 (fun w1 h1 => pU (cat t (raw [32,119,104,101,114,101,32])) e y w1 (ExC.chg h1.chg _ _ hE) (hm q0) ho (hL.chg h1.chg) (by simp only [cat,raw,List.length_append,List.length_cons,List.length_nil]; omega)) (bg (us := [.string .empty,.int .i64 0]) (cs := txC _) (z := 2) rfl rfl rfl bB .z rfl rfl rfl (ae ⟨rfl,(ag (ap (cw rfl bP bB N0 rfl rfl ?_)))⟩))))⟩)))⟩))⟩))))))); exact fun w1 hw1 => ⟨congrArg (fun T : Txt => Ending.returned (.agg (txC T).toArray)) (show ((cat (cat t (raw [32,119,104,101,114,101,32])) (e.txt 1)) : Txt) = cat t (cT e) from by rw [hw,bZ]),hw1.chg⟩
end Go.Proofs.YtjbpkcbefmpfgaaGreatDoor
namespace Go.Proofs.YtjbpkcbefmpfgaaGreatDoor
open Go.WK Go.RowKit 
theorem rz (x0 : ByteArray) : Tryz.prog.built 114 [(0,.string x0)] = some ([.string x0,.int .i64 0] : List Value).toArray := by kernel_rfl
set_option maxRecDepth 100000 in
set_option maxHeartbeats 2000000 in
theorem askD (q : QryX) (y : QLay) (bl : List Nat) (w : World) (hA : QAt bl w q y) (hok : QOk q) (hbd : QBd q) (hL : LV w) (hm : fL q = true) (hb : (i8 q).1.length ≤ 70368744177664) : Calls Tryz.prog 67 #[.agg (cI q y).toArray] w (bX w (.agg (txC (i8 q)).toArray)) := by
 refine ay (args := [.agg (cI q y).toArray]) (lent := []) (H := []) Tryz.func67 rfl Tryz.ntmps67 rfl (Sat.start _ _ _ _) ((show Tri _ [(0,_)] _ _ _ from ?_))
 obtain ⟨xI,xF,xO,hI,hF,hW,hO⟩ := id hA
 have n1 : q.items.length ≤ 70368744177664 := hbd.ni
 have n2 : q.from_.length ≤ 70368744177664 := hbd.nf
 have n3 : q.ord.length ≤ 70368744177664 := hbd.no
 have hb2 := hb
 simp only [i8,cat,raw,List.length_append] at hb2
 have hsl : (eE q).length = 7 + ((if q.di = true then [100,105,115,116,105,110,99,116,32] else [] : List UInt8).length + (if q.st = true then [42] else [] : List UInt8).length) := by simp [eE]; omega
 refine ab (aa (bY _ rfl rfl rfl (fun b1 => aP _ rfl ib rfl (fun b2 => triL_nilN (ab (aa (aU (rz _) rfl rfl (aP _ rfl ib rfl (fun b3 => bg (us := [.string .empty,.int .i64 0]) (cs := txC ([115,101,108,101,99,116,32],0)) (z := 2) rfl rfl rfl bB .z rfl rfl rfl (triL_nilN (br (ι := Txt) (fun j0 => [(1,.pointer (some ⟨b1,0,none⟩)),(2,.pointer (some ⟨b2,0,none⟩)),(3,.pointer (some ⟨b3,0,none⟩))]) (fun j0 => [box b3 114 (txC (j0)),box b2 114 [.string .empty,.int .i64 0],box b1 35 (cI q y)]) (fun j0 => j0 = raw ([115,101,108,101,99,116,32] ++ (if q.di = true then [100,105,115,116,105,110,99,116,32] else []))) ?_ (fun j0 hj => ?_))))))))))))
 · skip
   refine ab (aa (aj kh rfl rfl (ak eb N2 rfl rfl rfl (triL_nilN (aE rfl (fun q0 => ?_) (fun q0 => ?_))))))
   · skip
     rw [q0] at hsl
     simp only [if_true,List.length_cons,List.length_nil] at hsl
     exact tri_slo [(3,_),(2,_),(1,_)] rfl (aa (aC bP bB .z rfl rfl (vs := txC (([115,101,108,101,99,116,32],0))) rfl rfl (av (first := []) (cap := []) rfl rfl rfl Tryz.call63 (fun w1 h1 => eU (([115,101,108,101,99,116,32],0)) ([100,105,115,116,105,110,99,116,32]) w1 (by simp only [cat,raw,List.length_append,List.length_cons,List.length_nil]; omega)) (bg (us := txC _) (cs := txC (_)) (z := 2) rfl rfl rfl bB .z rfl rfl rfl (triL_nilN (⟨_,(.cons rfl (.cons rfl (.cons rfl (.nil _)))),fun _ h => h,by show cat _ _ = _; rw [if_pos q0]; rfl⟩))))))
   · skip
     exact am (ag (⟨([115,101,108,101,99,116,32],0),(.cons rfl (.cons rfl (.cons rfl (.nil _)))),fun _ h => h,by rw [if_neg (dP q0)]; rfl⟩))
 have h_j0 := hj
 refine br (ι := Txt) (fun j1 => [(1,.pointer (some ⟨b1,0,none⟩)),(2,.pointer (some ⟨b2,0,none⟩)),(3,.pointer (some ⟨b3,0,none⟩))]) (fun j1 => [box b3 114 (txC (j1)),box b2 114 [.string .empty,.int .i64 0],box b1 35 (cI q y)]) (fun j1 => j1 = raw (eE q)) ?_ (fun j1 hj => ?_)
 · skip
   refine ab (aa (aj iT rfl rfl (ak eb N2 rfl rfl rfl (triL_nilN (aE rfl (fun q1 => ?_) (fun q1 => ?_))))))
   · skip
     rw [if_pos q1] at hsl
     simp only [List.length_cons,List.length_nil] at hsl
     exact aa (aC bP bB .z rfl rfl (vs := txC (j0)) rfl rfl (av (first := []) (cap := []) rfl rfl rfl Tryz.call63 (fun w1 h1 => eU (j0) ([42]) w1 (by rw [h_j0]; simp only [cat,raw,List.length_append,List.length_cons,List.length_nil]; omega)) (bg (us := txC _) (cs := txC (_)) (z := 2) rfl rfl rfl bB .z rfl rfl rfl (triL_nilN (⟨_,(.cons rfl (.cons rfl (.cons rfl (.nil _)))),fun _ h => h,by show cat _ _ = _; rw [h_j0,fy,eE,if_pos q1,List.append_assoc]⟩)))))
   · skip
     exact am (ag (⟨j0,(.cons rfl (.cons rfl (.cons rfl (.nil _)))),fun _ h => h,by rw [h_j0,eE,if_neg (dP q1)]; simp⟩))
 have h_j1 := hj
 refine ab (ab (aa (o_assignN rfl rfl (aw (bf (ι := Nat × Txt) (F := fun i => [(1,.pointer (some ⟨b1,0,none⟩)),(2,.pointer (some ⟨b2,0,none⟩)),(3,.pointer (some ⟨b3,0,none⟩)),(4,.int .i64 (i.1 : Int))]) (HH := fun i => [box b3 114 (txC (i.2)),box b2 114 [.string .empty,.int .i64 0],box b1 35 (cI q y)]) (Pu := fun i => i.1 ≤ q.items.length ∧ i.2 = cat (raw (eE q)) (cr (fun i => dv (q.items.getD i ItemX.zero)) i.1)) (μ := fun i => q.items.length - i.1) ((0,j1)) (.cons rfl (.cons rfl (.cons rfl (.cons rfl (.nil _))))) (fun _ h => h) (⟨Nat.zero_le _,by rw [h_j1]; exact (dE _).symm⟩) (fun i hi => ?_))))))
 obtain ⟨hi,hit⟩ := hi
 have hil2 := congrArg (fun T : Txt => T.1.length) hit
 simp only [cat,raw,List.length_append] at hil2
 refine ab (ab (aa (ah rfl rfl (aj cA rfl rfl (ak dn N2 rfl rfl rfl (aN Tryz.underlying31 rfl rfl (bK rfl rfl rfl (triL_nilN (ar rfl (fun q2 => ?_) (fun q2 => ?_))))))))))
 · skip
   have hil : i.1 < q.items.length := by omega
   refine am (ag (ab (aw (tri_slo [(1,_),(2,_),(3,_),(4,_)] rfl ?_))))
   obtain ⟨ye,hci,hye⟩ := jy hI i.1 hil
   have hc : (cr (fun i => dv (q.items.getD i ItemX.zero)) i.1).1.length + ((cm i.1).length + (dv (q.items.getD i.1 ItemX.zero)).1.length) ≤ (cr (fun i => dv (q.items.getD i ItemX.zero)) q.items.length).1.length := kd (fun i => dv (q.items.getD i ItemX.zero)) hil
   have hge := congrArg (fun T : Txt => T.1.length) (show dv (q.items.getD i.1 ItemX.zero) = _ from itemT_eq _)
   simp only [cat,raw,List.length_append] at hge
   refine bj (_) [(0,true),(1,true),(3,true),(4,true),(5,true),(6,true),(7,true),(8,true),(10,true),(11,true),(12,true),(13,true),(14,true),(15,true),(2,false),(9,false),(16,false),(17,false)] [16,17] (by kernel_rfl) (by kernel_rfl) (fun _ h => h) (ai rfl (aC bP bB .z rfl rfl (vs := txC (i.2)) rfl rfl (ae ⟨rfl,ai rfl (ah rfl rfl (ae ⟨rfl,ai rfl (aj cA rfl rfl (ae ⟨rfl,ai rfl (ak dn N2 rfl rfl rfl (ae ⟨rfl,ai rfl (ah rfl rfl (ae ⟨rfl,ai rfl (aL Tryz.underlying31 iS rfl rfl rfl (hI.rd0 _ _ rfl rfl) (by (try simp only [List.length_append,List.length_cons,List.length_nil]); omega) (by (try simp only [List.length_append,List.length_cons,List.length_nil]); omega) hI.len (by decide) (ae ⟨rfl,ai rfl (aJ ln rfl rfl (hI.rd0 _ _ rfl rfl) (aD hci (j := 0) rfl) (ae ⟨rfl,ai rfl (bo aW aV rfl rfl (hI.rd0 _ _ rfl rfl) (vs := bA (q.items.getD i.1 ItemX.zero).e ye) (dw (p := []) (cs := bA (q.items.getD i.1 ItemX.zero).e ye) (r := [_]) hci) rfl (by decide) (ae ⟨rfl,ai rfl (aj cA rfl rfl (ae ⟨rfl,ai rfl (ak dn N2 rfl rfl rfl (ae ⟨rfl,ai rfl (ah rfl rfl (ae ⟨rfl,ai rfl (aL Tryz.underlying31 iS rfl rfl rfl (hI.rd0 _ _ rfl rfl) (by (try simp only [List.length_append,List.length_cons,List.length_nil]); omega) (by (try simp only [List.length_append,List.length_cons,List.length_nil]); omega) hI.len (by decide) (ae ⟨rfl,ai rfl (aJ gL rfl rfl (hI.rd0 _ _ rfl rfl) (aD hci (j := 0) rfl) (ae ⟨rfl,ai rfl (aH bd rfl rfl (hI.rd0 _ _ rfl rfl) (aD hci (j := 8) rfl) (ae ⟨rfl,(aZ rfl (av (first := []) (cap := []) rfl rfl rfl Tryz.call64 (fun w1 h1 => km (i.2) i.1 w1 (by simp only [cat,raw,List.length_append]; omega)) (ae ⟨rfl,fun _ _ h => Sat.dropS 0 h,(aZ rfl (av (first := []) (cap := []) rfl rfl rfl Tryz.call65 (fun w1 h1 => pU (cat i.2 (raw (cm i.1))) (q.items.getD i.1 ItemX.zero).e ye w1 (ExC.chg h1.chg _ _ (ExK.c _ _ hye)) (pH hm hil) (hok.items i.1 hil) (hL.chg h1.chg) (by simp only [cat,raw,List.length_append]; omega)) (ae ⟨rfl,fun _ _ h => Sat.dropS 0 h,(bu [16,17] [_,_] rfl rfl (av (first := []) (cap := []) rfl rfl rfl Tryz.call122 (fun w1 h1 => asD (cat (cat i.2 (raw (cm i.1))) ((q.items.getD i.1 ItemX.zero).e.txt 1)) ((q.items.getD i.1 ItemX.zero).s) w1 (by simp only [cat,raw,List.length_append]; omega)) (bg (us := txC _) (cs := txC (_)) (z := 2) rfl rfl rfl bB .z rfl rfl rfl (ae ⟨rfl, ?_⟩))))⟩)))⟩)))⟩))⟩))⟩))⟩))⟩))⟩))⟩))⟩))⟩))⟩))⟩))⟩))⟩))⟩))); exact ao (ag (tri_slo [(1,_),(2,_),(3,_),(4,_)] rfl (aa (ah rfl rfl (bn rfl rfl rfl (by (try simp only [List.length_append,List.length_cons,List.length_nil]); omega) (o_assignN rfl rfl (⟨(i.1 + 1,cat (cat (cat i.2 (raw (cm i.1))) ((q.items.getD i.1 ItemX.zero).e.txt 1)) (raw (asT (q.items.getD i.1 ItemX.zero).s))),(.cons rfl (.cons rfl (.cons rfl (.cons rfl (.nil _))))),fun _ h => h,⟨by show i.1 + 1 ≤ _; omega,by rw [hit, ← fh]; simp only [dv,bZ]⟩,by omega⟩)))))))
 · skip
   have hie : i.1 = q.items.length := by omega
   rw [hie] at hit
   refine aS (au (au (aG (ag (ab (ab (tri_slo [(1,_),(2,_),(3,_)] rfl (aa (o_assignN rfl rfl (aw (bf (ι := Nat × Txt) (F := fun i => [(1,.pointer (some ⟨b1,0,none⟩)),(2,.pointer (some ⟨b2,0,none⟩)),(3,.pointer (some ⟨b3,0,none⟩)),(5,.int .i64 (i.1 : Int))]) (HH := fun i => [box b3 114 (txC (i.2)),box b2 114 [.string .empty,.int .i64 0],box b1 35 (cI q y)]) (Pu := fun i => i.1 ≤ q.from_.length ∧ i.2 = cat (cat (raw (eE q)) (cr (fun i => dv (q.items.getD i ItemX.zero)) q.items.length)) (upT (fun i => eD i (q.from_.getD i SrcX.zero)) i.1)) (μ := fun i => q.from_.length - i.1) ((0,i.2)) (.cons rfl (.cons rfl (.cons rfl (.cons rfl (.nil _))))) (fun _ h => h) (⟨Nat.zero_le _,by rw [hit]; exact (dE _).symm⟩) (fun i hi => ?_))))))))))))
   obtain ⟨hi,hit⟩ := hi
   have hil2 := congrArg (fun T : Txt => T.1.length) hit
   simp only [cat,raw,List.length_append] at hil2
   refine ab (ab (aa (ah rfl rfl (aj cp rfl rfl (ak cP N2 rfl rfl rfl (aN Tryz.underlying32 rfl rfl (bK rfl rfl rfl (triL_nilN (ar rfl (fun q3 => ?_) (fun q3 => ?_))))))))))
   · skip
     have hil : i.1 < q.from_.length := by omega
     refine am (ag (br (ι := Txt) (fun j2 => [(1,.pointer (some ⟨b1,0,none⟩)),(2,.pointer (some ⟨b2,0,none⟩)),(3,.pointer (some ⟨b3,0,none⟩)),(5,.int .i64 (i.1 : Int))]) (fun j2 => [box b3 114 (txC (j2)),box b2 114 [.string .empty,.int .i64 0],box b1 35 (cI q y)]) (fun j2 => j2 = cat (cat (raw (eE q)) (cr (fun i => dv (q.items.getD i ItemX.zero)) q.items.length)) (upT (fun i => eD i (q.from_.getD i SrcX.zero)) (i.1 + 1))) ?_ (fun j2 hj => ?_)))
     · skip
       refine aw (ab (tri_slo [(1,_),(2,_),(3,_),(5,_)] rfl (aa (ah rfl rfl (ax rfl rfl rfl (triL_nilN (ar rfl (fun q4 => ?_) (fun q4 => ?_))))))))
       · skip
         obtain ⟨ye,hci,hye⟩ := kc hF i.1 hil
         have hc : (upT (fun i => eD i (q.from_.getD i SrcX.zero)) i.1).1.length + (eD i.1 (q.from_.getD i.1 SrcX.zero)).1.length ≤ (upT (fun i => eD i (q.from_.getD i SrcX.zero)) q.from_.length).1.length := mH (fun i => eD i (q.from_.getD i SrcX.zero)) hil
         have hge := congrArg (fun T : Txt => T.1.length) (show eD i.1 (q.from_.getD i.1 SrcX.zero) = _ from mN q4 _)
         simp only [cat,raw,List.length_append,List.length_cons,List.length_nil] at hge
         exact bj (_) [(0,true),(1,true),(2,true),(3,true),(4,true),(5,true),(6,true),(7,true),(9,true),(10,true),(11,true),(12,true),(13,true),(14,true),(8,false),(15,false),(16,false)] [15,16] (by kernel_rfl) (by kernel_rfl) (fun _ h => h) (ai rfl (aC bP bB .z rfl rfl (vs := txC (i.2)) rfl rfl (ae ⟨rfl,ai rfl (aj cp rfl rfl (ae ⟨rfl,ai rfl (ak cP N2 rfl rfl rfl (ae ⟨rfl,ai rfl (ah rfl rfl (ae ⟨rfl,ai rfl (aL Tryz.underlying32 dY rfl rfl rfl (hF.rd0 _ _ rfl rfl) (by (try simp only [List.length_append,List.length_cons,List.length_nil]); omega) (by (try simp only [List.length_append,List.length_cons,List.length_nil]); omega) hF.len (by decide) (ae ⟨rfl,ai rfl (aJ gO rfl rfl (hF.rd0 _ _ rfl rfl) (aD hci (j := 0) rfl) (ae ⟨rfl,ai rfl (aH bd rfl rfl (hF.rd0 _ _ rfl rfl) (aD hci (j := 0) rfl) (ae ⟨rfl,ai rfl (cD rfl rfl rfl (by (try simp only [List.length_cons,List.length_nil]); omega) (ae ⟨rfl,ai rfl (aj cp rfl rfl (ae ⟨rfl,ai rfl (ak cP N2 rfl rfl rfl (ae ⟨rfl,ai rfl (ah rfl rfl (ae ⟨rfl,ai rfl (aL Tryz.underlying32 dY rfl rfl rfl (hF.rd0 _ _ rfl rfl) (by (try simp only [List.length_append,List.length_cons,List.length_nil]); omega) (by (try simp only [List.length_append,List.length_cons,List.length_nil]); omega) hF.len (by decide) (ae ⟨rfl,ai rfl (aJ fY rfl rfl (hF.rd0 _ _ rfl rfl) (aD hci (j := 0) rfl) (ae ⟨rfl,ai rfl (aH bd rfl rfl (hF.rd0 _ _ rfl rfl) (aD hci (j := 1) rfl) (ae ⟨rfl,(aZ rfl (av (first := []) (cap := []) rfl rfl rfl Tryz.call63 (fun w1 h1 => eU (i.2) ([32,102,114,111,109,32] ++ (q.from_.getD i.1 SrcX.zero).t) w1 (by simp only [cat,raw,List.length_append,List.length_cons,List.length_nil]; omega)) (ae ⟨rfl,fun _ _ h => Sat.dropS 0 h,(bu [15,16] [_,_] rfl rfl (av (first := []) (cap := []) rfl rfl rfl Tryz.call122 (fun w1 h1 => asD (cat i.2 (raw ([32,102,114,111,109,32] ++ (q.from_.getD i.1 SrcX.zero).t))) ((q.from_.getD i.1 SrcX.zero).s) w1 (by simp only [cat,raw,List.length_append,List.length_cons,List.length_nil]; omega)) (bg (us := txC _) (cs := txC (_)) (z := 2) rfl rfl rfl bB .z rfl rfl rfl (ae ⟨rfl,(ao (ag (⟨_,(.cons rfl (.cons rfl (.cons rfl (.cons rfl (.nil _))))),fun _ h => h,by show cat (cat _ _) _ = _; rw [hit, ← su,mN q4,bZ]⟩)))⟩))))⟩)))⟩))⟩))⟩))⟩))⟩))⟩))⟩))⟩))⟩))⟩))⟩))⟩))⟩))⟩)))
       · skip
         obtain ⟨ye,hci,hye⟩ := kc hF i.1 hil
         have hc : (upT (fun i => eD i (q.from_.getD i SrcX.zero)) i.1).1.length + (eD i.1 (q.from_.getD i.1 SrcX.zero)).1.length ≤ (upT (fun i => eD i (q.from_.getD i SrcX.zero)) q.from_.length).1.length := mH (fun i => eD i (q.from_.getD i SrcX.zero)) hil
         have hge := congrArg (fun T : Txt => T.1.length) (show eD i.1 (q.from_.getD i.1 SrcX.zero) = _ from mO q4 _)
         simp only [cat,raw,List.length_append,List.length_cons,List.length_nil] at hge
         refine bj (_) [(0,true),(1,true),(2,true),(3,true),(4,true),(5,true),(6,true),(7,true),(9,true),(10,true),(11,true),(12,true),(13,true),(14,true),(17,true),(18,true),(19,true),(20,true),(21,true),(22,true),(8,false),(15,false),(16,false),(23,false),(24,false)] [23,24] (by kernel_rfl) (by kernel_rfl) (fun _ h => h) (ai rfl (aC bP bB .z rfl rfl (vs := txC (i.2)) rfl rfl (ae ⟨rfl,ai rfl (aj cp rfl rfl (ae ⟨rfl,ai rfl (ak cP N2 rfl rfl rfl (ae ⟨rfl,ai rfl (ah rfl rfl (ae ⟨rfl,ai rfl (aL Tryz.underlying32 dY rfl rfl rfl (hF.rd0 _ _ rfl rfl) (by (try simp only [List.length_append,List.length_cons,List.length_nil]); omega) (by (try simp only [List.length_append,List.length_cons,List.length_nil]); omega) hF.len (by decide) (ae ⟨rfl,ai rfl (aJ gO rfl rfl (hF.rd0 _ _ rfl rfl) (aD hci (j := 0) rfl) (ae ⟨rfl,ai rfl (aH bd rfl rfl (hF.rd0 _ _ rfl rfl) (aD hci (j := 0) rfl) (ae ⟨rfl,ai rfl (cD rfl rfl rfl (by (try simp only [List.length_cons,List.length_nil]); omega) (ae ⟨rfl,ai rfl (aj cp rfl rfl (ae ⟨rfl,ai rfl (ak cP N2 rfl rfl rfl (ae ⟨rfl,ai rfl (ah rfl rfl (ae ⟨rfl,ai rfl (aL Tryz.underlying32 dY rfl rfl rfl (hF.rd0 _ _ rfl rfl) (by (try simp only [List.length_append,List.length_cons,List.length_nil]); omega) (by (try simp only [List.length_append,List.length_cons,List.length_nil]); omega) hF.len (by decide) (ae ⟨rfl,ai rfl (aJ fY rfl rfl (hF.rd0 _ _ rfl rfl) (aD hci (j := 0) rfl) (ae ⟨rfl,ai rfl (aH bd rfl rfl (hF.rd0 _ _ rfl rfl) (aD hci (j := 1) rfl) (ae ⟨rfl,ai rfl (aj cp rfl rfl (ae ⟨rfl,ai rfl (ak cP N2 rfl rfl rfl (ae ⟨rfl,ai rfl (ah rfl rfl (ae ⟨rfl,ai rfl (aL Tryz.underlying32 dY rfl rfl rfl (hF.rd0 _ _ rfl rfl) (by (try simp only [List.length_append,List.length_cons,List.length_nil]); omega) (by (try simp only [List.length_append,List.length_cons,List.length_nil]); omega) hF.len (by decide) (ae ⟨rfl,ai rfl (aJ iU rfl rfl (hF.rd0 _ _ rfl rfl) (aD hci (j := 0) rfl) (ae ⟨rfl,ai rfl ?_⟩))⟩))⟩))⟩))⟩))⟩))⟩))⟩))⟩))⟩))⟩))⟩))⟩))⟩))⟩))⟩))⟩))⟩))⟩))); exact bo aW aV rfl rfl (hF.rd0 _ _ rfl rfl) (vs := bA (q.from_.getD i.1 SrcX.zero).e ye) (dw (p := [_,_]) (cs := bA (q.from_.getD i.1 SrcX.zero).e ye) (r := []) hci) rfl (by decide) (ae ⟨rfl,(aZ rfl (av (first := []) (cap := []) rfl rfl rfl Tryz.call63 (fun w1 h1 => eU (i.2) ([32,106,111,105,110,32] ++ (q.from_.getD i.1 SrcX.zero).t) w1 (by simp only [cat,raw,List.length_append,List.length_cons,List.length_nil]; omega)) (ae ⟨rfl,fun _ _ h => Sat.dropS 0 h,(aZ rfl (av (first := []) (cap := []) rfl rfl rfl Tryz.call122 (fun w1 h1 => asD (cat i.2 (raw ([32,106,111,105,110,32] ++ (q.from_.getD i.1 SrcX.zero).t))) ((q.from_.getD i.1 SrcX.zero).s) w1 (by simp only [cat,raw,List.length_append,List.length_cons,List.length_nil]; omega)) (ae ⟨rfl,fun _ _ h => Sat.dropS 0 h,(aZ rfl (av (first := []) (cap := []) rfl rfl rfl Tryz.call63 (fun w1 h1 => eU (cat (cat i.2 (raw ([32,106,111,105,110,32] ++ (q.from_.getD i.1 SrcX.zero).t))) (raw (asT (q.from_.getD i.1 SrcX.zero).s))) ([32,111,110,32]) w1 (by simp only [cat,raw,List.length_append,List.length_cons,List.length_nil]; omega)) (ae ⟨rfl,fun _ _ h => Sat.dropS 0 h,(bu [23,24] [_,_] rfl rfl (av (first := []) (cap := []) rfl rfl rfl Tryz.call65 (fun w1 h1 => pU (cat (cat (cat i.2 (raw ([32,106,111,105,110,32] ++ (q.from_.getD i.1 SrcX.zero).t))) (raw (asT (q.from_.getD i.1 SrcX.zero).s))) (raw [32,111,110,32])) (q.from_.getD i.1 SrcX.zero).e ye w1 (ExC.chg h1.chg _ _ (ExK.c _ _ hye)) (sg hm hil q4) (hok.from_ i.1 hil) (hL.chg h1.chg) (by simp only [cat,raw,List.length_append,List.length_cons,List.length_nil]; omega)) (bg (us := txC _) (cs := txC (_)) (z := 2) rfl rfl rfl bB .z rfl rfl rfl (ae ⟨rfl,(ao (ag (⟨_,(.cons rfl (.cons rfl (.cons rfl (.cons rfl (.nil _))))),fun _ h => h,by show cat (cat (cat (cat _ _) _) _) _ = _; rw [hit, ← su,mO q4]; simp only [bZ]⟩)))⟩))))⟩)))⟩)))⟩)))⟩)
     have h_j2 := hj
     exact aa (ah rfl rfl (bn rfl rfl rfl (by (try simp only [List.length_append,List.length_cons,List.length_nil]); omega) (o_assignN rfl rfl (⟨(i.1 + 1,j2),(.cons rfl (.cons rfl (.cons rfl (.cons rfl (.nil _))))),fun _ h => h,⟨by show i.1 + 1 ≤ _; omega,by exact h_j2⟩,by omega⟩))))
   · skip
     have hie : i.1 = q.from_.length := by omega
     rw [hie] at hit
     refine aS (au (au (aG (ag (ab (tri_slo [(1,_),(2,_),(3,_)] rfl (aa (aC bP bB .z rfl rfl (vs := txC (i.2)) rfl rfl (aj fZ rfl rfl (aC aW aV (.s (.s .z)) rfl rfl (vs := bA q.wh y.V) rfl rfl (av (first := []) (cap := []) rfl rfl rfl Tryz.call66 (fun w1 h1 => ry (i.2) q.wh y.V w1 (ExC.chg h1.chg _ _ (ExK.c _ _ hW)) (sh hm) hok.wh (hL.chg h1.chg) (by rw [hit]; simp only [cat,raw,List.length_append]; omega)) (bg (us := txC _) (cs := txC (_)) (z := 2) rfl rfl rfl bB .z rfl rfl rfl (triL_nilN (ab (ab (tri_slo [(1,_),(2,_),(3,_)] rfl (aa (o_assignN rfl rfl (aw (bf (ι := Nat × Txt) (F := fun i => [(1,.pointer (some ⟨b1,0,none⟩)),(2,.pointer (some ⟨b2,0,none⟩)),(3,.pointer (some ⟨b3,0,none⟩)),(6,.int .i64 (i.1 : Int))]) (HH := fun i => [box b3 114 (txC (i.2)),box b2 114 [.string .empty,.int .i64 0],box b1 35 (cI q y)]) (Pu := fun i => i.1 ≤ q.ord.length ∧ i.2 = cat (cat (cat (cat (cat (raw (eE q)) (cr (fun i => dv (q.items.getD i ItemX.zero)) q.items.length)) (upT (fun i => eD i (q.from_.getD i SrcX.zero)) q.from_.length)) (cT q.wh)) (raw (gI i.1))) (cr (fun i => gS (q.ord.getD i OrdX.zero)) i.1)) (μ := fun i => q.ord.length - i.1) ((0,cat i.2 (cT q.wh))) (.cons rfl (.cons rfl (.cons rfl (.cons rfl (.nil _))))) (fun _ h => h) (⟨Nat.zero_le _,by rw [hit]; show _ = cat (cat _ (raw [])) ([],0); rw [dE]; exact (dE _).symm⟩) (fun i hi => ?_)))))))))))))))))))))
     obtain ⟨hi,hit⟩ := hi
     have hil2 := congrArg (fun T : Txt => T.1.length) hit
     simp only [cat,raw,List.length_append] at hil2
     refine ab (ab (aa (ah rfl rfl (aj dl rfl rfl (ak eP N2 rfl rfl rfl (aN Tryz.underlying33 rfl rfl (bK rfl rfl rfl (triL_nilN (ar rfl (fun q5 => ?_) (fun q5 => ?_))))))))))
     · skip
       have hil : i.1 < q.ord.length := by omega
       have hoh : (gI q.ord.length).length = 10 := by rw [show gI q.ord.length = _ from if_pos (by omega)]; rfl
       refine am (ag (br (ι := Txt) (fun j4 => [(1,.pointer (some ⟨b1,0,none⟩)),(2,.pointer (some ⟨b2,0,none⟩)),(3,.pointer (some ⟨b3,0,none⟩)),(6,.int .i64 (i.1 : Int))]) (fun j4 => [box b3 114 (txC (j4)),box b2 114 [.string .empty,.int .i64 0],box b1 35 (cI q y)]) (fun j4 => j4 = cat (cat (cat (cat (cat (raw (eE q)) (cr (fun i => dv (q.items.getD i ItemX.zero)) q.items.length)) (upT (fun i => eD i (q.from_.getD i SrcX.zero)) q.from_.length)) (cT q.wh)) (raw (gI (i.1 + 1)))) (cr (fun i => gS (q.ord.getD i OrdX.zero)) (i.1 + 1))) ?_ (fun j4 hj => ?_)))
       · skip
         refine aw (br (ι := Txt) (fun j3 => [(1,.pointer (some ⟨b1,0,none⟩)),(2,.pointer (some ⟨b2,0,none⟩)),(3,.pointer (some ⟨b3,0,none⟩)),(6,.int .i64 (i.1 : Int))]) (fun j3 => [box b3 114 (txC (j3)),box b2 114 [.string .empty,.int .i64 0],box b1 35 (cI q y)]) (fun j3 => j3 = cat (cat (cat (cat (cat (raw (eE q)) (cr (fun i => dv (q.items.getD i ItemX.zero)) q.items.length)) (upT (fun i => eD i (q.from_.getD i SrcX.zero)) q.from_.length)) (cT q.wh)) (raw (gI (i.1 + 1)))) (cr (fun i => gS (q.ord.getD i OrdX.zero)) i.1)) ?_ (fun j3 hj => ?_))
         · skip
           refine ab (tri_slo [(1,_),(2,_),(3,_),(6,_)] rfl (aa (ah rfl rfl (ax rfl rfl rfl (triL_nilN (ar rfl (fun q6 => ?_) (fun q6 => ?_)))))))
           · skip
             exact aa (aC bP bB .z rfl rfl (vs := txC (i.2)) rfl rfl (av (first := []) (cap := []) rfl rfl rfl Tryz.call63 (fun w1 h1 => eU (i.2) ([32,111,114,100,101,114,32,98,121,32]) w1 (by rw [hit,show i.1 = 0 by omega,nL (i := 0) rfl,show cr (fun i => gS (q.ord.getD i OrdX.zero)) 0 = ([],0) from rfl]; simp only [cat,raw,List.length_append,List.length_cons,List.length_nil]; omega)) (bg (us := txC _) (cs := txC (_)) (z := 2) rfl rfl rfl bB .z rfl rfl rfl (triL_nilN (⟨_,(.cons rfl (.cons rfl (.cons rfl (.cons rfl (.nil _))))),fun _ h => h,by show cat _ _ = _; rw [hit,show i.1 = 0 by omega,nL (i := 0) rfl,lf]; simp only [cr,upT,dE,show raw [] = (([],0) : Txt) from rfl]⟩)))))
           · skip
             exact am (ag (⟨i.2,(.cons rfl (.cons rfl (.cons rfl (.cons rfl (.nil _))))),fun _ h => h,by rw [hit,lf,ordH_pos q6]⟩))
         have h_j3 := hj
         refine ab ?_
         have hci := ld hO i.1 hil
         have hc : (cr (fun i => gS (q.ord.getD i OrdX.zero)) i.1).1.length + ((cm i.1).length + (gS (q.ord.getD i.1 OrdX.zero)).1.length) ≤ (cr (fun i => gS (q.ord.getD i OrdX.zero)) q.ord.length).1.length := kd (fun i => gS (q.ord.getD i OrdX.zero)) hil
         have hge := congrArg (fun T : Txt => T.1.length) (show gS (q.ord.getD i.1 OrdX.zero) = _ from ow _)
         simp only [raw,List.length_append] at hge
         have hj3l := congrArg (fun T : Txt => T.1.length) h_j3
         simp only [cat,raw,List.length_append,lf,List.length_cons,List.length_nil] at hj3l
         refine bj (_) [(0,true),(1,true),(3,true),(4,true),(5,true),(6,true),(7,true),(8,true),(2,false),(9,false),(10,false)] [9,10] (by kernel_rfl) (by kernel_rfl) (fun _ h => h) (ai rfl (aC bP bB .z rfl rfl (vs := txC (j3)) rfl rfl (ae ⟨rfl,ai rfl (ah rfl rfl (ae ⟨rfl,ai rfl (aj dl rfl rfl (ae ⟨rfl,ai rfl (ak eP N2 rfl rfl rfl (ae ⟨rfl,ai rfl (ah rfl rfl (ae ⟨rfl,ai rfl (aL Tryz.underlying33 hZ rfl rfl rfl (hO.rd0 _ _ rfl rfl) (by (try simp only [List.length_append,List.length_cons,List.length_nil]); omega) (by (try simp only [List.length_append,List.length_cons,List.length_nil]); omega) hO.len (by decide) (ae ⟨rfl,ai rfl (aJ lP rfl rfl (hO.rd0 _ _ rfl rfl) (aD hci (j := 0) rfl) (ae ⟨rfl,ai rfl (aH bd rfl rfl (hO.rd0 _ _ rfl rfl) (aD hci (j := 0) rfl) (ae ⟨rfl,(aZ rfl (av (first := []) (cap := []) rfl rfl rfl Tryz.call64 (fun w1 h1 => km (j3) i.1 w1 (by simp only [cat,raw,List.length_append]; omega)) (ae ⟨rfl,fun _ _ h => Sat.dropS 0 h,(bu [9,10] [_,_] rfl rfl (av (first := []) (cap := []) rfl rfl rfl Tryz.call63 (fun w1 h1 => eU (cat j3 (raw (cm i.1))) ((q.ord.getD i.1 OrdX.zero).n) w1 (by simp only [cat,raw,List.length_append]; omega)) (bg (us := txC _) (cs := txC (_)) (z := 2) rfl rfl rfl bB .z rfl rfl rfl (ae ⟨rfl,(ag (ab (tri_slo [(1,_),(2,_),(3,_),(6,_)] rfl ?_)))⟩))))⟩)))⟩))⟩))⟩))⟩))⟩))⟩))⟩))⟩)))
         obtain ⟨j5,h_j5⟩ : ∃ j5 : Txt,j5 = cat (cat j3 (raw (cm i.1))) (raw (q.ord.getD i.1 OrdX.zero).n) := ⟨_,rfl⟩
         rw [← h_j5]
         have hj5l := congrArg (fun T : Txt => T.1.length) h_j5
         simp only [cat,raw,List.length_append] at hj5l
         refine aa (aj dl rfl rfl (ak eP N2 rfl rfl rfl (ah rfl rfl (aL Tryz.underlying33 hZ rfl rfl rfl (hO.rd0 _ _ rfl rfl) (by (try simp only [List.length_append,List.length_cons,List.length_nil]); omega) (by (try simp only [List.length_append,List.length_cons,List.length_nil]); omega) hO.len (by decide) (aJ oG rfl rfl (hO.rd0 _ _ rfl rfl) (aD hci (j := 0) rfl) (aH eb rfl rfl (hO.rd0 _ _ rfl rfl) (aD hci (j := 1) rfl) (triL_nilN (aE rfl (fun q7 => ?_) (fun q7 => ?_)))))))))
         · skip
           exact tri_slo [(1,_),(2,_),(3,_),(6,_)] rfl (aa (aC bP bB .z rfl rfl (vs := txC (j5)) rfl rfl (av (first := []) (cap := []) rfl rfl rfl Tryz.call63 (fun w1 h1 => eU (j5) ([32,100,101,115,99]) w1 (by simp only [jQ,if_pos q7,List.length_cons,List.length_nil] at hge; simp only [cat,raw,List.length_append,List.length_cons,List.length_nil]; omega)) (bg (us := txC _) (cs := txC (_)) (z := 2) rfl rfl rfl bB .z rfl rfl rfl (ae (ao (ag (⟨_,(.cons rfl (.cons rfl (.cons rfl (.cons rfl (.nil _))))),fun _ h => h,by show cat _ _ = _; rw [h_j5,h_j3, ← fh]; simp only [bZ]; rw [ow,jQ,if_pos q7]; simp only [fy]⟩))))))))
         · skip
           exact am (ao (ag (⟨j5,(.cons rfl (.cons rfl (.cons rfl (.cons rfl (.nil _))))),fun _ h => h,by rw [h_j5,h_j3, ← fh]; simp only [bZ]; rw [ow,jQ,if_neg (dP q7),List.append_nil]⟩)))
       have h_j4 := hj
       exact aa (ah rfl rfl (bn rfl rfl rfl (by (try simp only [List.length_append,List.length_cons,List.length_nil]); omega) (o_assignN rfl rfl (⟨(i.1 + 1,j4),(.cons rfl (.cons rfl (.cons rfl (.cons rfl (.nil _))))),fun _ h => h,⟨by show i.1 + 1 ≤ _; omega,by exact h_j4⟩,by omega⟩))))
     · skip
       have hie : i.1 = q.ord.length := by omega
       rw [hie] at hit
       refine aS (au (au (aG (ag (br (ι := Txt) (fun j6 => [(1,.pointer (some ⟨b1,0,none⟩)),(2,.pointer (some ⟨b2,0,none⟩)),(3,.pointer (some ⟨b3,0,none⟩))]) (fun j6 => [box b3 114 (txC (j6)),box b2 114 [.string .empty,.int .i64 0],box b1 35 (cI q y)]) (fun j6 => j6 = i8 q) ?_ (fun j6 hj => ?_))))))
       · skip
         refine ab (tri_slo [(1,_),(2,_),(3,_)] rfl (aa (aj iV rfl rfl (ak eb N2 rfl rfl rfl (triL_nilN (aE rfl (fun q8 => ?_) (fun q8 => ?_)))))))
         · skip
           simp only [limT,if_pos q8,List.length_append,List.length_cons,List.length_nil] at hb2
           exact bj (_) [(0,true),(1,true),(2,true),(3,false),(4,true),(5,false),(6,false)] [5,6] (by kernel_rfl) (by kernel_rfl) (fun _ h => h) (ai rfl (aC bP bB .z rfl rfl (vs := txC (i.2)) rfl rfl (ae ⟨rfl,ai rfl (aj gM rfl rfl (ae ⟨rfl,ai rfl (ak bz N2 rfl rfl rfl (ae ⟨rfl,(aZ rfl (av (first := []) (cap := []) rfl rfl rfl Tryz.call123 (fun w1 h1 => sG q.lim w1 hok.lim) (ae ⟨rfl,fun _ _ h => Sat.dropS 0 h,(ai rfl (cD rfl rfl rfl (by (try simp only [List.length_cons,List.length_nil]); omega) (ae ⟨rfl,(bu [5,6] [_,_] rfl rfl (av (first := []) (cap := []) rfl rfl rfl Tryz.call63 (fun w1 h1 => eU (i.2) ([32,108,105,109,105,116,32] ++ Lib.itoa q.lim) w1 (by rw [hit]; simp only [cat,raw,List.length_append,List.length_cons,List.length_nil]; omega)) (bg (us := txC _) (cs := txC (_)) (z := 2) rfl rfl rfl bB .z rfl rfl rfl (ae ⟨rfl,(ag (⟨_,(.cons rfl (.cons rfl (.cons rfl (.nil _)))),fun _ h => h,by show cat _ _ = _; rw [hit]; simp only [i8,limT,if_pos q8,bZ]⟩))⟩))))⟩)))⟩)))⟩))⟩))⟩)))
         · skip
           exact am (ag (⟨i.2,(.cons rfl (.cons rfl (.cons rfl (.nil _)))),fun _ h => h,by rw [hit]; simp only [i8,limT,if_neg (dP q8),bZ,show raw [] = (([],0) : Txt) from rfl,dE]⟩))
       have h_j6 := hj
       refine ab (aa (aC bP bB .z rfl rfl (vs := txC (j6)) rfl rfl (bg (us := [.string .empty,.int .i64 0]) (cs := txC _) (z := 2) rfl rfl rfl bB (.s .z) rfl rfl rfl (triL_nilN (ap (cw rfl bP bB N1 rfl rfl ?_)))))); exact fun w1 hw1 => ⟨by rw [h_j6],hw1.chg⟩
end Go.Proofs.YtjbpkcbefmpfgaaGreatDoor
namespace Go.Proofs.YtjbpkcbefmpfgaaGreatDoor
open Go.WK Go.RowKit 
theorem built114  : Tryz.prog.built 114 [] = some ([.string .empty,.int .i64 0] : List Value).toArray := by kernel_rfl
set_option maxRecDepth 100000 in
set_option maxHeartbeats 4000000 in
theorem writtenD (s : StmtX) (y : Lay) (bl : List Nat) (w : World) (hA : SAt bl w s y) (hbl : ∀ k ∈ bl,k < w.heap.size) (hok : SOk s) (hbd : SBd s) (hL : LV w) (hm : eh s = true) (hb : (dk s).1.length ≤ 70368744177664) : Calls Tryz.prog 29 #[.agg (bk s y).toArray] w (bX w (.tuple #[.string (B (dk s).1),.int .i64 ((dk s).2 : Int)])) := by
 refine ay (args := [.agg (bk s y).toArray]) (lent := []) (H := []) Tryz.func29 rfl Tryz.ntmps29 rfl (Sat.start _ _ _ _) ((show Tri _ [(0,_)] _ _ _ from ?_))
 obtain ⟨xC,xN,xR,xS,xI,xF,xO,hC,hN,hR_,hS,hW,hQ⟩ := id hA
 have n1 : s.cols.length ≤ 70368744177664 := hbd.nc
 have n2 : s.on.length ≤ 70368744177664 := hbd.nn
 have n3 : s.rows.length ≤ 70368744177664 := hbd.nr
 have n4 : s.sets.length ≤ 70368744177664 := hbd.ns
 have hk := k_rng hm
 have hpt := pG hm
 refine ab (aa (bY _ rfl rfl rfl (fun b1 => aB rfl rfl (o_assignN rfl rfl (ab (aa (aU built114 rfl rfl (aP _ rfl ib rfl (fun b4 => bg (us := [.string .empty,.int .i64 0]) (cs := txC ([],0)) (z := 2) rfl rfl rfl bB .z rfl rfl rfl (triL_nilN (br (ι := Txt) (fun j0 => [(1,.pointer (some ⟨b1,0,none⟩)),(4,.pointer (some ⟨b4,0,none⟩))]) (fun j0 => [box b4 114 (txC (j0)),box b1 37 (bk s y)]) (fun j0 => j0 = Wt s 1) ?_ (fun j0 hj => ?_))))))))))))
 · skip
   refine ab (tri_slo [(4,_),(1,_)] rfl (aa (aj dK rfl rfl (ak bz N1 rfl rfl rfl (ax rfl rfl rfl (triL_nilN (ar rfl (fun q0 => ?_) (fun q0 => ?_))))))))
   · skip
     refine ab ?_
     rw [st_1 q0] at hb
     simp only [bD,bC,List.length_append,List.length_cons,List.length_nil] at hb
     refine aa (aC bP bB .z rfl rfl (vs := txC ((([],0) : Txt))) rfl rfl (aj cl rfl rfl (ak bd N1 rfl rfl rfl (cD rfl rfl rfl (by (try simp only [List.length_cons,List.length_nil]); omega) (cD rfl rfl rfl (by (try simp only [List.length_append,List.length_cons,List.length_nil]); omega) (av (first := []) (cap := []) rfl rfl rfl Tryz.call63 (fun w1 h1 => eU ((([],0) : Txt)) (([99,114,101,97,116,101,32,116,97,98,108,101,32] ++ s.t) ++ [32,40]) w1 (by simp only [bD,bC,List.length_append,List.length_cons,List.length_nil]; omega)) (bg (us := txC _) (cs := txC (_)) (z := 2) rfl rfl rfl bB .z rfl rfl rfl (triL_nilN (ab (ab (tri_slo [(4,_),(1,_)] rfl (aa (o_assignN rfl rfl (aw (bf (ι := Nat × Txt) (F := fun i => [(1,.pointer (some ⟨b1,0,none⟩)),(4,.pointer (some ⟨b4,0,none⟩)),(5,.int .i64 (i.1 : Int))]) (HH := fun i => [box b4 114 (txC (i.2)),box b1 37 (bk s y)]) (Pu := fun i => i.1 ≤ s.cols.length ∧ i.2 = cat (cat (([],0) : Txt) (raw (([99,114,101,97,116,101,32,116,97,98,108,101,32] ++ s.t) ++ [32,40]))) (cr (fun i => ik (s.cols.getD i ColX.zero)) i.1)) (μ := fun i => s.cols.length - i.1) ((0,_)) (.cons rfl (.cons rfl (.cons rfl (.nil _)))) (fun _ h => h) (⟨Nat.zero_le _,(dE _).symm⟩) (fun i hi => ?_))))))))))))))))
     obtain ⟨hi,hit⟩ := hi
     have hil2 := congrArg (fun T : Txt => T.1.length) hit
     simp only [bD,bC,List.length_append,List.length_cons,List.length_nil] at hil2
     refine ab (ab (aa (ah rfl rfl (aj db rfl rfl (ak eQ N1 rfl rfl rfl (aN Tryz.underlying22 rfl rfl (bK rfl rfl rfl (triL_nilN (ar rfl (fun q1 => ?_) (fun q1 => ?_))))))))))
     · skip
       have hil : i.1 < s.cols.length := by omega
       have hck : 1 ≤ (s.cols.getD i.1 ColX.zero).k ∧ (s.cols.getD i.1 ColX.zero).k ≤ 3 := col_kind hpt q0 hil
       refine am (ag (br (ι := Txt) (fun j2 => [(1,.pointer (some ⟨b1,0,none⟩)),(4,.pointer (some ⟨b4,0,none⟩)),(5,.int .i64 (i.1 : Int))]) (fun j2 => [box b4 114 (txC (j2)),box b1 37 (bk s y)]) (fun j2 => j2 = cat (cat (([],0) : Txt) (raw (([99,114,101,97,116,101,32,116,97,98,108,101,32] ++ s.t) ++ [32,40]))) (cr (fun i => ik (s.cols.getD i ColX.zero)) (i.1 + 1))) ?_ (fun j2 hj => ?_)))
       · skip
         refine aw (ab (tri_slo [(1,_),(4,_),(5,_)] rfl (aa (ee (parts := [_,_,_,_]) (dm qZ) Tryz.underlying23 zs9 rfl rfl rfl rfl (by decide) (by decide) (fun b29 => o_assignN rfl rfl (ab ?_))))))
         have hci := lc hC i.1 hil
         have hc : (cr (fun i => ik (s.cols.getD i ColX.zero)) i.1).1.length + ((cm i.1).length + (ik (s.cols.getD i.1 ColX.zero)).1.length) ≤ (cr (fun i => ik (s.cols.getD i ColX.zero)) s.cols.length).1.length := kd (fun i => ik (s.cols.getD i ColX.zero)) hil
         have hge := congrArg (fun T : Txt => T.1.length) (show ik (s.cols.getD i.1 ColX.zero) = _ from ox _)
         simp only [bC,List.length_append] at hge
         refine bj (_) [(0,true),(1,true),(3,true),(4,true),(5,true),(6,true),(7,true),(8,true),(9,true),(10,true),(11,true),(12,true),(13,true),(14,true),(15,true),(16,true),(17,true),(18,true),(2,false),(19,false),(20,false)] [19,20] (by kernel_rfl) (by kernel_rfl) (fun _ h => h) (ai rfl (aC bP bB (.s .z) rfl rfl (vs := txC (i.2)) rfl rfl (ae ⟨rfl,ai rfl (ah rfl rfl (ae ⟨rfl,ai rfl (aj db rfl rfl (ae ⟨rfl,ai rfl (ak eQ N2 rfl rfl rfl (ae ⟨rfl,ai rfl (ah rfl rfl (ae ⟨rfl,ai rfl (aL Tryz.underlying22 jK rfl rfl rfl (hC.rd0 _ _ rfl rfl) (by (try simp only [List.length_append,List.length_cons,List.length_nil]); omega) (by (try simp only [List.length_append,List.length_cons,List.length_nil]); omega) hC.len (by decide) (ae ⟨rfl,ai rfl (aJ oN rfl rfl (hC.rd0 _ _ rfl rfl) (aD hci (j := 0) rfl) (ae ⟨rfl,ai rfl (aH bd rfl rfl (hC.rd0 _ _ rfl rfl) (aD hci (j := 0) rfl) (ae ⟨rfl,ai rfl (ah rfl rfl (ae ⟨rfl,ai rfl (aj db rfl rfl (ae ⟨rfl,ai rfl (ak eQ N2 rfl rfl rfl (ae ⟨rfl,ai rfl (ah rfl rfl (ae ⟨rfl,ai rfl (aL Tryz.underlying22 jK rfl rfl rfl (hC.rd0 _ _ rfl rfl) (by (try simp only [List.length_append,List.length_cons,List.length_nil]); omega) (by (try simp only [List.length_append,List.length_cons,List.length_nil]); omega) hC.len (by decide) (ae ⟨rfl,ai rfl (aJ lq rfl rfl (hC.rd0 _ _ rfl rfl) (aD hci (j := 0) rfl) (ae ⟨rfl,ai rfl (aH bz rfl rfl (hC.rd0 _ _ rfl rfl) (aD hci (j := 1) rfl) (ae ⟨rfl,ai rfl (aL Tryz.underlying23 sz9 rfl rfl rfl (RdS.row .z) (by (try simp only [List.length_append,List.length_cons,List.length_nil]); omega) (by (try simp only [List.length_append,List.length_cons,List.length_nil]); omega) rfl (by decide) (ae ⟨rfl,ai rfl (aH bd rfl rfl (RdS.row .z) (ix qZ (s.cols.getD i.1 ColX.zero).k.toNat _ (by simp) (by show (s.cols.getD i.1 ColX.zero).k.toNat < 4; omega)) ?_)⟩))⟩))⟩))⟩))⟩))⟩))⟩))⟩))⟩))⟩))⟩))⟩))⟩))⟩))⟩))⟩)))
         rw [kinds_at hck]
         refine ae ⟨rfl,ai rfl (cD rfl rfl rfl (by (try simp only [List.length_append,List.length_cons,List.length_nil]); omega) (ae ⟨rfl,(aZ rfl (av (first := []) (cap := []) rfl rfl rfl Tryz.call64 (fun w1 h1 => km (i.2) i.1 w1 (by simp only [bD,bC]; omega)) (ae ⟨rfl,fun _ _ h => Sat.dropS 0 h,(bu [19,20] [_,_] rfl rfl (av (first := []) (cap := []) rfl rfl rfl Tryz.call63 (fun w1 h1 => eU (cat i.2 (raw (cm i.1))) ((s.cols.getD i.1 ColX.zero).n ++ jl (s.cols.getD i.1 ColX.zero).k) w1 (by simp only [bD,bC,List.length_append]; omega)) (bg (us := txC _) (cs := txC (_)) (z := 2) rfl rfl rfl bB (.s .z) rfl rfl rfl (ae ⟨rfl,(ag (ab (tri_slo [(1,_),(4,_),(5,_)] rfl (aa (aj db rfl rfl (ak eQ N2 rfl rfl rfl (ah rfl rfl (aL Tryz.underlying22 jK rfl rfl rfl (hC.rd0 _ _ rfl rfl) (by (try simp only [List.length_append,List.length_cons,List.length_nil]); omega) (by (try simp only [List.length_append,List.length_cons,List.length_nil]); omega) hC.len (by decide) (aJ fo71_2 rfl rfl (hC.rd0 _ _ rfl rfl) (aD hci (j := 0) rfl) (aH eb rfl rfl (hC.rd0 _ _ rfl rfl) (aD hci (j := 2) rfl) (triL_nilN (aE rfl (fun q2 => ?_) (fun q2 => ?_)))))))))))))⟩))))⟩)))⟩))⟩
         · skip
           exact tri_slo [(1,_),(4,_),(5,_)] rfl (aa (aC bP bB (.s .z) rfl rfl (vs := txC (cat (cat i.2 (raw (cm i.1))) (raw ((s.cols.getD i.1 ColX.zero).n ++ jl (s.cols.getD i.1 ColX.zero).k)))) rfl rfl (av (first := []) (cap := []) rfl rfl rfl Tryz.call63 (fun w1 h1 => eU (cat (cat i.2 (raw (cm i.1))) (raw ((s.cols.getD i.1 ColX.zero).n ++ jl (s.cols.getD i.1 ColX.zero).k))) ([32,110,111,116,32,110,117,108,108]) w1 (by simp only [eC,if_pos q2,List.length_cons,List.length_nil] at hge; simp only [bD,bC,List.length_append,List.length_cons,List.length_nil]; omega)) (bg (us := txC _) (cs := txC (_)) (z := 2) rfl rfl rfl bB (.s .z) rfl rfl rfl (ae (ao (ag (⟨_,(.cons rfl (.cons rfl (.cons rfl (.nil _)))),(fun w2 hw2 => hw2.tail),by show cat _ _ = _; rw [hit, ← fh]; simp only [bZ]; rw [ox,eC,if_pos q2]; simp only [fy,List.append_assoc]⟩))))))))
         · skip
           exact am (ao (ag (⟨_,(.cons rfl (.cons rfl (.cons rfl (.nil _)))),(fun w2 hw2 => hw2.tail),by show cat _ _ = _; rw [hit, ← fh]; simp only [bZ]; rw [ox,eC,if_neg (dP q2),List.append_nil]⟩)))
       have h2 := hj
       exact aa (ah rfl rfl (bn rfl rfl rfl (by (try simp only [List.length_append,List.length_cons,List.length_nil]); omega) (o_assignN rfl rfl (⟨(i.1 + 1,j2),(.cons rfl (.cons rfl (.cons rfl (.nil _)))),(fun w2 hw2 => hw2),⟨by show i.1 + 1 ≤ _; omega,by exact h2⟩,by omega⟩))))
     · skip
       have hie : i.1 = s.cols.length := by omega
       rw [hie] at hit
       exact aS (au (au (aG (ag (tri_slo [(1,_),(4,_)] rfl (aa (aC bP bB .z rfl rfl (vs := txC (i.2)) rfl rfl (av (first := []) (cap := []) rfl rfl rfl Tryz.call63 (fun w1 h1 => eU (i.2) ([41]) w1 (by rw [hit]; simp only [bD,bC,List.length_append,List.length_cons,List.length_nil]; omega)) (bg (us := txC _) (cs := txC (_)) (z := 2) rfl rfl rfl bB .z rfl rfl rfl (triL_nilN (⟨_,(.cons rfl (.cons rfl (.nil _))),fun _ h => h,by rw [iP (by omega),st_1 q0]; rw [hit]; simp only [hJ,bZ,List.append_assoc]⟩)))))))))))
   · skip
     exact am (ag (⟨_,(.cons rfl (.cons rfl (.nil _))),fun _ h => h,by rw [gr (by omega)]⟩))
 subst hj
 refine br (ι := Txt) (fun j3 => [(1,.pointer (some ⟨b1,0,none⟩)),(4,.pointer (some ⟨b4,0,none⟩))]) (fun j3 => [box b4 114 (txC (j3)),box b1 37 (bk s y)]) (fun j3 => j3 = Wt s 2) ?_ (fun j3 hj => ?_)
 · skip
   refine ab (aa (aj dK rfl rfl (ak bz N1 rfl rfl rfl (ax rfl rfl rfl (triL_nilN (ar rfl (fun q3 => ?_) (fun q3 => ?_)))))))
   · skip
     rw [gr (s := s) (n := 1) (by omega)]
     rw [st_2 q3] at hb
     simp only [bC,List.length_append,List.length_cons,List.length_nil] at hb
     exact aa (aC bP bB .z rfl rfl (vs := txC ((([],0) : Txt))) rfl rfl (aj cl rfl rfl (ak bd N1 rfl rfl rfl (cD rfl rfl rfl (by (try simp only [List.length_cons,List.length_nil]); omega) (av (first := []) (cap := []) rfl rfl rfl Tryz.call63 (fun w1 h1 => eU ((([],0) : Txt)) ([100,114,111,112,32,116,97,98,108,101,32] ++ s.t) w1 (by simp only [bD,bC,List.length_append,List.length_cons,List.length_nil]; omega)) (bg (us := txC _) (cs := txC (_)) (z := 2) rfl rfl rfl bB .z rfl rfl rfl (triL_nilN (⟨_,(.cons rfl (.cons rfl (.nil _))),fun _ h => h,by rw [iP (by omega),st_2 q3]; show _ = _; simp only [hJ]⟩))))))))
   · skip
     exact am (ag (⟨_,(.cons rfl (.cons rfl (.nil _))),fun _ h => h,by exact iQ q3 (by omega)⟩))
 subst hj
 refine br (ι := Txt) (fun j4 => [(1,.pointer (some ⟨b1,0,none⟩)),(4,.pointer (some ⟨b4,0,none⟩))]) (fun j4 => [box b4 114 (txC (j4)),box b1 37 (bk s y)]) (fun j4 => j4 = Wt s 3) ?_ (fun j4 hj => ?_)
 · skip
   refine ab (aa (aj dK rfl rfl (ak bz N1 rfl rfl rfl (ax rfl rfl rfl (triL_nilN (ar rfl (fun q4 => ?_) (fun q4 => ?_)))))))
   · skip
     refine ab ?_
     rw [gr (s := s) (n := 2) (by omega)]
     rw [st_3 q4] at hb
     simp only [bD,bC,List.length_append,List.length_cons,List.length_nil] at hb
     refine aa (aC bP bB .z rfl rfl (vs := txC ((([],0) : Txt))) rfl rfl (av (first := []) (cap := []) rfl rfl rfl Tryz.call63 (fun w1 h1 => eU ((([],0) : Txt)) ([99,114,101,97,116,101,32]) w1 (by simp only [bD,bC,List.length_cons,List.length_nil]; omega)) (bg (us := txC _) (cs := txC (_)) (z := 2) rfl rfl rfl bB .z rfl rfl rfl (triL_nilN (br (ι := Txt) (fun j5 => [(1,.pointer (some ⟨b1,0,none⟩)),(4,.pointer (some ⟨b4,0,none⟩))]) (fun j5 => [box b4 114 (txC (j5)),box b1 37 (bk s y)]) (fun j5 => j5 = cat (cat (([],0) : Txt) (raw [99,114,101,97,116,101,32])) (raw (if s.un = true then [117,110,105,113,117,101,32] else []))) ?_ (fun j5 hj => ?_))))))
     · skip
       refine ab (tri_slo [(1,_),(4,_)] rfl (aa (aj il rfl rfl (ak eb N1 rfl rfl rfl (triL_nilN (aE rfl (fun q5 => ?_) (fun q5 => ?_)))))))
       · skip
         exact aa (aC bP bB .z rfl rfl (vs := txC (cat (([],0) : Txt) (raw [99,114,101,97,116,101,32]))) rfl rfl (av (first := []) (cap := []) rfl rfl rfl Tryz.call63 (fun w1 h1 => eU (cat (([],0) : Txt) (raw [99,114,101,97,116,101,32])) ([117,110,105,113,117,101,32]) w1 (by rw [if_pos q5] at hb; simp only [List.length_cons,List.length_nil] at hb; simp only [bD,bC,List.length_cons,List.length_nil]; omega)) (bg (us := txC _) (cs := txC (_)) (z := 2) rfl rfl rfl bB .z rfl rfl rfl (triL_nilN (⟨_,(.cons rfl (.cons rfl (.nil _))),fun _ h => h,by rw [if_pos q5]⟩)))))
       · skip
         exact am (ag (⟨_,(.cons rfl (.cons rfl (.nil _))),fun _ h => h,by rw [if_neg (dP q5)]; exact (dE _).symm⟩))
     subst hj
     refine ab (aa (aC bP bB .z rfl rfl (vs := txC (cat (cat (([],0) : Txt) (raw [99,114,101,97,116,101,32])) (raw (if s.un = true then [117,110,105,113,117,101,32] else [])))) rfl rfl (aj dL rfl rfl (ak bd N1 rfl rfl rfl (cD rfl rfl rfl (by (try simp only [List.length_cons,List.length_nil]); omega) (cD rfl rfl rfl (by (try simp only [List.length_append,List.length_cons,List.length_nil]); omega) (aj cl rfl rfl (ak bd N1 rfl rfl rfl (cD rfl rfl rfl (by (try simp only [List.length_append,List.length_cons,List.length_nil]); omega) (cD rfl rfl rfl (by (try simp only [List.length_append,List.length_cons,List.length_nil]); omega) (av (first := []) (cap := []) rfl rfl rfl Tryz.call63 (fun w1 h1 => eU (cat (cat (([],0) : Txt) (raw [99,114,101,97,116,101,32])) (raw (if s.un = true then [117,110,105,113,117,101,32] else []))) ((((([105,110,100,101,120,32] ++ s.n) ++ [32,111,110,32]) ++ s.t) ++ [32,40])) w1 (by simp only [bD,bC,List.length_append,List.length_cons,List.length_nil]; omega)) (bg (us := txC _) (cs := txC (_)) (z := 2) rfl rfl rfl bB .z rfl rfl rfl (triL_nilN (ab (ab (tri_slo [(1,_),(4,_)] rfl (aa (o_assignN rfl rfl (aw (bf (ι := Nat × Txt) (F := fun i => [(1,.pointer (some ⟨b1,0,none⟩)),(4,.pointer (some ⟨b4,0,none⟩)),(7,.int .i64 (i.1 : Int))]) (HH := fun i => [box b4 114 (txC (i.2)),box b1 37 (bk s y)]) (Pu := fun i => i.1 ≤ s.on.length ∧ i.2 = cat (cat (cat (cat (([],0) : Txt) (raw [99,114,101,97,116,101,32])) (raw (if s.un = true then [117,110,105,113,117,101,32] else []))) (raw (((([105,110,100,101,120,32] ++ s.n) ++ [32,111,110,32]) ++ s.t) ++ [32,40]))) (cr (fun i => raw (s.on.getD i [])) i.1)) (μ := fun i => s.on.length - i.1) ((0,_)) (.cons rfl (.cons rfl (.cons rfl (.nil _)))) (fun _ h => h) (⟨Nat.zero_le _,(dE _).symm⟩) (fun i hi => ?_)))))))))))))))))))))
     obtain ⟨hi,hit⟩ := hi
     have hil2 := congrArg (fun T : Txt => T.1.length) hit
     simp only [bD,bC,List.length_append,List.length_cons,List.length_nil] at hil2
     refine ab (ab (aa (ah rfl rfl (aj dF rfl rfl (ak fP N1 rfl rfl rfl (aN Tryz.underlying23 rfl rfl (bK rfl rfl rfl (triL_nilN (ar rfl (fun q6 => ?_) (fun q6 => ?_))))))))))
     · skip
       have hil : i.1 < s.on.length := by omega
       refine am (ag (ab (aw (tri_slo [(1,_),(4,_),(7,_)] rfl ?_))))
       have hci := jz hN i.1 hil
       have hc : (cr (fun i => raw (s.on.getD i [])) i.1).1.length + ((cm i.1).length + (s.on.getD i.1 []).length) ≤ (cr (fun i => raw (s.on.getD i [])) s.on.length).1.length := kd (fun i => raw (s.on.getD i [])) hil
       exact bj (_) [(0,true),(1,true),(3,true),(4,true),(5,true),(6,true),(7,true),(2,false),(8,false),(9,false)] [8,9] (by kernel_rfl) (by kernel_rfl) (fun _ h => h) (ai rfl (aC bP bB .z rfl rfl (vs := txC (i.2)) rfl rfl (ae ⟨rfl,ai rfl (ah rfl rfl (ae ⟨rfl,ai rfl (aj dF rfl rfl (ae ⟨rfl,ai rfl (ak fP N1 rfl rfl rfl (ae ⟨rfl,ai rfl (ah rfl rfl (ae ⟨rfl,ai rfl (aL Tryz.underlying23 sz9 rfl rfl rfl (hN.rd0 _ _ rfl rfl) (by (try simp only [List.length_append,List.length_cons,List.length_nil]); omega) (by (try simp only [List.length_append,List.length_cons,List.length_nil]); omega) hN.len (by decide) (ae ⟨rfl,ai rfl (aH bd rfl rfl (hN.rd0 _ _ rfl rfl) (aD hci (j := 0) rfl) (ae ⟨rfl,(aZ rfl (av (first := []) (cap := []) rfl rfl rfl Tryz.call64 (fun w1 h1 => km (i.2) i.1 w1 (by simp only [bD,bC]; omega)) (ae ⟨rfl,fun _ _ h => Sat.dropS 0 h,(bu [8,9] [_,_] rfl rfl (av (first := []) (cap := []) rfl rfl rfl Tryz.call63 (fun w1 h1 => eU (cat i.2 (raw (cm i.1))) ((s.on.getD i.1 [])) w1 (by simp only [bD,bC]; omega)) (bg (us := txC _) (cs := txC (_)) (z := 2) rfl rfl rfl bB .z rfl rfl rfl (ae ⟨rfl,(ao (ag (tri_slo [(1,_),(4,_),(7,_)] rfl (aa (ah rfl rfl (bn rfl rfl rfl (by (try simp only [List.length_append,List.length_cons,List.length_nil]); omega) (o_assignN rfl rfl (⟨(i.1 + 1,cat (cat i.2 (raw (cm i.1))) (raw (s.on.getD i.1 []))),(.cons rfl (.cons rfl (.cons rfl (.nil _)))),(fun w2 hw2 => hw2),⟨by show i.1 + 1 ≤ _; omega,by rw [hit, ← fh]; simp only [bZ]⟩,by omega⟩))))))))⟩))))⟩)))⟩))⟩))⟩))⟩))⟩))⟩))⟩)))
     · skip
       have hie : i.1 = s.on.length := by omega
       rw [hie] at hit
       exact aS (au (au (aG (ag (tri_slo [(1,_),(4,_)] rfl (aa (aC bP bB .z rfl rfl (vs := txC (i.2)) rfl rfl (av (first := []) (cap := []) rfl rfl rfl Tryz.call63 (fun w1 h1 => eU (i.2) ([41]) w1 (by rw [hit]; simp only [bD,bC,List.length_append,List.length_cons,List.length_nil]; omega)) (bg (us := txC _) (cs := txC (_)) (z := 2) rfl rfl rfl bB .z rfl rfl rfl (triL_nilN (⟨_,(.cons rfl (.cons rfl (.nil _))),fun _ h => h,by rw [iP (by omega),st_3 q4]; rw [hit]; simp only [hJ,bZ,fy,List.append_assoc]⟩)))))))))))
   · skip
     exact am (ag (⟨_,(.cons rfl (.cons rfl (.nil _))),fun _ h => h,by exact iQ q4 (by omega)⟩))
 subst hj
 refine br (ι := Txt) (fun j7 => [(1,.pointer (some ⟨b1,0,none⟩)),(4,.pointer (some ⟨b4,0,none⟩))]) (fun j7 => [box b4 114 (txC (j7)),box b1 37 (bk s y)]) (fun j7 => j7 = Wt s 4) ?_ (fun j7 hj => ?_)
 · skip
   refine ab (aa (aj dK rfl rfl (ak bz N1 rfl rfl rfl (ax rfl rfl rfl (triL_nilN (ar rfl (fun q7 => ?_) (fun q7 => ?_)))))))
   · skip
     rw [gr (s := s) (n := 3) (by omega)]
     rw [st_4 q7] at hb
     simp only [bC,List.length_append,List.length_cons,List.length_nil] at hb
     exact aa (aC bP bB .z rfl rfl (vs := txC ((([],0) : Txt))) rfl rfl (aj dL rfl rfl (ak bd N1 rfl rfl rfl (cD rfl rfl rfl (by (try simp only [List.length_cons,List.length_nil]); omega) (av (first := []) (cap := []) rfl rfl rfl Tryz.call63 (fun w1 h1 => eU ((([],0) : Txt)) ([100,114,111,112,32,105,110,100,101,120,32] ++ s.n) w1 (by simp only [bD,bC,List.length_append,List.length_cons,List.length_nil]; omega)) (bg (us := txC _) (cs := txC (_)) (z := 2) rfl rfl rfl bB .z rfl rfl rfl (triL_nilN (⟨_,(.cons rfl (.cons rfl (.nil _))),fun _ h => h,by rw [iP (by omega),st_4 q7]; show _ = _; simp only [hJ]⟩))))))))
   · skip
     exact am (ag (⟨_,(.cons rfl (.cons rfl (.nil _))),fun _ h => h,by exact iQ q7 (by omega)⟩))
 subst hj
 refine br (ι := Txt) (fun j8 => [(1,.pointer (some ⟨b1,0,none⟩)),(4,.pointer (some ⟨b4,0,none⟩))]) (fun j8 => [box b4 114 (txC (j8)),box b1 37 (bk s y)]) (fun j8 => j8 = Wt s 5) ?_ (fun j8 hj => ?_)
 · skip
   refine ab (aa (aj dK rfl rfl (ak bz N1 rfl rfl rfl (ax rfl rfl rfl (triL_nilN (ar rfl (fun q8 => ?_) (fun q8 => ?_)))))))
   · skip
     refine ab ?_
     rw [gr (s := s) (n := 4) (by omega)]
     rw [st_5 q8] at hb
     simp only [bD,bC,List.length_append,List.length_cons,List.length_nil] at hb
     refine aa (aC bP bB .z rfl rfl (vs := txC ((([],0) : Txt))) rfl rfl (aj cl rfl rfl (ak bd N1 rfl rfl rfl (cD rfl rfl rfl (by (try simp only [List.length_cons,List.length_nil]); omega) (cD rfl rfl rfl (by (try simp only [List.length_append,List.length_cons,List.length_nil]); omega) (av (first := []) (cap := []) rfl rfl rfl Tryz.call63 (fun w1 h1 => eU ((([],0) : Txt)) (([105,110,115,101,114,116,32,105,110,116,111,32] ++ s.t) ++ [32,118,97,108,117,101,115,32]) w1 (by simp only [bD,bC,List.length_append,List.length_cons,List.length_nil]; omega)) (bg (us := txC _) (cs := txC (_)) (z := 2) rfl rfl rfl bB .z rfl rfl rfl (triL_nilN (ab (tri_slo [(1,_),(4,_)] rfl (aa (o_assignN rfl rfl (aw (bf (ι := Nat × Txt) (F := fun i => [(1,.pointer (some ⟨b1,0,none⟩)),(4,.pointer (some ⟨b4,0,none⟩)),(8,.int .i64 (i.1 : Int))]) (HH := fun i => [box b4 114 (txC (i.2)),box b1 37 (bk s y)]) (Pu := fun i => i.1 ≤ s.rows.length ∧ i.2 = cat (cat (([],0) : Txt) (raw (([105,110,115,101,114,116,32,105,110,116,111,32] ++ s.t) ++ [32,118,97,108,117,101,115,32]))) (cr (fun i => i6 (s.rows.getD i [])) i.1)) (μ := fun i => s.rows.length - i.1) ((0,_)) (.cons rfl (.cons rfl (.cons rfl (.nil _)))) (fun _ h => h) (⟨Nat.zero_le _,(dE _).symm⟩) (fun i hi => ?_)))))))))))))))
     obtain ⟨hi,hit⟩ := hi
     have hil2 := congrArg (fun T : Txt => T.1.length) hit
     simp only [bD,bC,List.length_append,List.length_cons,List.length_nil] at hil2
     refine ab (ab (aa (ah rfl rfl (aj dc rfl rfl (ak eR N1 rfl rfl rfl (aN Tryz.underlying24 rfl rfl (bK rfl rfl rfl (triL_nilN (ar rfl (fun q9 => ?_) (fun q9 => ?_))))))))))
     · skip
       have hil : i.1 < s.rows.length := by omega
       refine am (ag (ab (aw (ab (tri_slo [(1,_),(4,_),(8,_)] rfl ?_)))))
       obtain ⟨yr,xr,hcr,hRr⟩ := iO hR_ i.1 hil
       have nr : (s.rows.getD i.1 []).length ≤ 70368744177664 := (hbd.rows i.1 hil).1
       have hc : (cr (fun i => i6 (s.rows.getD i [])) i.1).1.length + ((cm i.1).length + (i6 (s.rows.getD i.1 [])).1.length) ≤ (cr (fun i => i6 (s.rows.getD i [])) s.rows.length).1.length := kd (fun i => i6 (s.rows.getD i [])) hil
       have hge := congrArg (fun T : Txt => T.1.length) (show i6 (s.rows.getD i.1 []) = _ from sq _)
       simp only [bD,bC,List.length_cons,List.length_nil] at hge
       refine aa (aC bP bB .z rfl rfl (vs := txC (i.2)) rfl rfl (ah rfl rfl (av (first := []) (cap := []) rfl rfl rfl Tryz.call64 (fun w1 h1 => km (i.2) i.1 w1 (by simp only [bD,bC]; omega)) (av (first := []) (cap := []) rfl rfl rfl Tryz.call63 (fun w1 h1 => eU (cat i.2 (raw (cm i.1))) ([40]) w1 (by simp only [bD,bC,List.length_cons,List.length_nil]; omega)) (bg (us := txC _) (cs := txC (_)) (z := 2) rfl rfl rfl bB .z rfl rfl rfl (triL_nilN (ab (ab (tri_slo [(1,_),(4,_),(8,_)] rfl (aa (o_assignN rfl rfl (aw (bf (ι := Nat × Txt) (F := fun k => [(1,.pointer (some ⟨b1,0,none⟩)),(4,.pointer (some ⟨b4,0,none⟩)),(8,.int .i64 (i.1 : Int)),(9,.int .i64 (k.1 : Int))]) (HH := fun k => [box b4 114 (txC (k.2)),box b1 37 (bk s y)]) (Pu := fun k => k.1 ≤ (s.rows.getD i.1 []).length ∧ k.2 = cat (cat (cat i.2 (raw (cm i.1))) (raw [40])) (cr (fun k => ((s.rows.getD i.1 []).getD k Ex.zero).txt 1) k.1)) (μ := fun k => (s.rows.getD i.1 []).length - k.1) ((0,_)) (.cons rfl (.cons rfl (.cons rfl (.cons rfl (.nil _))))) (fun _ h => h) (⟨Nat.zero_le _,(dE _).symm⟩) (fun k hk2 => ?_))))))))))))))
       obtain ⟨hkb,hkt⟩ := hk2
       have hkl2 := congrArg (fun T : Txt => T.1.length) hkt
       simp only [bD,bC,List.length_cons,List.length_nil] at hkl2
       refine ab (ab (aa (ah rfl rfl (aj dc rfl rfl (ak eR N1 rfl rfl rfl (ah rfl rfl (aL Tryz.underlying24 sz28 rfl rfl rfl (hR_.rd0 _ _ rfl rfl) (by (try simp only [List.length_append,List.length_cons,List.length_nil]); omega) (by (try simp only [List.length_append,List.length_cons,List.length_nil]); omega) hR_.len (by decide) (aH cM rfl rfl (hR_.rd0 _ _ rfl rfl) (aD hcr (j := 0) rfl) (aN Tryz.underlying28 rfl rfl (bK rfl rfl rfl (triL_nilN (ar rfl (fun q10 => ?_) (fun q10 => ?_)))))))))))))
       · skip
         have hkl : k.1 < (s.rows.getD i.1 []).length := by omega
         refine am (ag (ab (aw (tri_slo [(1,_),(4,_),(8,_),(9,_)] rfl ?_))))
         obtain ⟨ye,hci,hye⟩ := nJ hRr k.1 hkl
         have hck : (cr (fun k => ((s.rows.getD i.1 []).getD k Ex.zero).txt 1) k.1).1.length + ((cm k.1).length + (((s.rows.getD i.1 []).getD k.1 Ex.zero).txt 1).1.length) ≤ (cr (fun k => ((s.rows.getD i.1 []).getD k Ex.zero).txt 1) (s.rows.getD i.1 []).length).1.length := kd (fun k => ((s.rows.getD i.1 []).getD k Ex.zero).txt 1) hkl
         exact bj (_) [(0,true),(1,true),(3,true),(4,true),(5,true),(6,true),(7,true),(8,true),(9,true),(10,true),(2,false),(11,false),(12,false)] [11,12] (by kernel_rfl) (by kernel_rfl) (fun _ h => h) (ai rfl (aC bP bB .z rfl rfl (vs := txC (k.2)) rfl rfl (ae ⟨rfl,ai rfl (ah rfl rfl (ae ⟨rfl,ai rfl (aj dc rfl rfl (ae ⟨rfl,ai rfl (ak eR N1 rfl rfl rfl (ae ⟨rfl,ai rfl (ah rfl rfl (ae ⟨rfl,ai rfl (aL Tryz.underlying24 sz28 rfl rfl rfl (hR_.rd0 _ _ rfl rfl) (by (try simp only [List.length_append,List.length_cons,List.length_nil]); omega) (by (try simp only [List.length_append,List.length_cons,List.length_nil]); omega) hR_.len (by decide) (ae ⟨rfl,ai rfl (aH cM rfl rfl (hR_.rd0 _ _ rfl rfl) (aD hcr (j := 0) rfl) (ae ⟨rfl,ai rfl (ah rfl rfl (ae ⟨rfl,ai rfl (aL Tryz.underlying28 aV rfl rfl rfl (hRr.rd0 _ _ rfl rfl) (by (try simp only [List.length_append,List.length_cons,List.length_nil]); omega) (by (try simp only [List.length_append,List.length_cons,List.length_nil]); omega) hRr.len (by decide) (ae ⟨rfl,ai rfl (bo aW aV rfl rfl (hRr.rd0 _ _ rfl rfl) (vs := bA ((s.rows.getD i.1 []).getD k.1 Ex.zero) ye) hci rfl (by decide) (ae ⟨rfl,(aZ rfl (av (first := []) (cap := []) rfl rfl rfl Tryz.call64 (fun w1 h1 => km (k.2) k.1 w1 (by simp only [bD,bC]; omega)) (ae ⟨rfl,fun _ _ h => Sat.dropS 0 h,(bu [11,12] [_,_] rfl rfl (av (first := []) (cap := []) rfl rfl rfl Tryz.call65 (fun w1 h1 => pU (cat k.2 (raw (cm k.1))) ((s.rows.getD i.1 []).getD k.1 Ex.zero) ye w1 (ExC.chg h1.chg _ _ (ExK.c _ _ hye)) (si hpt q8 hil hkl) (hok.rows i.1 hil k.1 hkl) (hL.chg h1.chg) (by simp only [bD,bC]; omega)) (bg (us := txC _) (cs := txC (_)) (z := 2) rfl rfl rfl bB .z rfl rfl rfl (ae ⟨rfl,(ao (ag (tri_slo [(1,_),(4,_),(8,_),(9,_)] rfl (aa (ah rfl rfl (bn rfl rfl rfl (by (try simp only [List.length_append,List.length_cons,List.length_nil]); omega) (o_assignN rfl rfl (⟨(k.1 + 1,cat (cat k.2 (raw (cm k.1))) (((s.rows.getD i.1 []).getD k.1 Ex.zero).txt 1)),(.cons rfl (.cons rfl (.cons rfl (.cons rfl (.nil _))))),fun _ h => h,⟨by show k.1 + 1 ≤ _; omega,by rw [hkt, ← fh]; simp only [bZ]⟩,by omega⟩))))))))⟩))))⟩)))⟩))⟩))⟩))⟩))⟩))⟩))⟩))⟩))⟩))⟩)))
       · skip
         have hke : k.1 = (s.rows.getD i.1 []).length := by omega
         rw [hke] at hkt
         exact aS (au (au (aG (ag (tri_slo [(1,_),(4,_),(8,_)] rfl (aa (aC bP bB .z rfl rfl (vs := txC (k.2)) rfl rfl (av (first := []) (cap := []) rfl rfl rfl Tryz.call63 (fun w1 h1 => eU (k.2) ([41]) w1 (by rw [hkt]; simp only [bD,bC,List.length_cons,List.length_nil]; omega)) (bg (us := txC _) (cs := txC (_)) (z := 2) rfl rfl rfl bB .z rfl rfl rfl (ae (ao (ag (aa (ah rfl rfl (bn rfl rfl rfl (by (try simp only [List.length_append,List.length_cons,List.length_nil]); omega) (o_assignN rfl rfl (⟨(i.1 + 1,cat k.2 (raw [41])),(.cons rfl (.cons rfl (.cons rfl (.nil _)))),(fun w2 hw2 => hw2),⟨by show i.1 + 1 ≤ _; omega,by rw [hkt,hit, ← fh]; simp only [i6,bZ]⟩,by omega⟩)))))))))))))))))
     · skip
       have hie : i.1 = s.rows.length := by omega
       rw [hie] at hit
       exact aS (au (au (aG (ag (⟨_,(.cons rfl (.cons rfl (.nil _))),fun _ h => h,by rw [iP (by omega),st_5 q8,hit]; simp only [hJ,List.append_assoc]⟩)))))
   · skip
     exact am (ag (⟨_,(.cons rfl (.cons rfl (.nil _))),fun _ h => h,by exact iQ q8 (by omega)⟩))
 subst hj
 refine br (ι := Txt) (fun j11 => [(1,.pointer (some ⟨b1,0,none⟩)),(4,.pointer (some ⟨b4,0,none⟩))]) (fun j11 => [box b4 114 (txC (j11)),box b1 37 (bk s y)]) (fun j11 => j11 = Wt s 6) ?_ (fun j11 hj => ?_)
 · skip
   refine ab (aa (aj dK rfl rfl (ak bz N1 rfl rfl rfl (ax rfl rfl rfl (triL_nilN (ar rfl (fun q11 => ?_) (fun q11 => ?_)))))))
   · skip
     rw [gr (s := s) (n := 5) (by omega)]
     rw [st_6 q11] at hb
     simp only [bD,bC,List.length_append,List.length_cons,List.length_nil] at hb
     exact bj (_) [(0,true),(1,true),(2,true),(3,true),(5,true),(6,true),(4,false),(7,false),(8,false)] [7,8] (by kernel_rfl) (by kernel_rfl) (fun _ h => h) (ai rfl (aC bP bB .z rfl rfl (vs := txC ((([],0) : Txt))) rfl rfl (ae ⟨rfl,ai rfl (aj cl rfl rfl (ae ⟨rfl,ai rfl (ak bd N1 rfl rfl rfl (ae ⟨rfl,ai rfl (cD rfl rfl rfl (by (try simp only [List.length_cons,List.length_nil]); omega) (ae ⟨rfl,ai rfl (aj dx rfl rfl (ae ⟨rfl,ai rfl (aC aW aV (.s .z) rfl rfl (vs := bA s.wh y.W) rfl rfl (ae ⟨rfl,(aZ rfl (av (first := []) (cap := []) rfl rfl rfl Tryz.call63 (fun w1 h1 => eU ((([],0) : Txt)) ([100,101,108,101,116,101,32,102,114,111,109,32] ++ s.t) w1 (by simp only [bD,bC,List.length_append,List.length_cons,List.length_nil]; omega)) (ae ⟨rfl,fun _ _ h => Sat.dropS 0 h,(bu [7,8] [_,_] rfl rfl (av (first := []) (cap := []) rfl rfl rfl Tryz.call66 (fun w1 h1 => ry (cat (([],0) : Txt) (raw ([100,101,108,101,116,101,32,102,114,111,109,32] ++ s.t))) s.wh y.W w1 (ExC.chg h1.chg _ _ (ExK.c _ _ hW)) (sj hpt q11) hok.wh (hL.chg h1.chg) (by simp only [bD,bC,List.length_append,List.length_cons,List.length_nil]; omega)) (bg (us := txC _) (cs := txC (_)) (z := 2) rfl rfl rfl bB .z rfl rfl rfl (ae ⟨rfl,(ag (⟨_,(.cons rfl (.cons rfl (.nil _))),fun _ h => h,by rw [iP (by omega),st_6 q11]; show _ = _; simp only [hJ]⟩))⟩))))⟩)))⟩))⟩))⟩))⟩))⟩))⟩)))
   · skip
     exact am (ag (⟨_,(.cons rfl (.cons rfl (.nil _))),fun _ h => h,by exact iQ q11 (by omega)⟩))
 subst hj
 refine br (ι := Txt) (fun j12 => [(1,.pointer (some ⟨b1,0,none⟩)),(4,.pointer (some ⟨b4,0,none⟩))]) (fun j12 => [box b4 114 (txC (j12)),box b1 37 (bk s y)]) (fun j12 => j12 = Wt s 7) ?_ (fun j12 hj => ?_)
 · skip
   refine ab (aa (aj dK rfl rfl (ak bz N1 rfl rfl rfl (ax rfl rfl rfl (triL_nilN (ar rfl (fun q12 => ?_) (fun q12 => ?_)))))))
   · skip
     refine ab ?_
     rw [gr (s := s) (n := 6) (by omega)]
     rw [st_7 q12] at hb
     simp only [bD,bC,List.length_append,List.length_cons,List.length_nil] at hb
     refine aa (aC bP bB .z rfl rfl (vs := txC ((([],0) : Txt))) rfl rfl (aj cl rfl rfl (ak bd N1 rfl rfl rfl (cD rfl rfl rfl (by (try simp only [List.length_cons,List.length_nil]); omega) (cD rfl rfl rfl (by (try simp only [List.length_append,List.length_cons,List.length_nil]); omega) (av (first := []) (cap := []) rfl rfl rfl Tryz.call63 (fun w1 h1 => eU ((([],0) : Txt)) (([117,112,100,97,116,101,32] ++ s.t) ++ [32,115,101,116,32]) w1 (by simp only [bD,bC,List.length_append,List.length_cons,List.length_nil]; omega)) (bg (us := txC _) (cs := txC (_)) (z := 2) rfl rfl rfl bB .z rfl rfl rfl (triL_nilN (ab (ab (tri_slo [(1,_),(4,_)] rfl (aa (o_assignN rfl rfl (aw (bf (ι := Nat × Txt) (F := fun i => [(1,.pointer (some ⟨b1,0,none⟩)),(4,.pointer (some ⟨b4,0,none⟩)),(10,.int .i64 (i.1 : Int))]) (HH := fun i => [box b4 114 (txC (i.2)),box b1 37 (bk s y)]) (Pu := fun i => i.1 ≤ s.sets.length ∧ i.2 = cat (cat (([],0) : Txt) (raw (([117,112,100,97,116,101,32] ++ s.t) ++ [32,115,101,116,32]))) (cr (fun i => iZ (s.sets.getD i SetX.zero)) i.1)) (μ := fun i => s.sets.length - i.1) ((0,_)) (.cons rfl (.cons rfl (.cons rfl (.nil _)))) (fun _ h => h) (⟨Nat.zero_le _,(dE _).symm⟩) (fun i hi => ?_))))))))))))))))
     obtain ⟨hi,hit⟩ := hi
     have hil2 := congrArg (fun T : Txt => T.1.length) hit
     simp only [bD,bC,List.length_append,List.length_cons,List.length_nil] at hil2
     refine ab (ab (aa (ah rfl rfl (aj cC rfl rfl (ak dz N1 rfl rfl rfl (aN Tryz.underlying25 rfl rfl (bK rfl rfl rfl (triL_nilN (ar rfl (fun q13 => ?_) (fun q13 => ?_))))))))))
     · skip
       have hil : i.1 < s.sets.length := by omega
       refine am (ag (ab (aw (tri_slo [(1,_),(4,_),(10,_)] rfl ?_))))
       obtain ⟨ye,hci,hye⟩ := lb hS i.1 hil
       have hc : (cr (fun i => iZ (s.sets.getD i SetX.zero)) i.1).1.length + ((cm i.1).length + (iZ (s.sets.getD i.1 SetX.zero)).1.length) ≤ (cr (fun i => iZ (s.sets.getD i SetX.zero)) s.sets.length).1.length := kd (fun i => iZ (s.sets.getD i SetX.zero)) hil
       have hge := congrArg (fun T : Txt => T.1.length) (show iZ (s.sets.getD i.1 SetX.zero) = _ from sr _)
       simp only [bD,bC,List.length_append,List.length_cons,List.length_nil] at hge
       refine bj (_) [(0,true),(1,true),(3,true),(4,true),(5,true),(6,true),(7,true),(8,true),(9,true),(11,true),(12,true),(13,true),(14,true),(15,true),(16,true),(2,false),(10,false),(17,false),(18,false)] [17,18] (by kernel_rfl) (by kernel_rfl) (fun _ h => h) (ai rfl (aC bP bB .z rfl rfl (vs := txC (i.2)) rfl rfl (ae ⟨rfl,ai rfl (ah rfl rfl (ae ⟨rfl,ai rfl (aj cC rfl rfl (ae ⟨rfl,ai rfl (ak dz N1 rfl rfl rfl (ae ⟨rfl,ai rfl (ah rfl rfl (ae ⟨rfl,ai rfl (aL Tryz.underlying25 kl rfl rfl rfl (hS.rd0 _ _ rfl rfl) (by (try simp only [List.length_append,List.length_cons,List.length_nil]); omega) (by (try simp only [List.length_append,List.length_cons,List.length_nil]); omega) hS.len (by decide) (ae ⟨rfl,ai rfl (aJ jo rfl rfl (hS.rd0 _ _ rfl rfl) (aD hci (j := 0) rfl) (ae ⟨rfl,ai rfl (aH bd rfl rfl (hS.rd0 _ _ rfl rfl) (aD hci (j := 0) rfl) (ae ⟨rfl,ai rfl (cD rfl rfl rfl (by (try simp only [List.length_cons,List.length_nil]); omega) (ae ⟨rfl,ai rfl (aj cC rfl rfl (ae ⟨rfl,ai rfl (ak dz N1 rfl rfl rfl (ae ⟨rfl,ai rfl (ah rfl rfl (ae ⟨rfl,ai rfl (aL Tryz.underlying25 kl rfl rfl rfl (hS.rd0 _ _ rfl rfl) (by (try simp only [List.length_append,List.length_cons,List.length_nil]); omega) (by (try simp only [List.length_append,List.length_cons,List.length_nil]); omega) hS.len (by decide) (ae ⟨rfl,ai rfl (aJ lr rfl rfl (hS.rd0 _ _ rfl rfl) (aD hci (j := 0) rfl) (ae ⟨rfl,ai rfl (bo aW aV rfl rfl (hS.rd0 _ _ rfl rfl) (vs := bA (s.sets.getD i.1 SetX.zero).e ye) (dw (p := [_]) (cs := bA (s.sets.getD i.1 SetX.zero).e ye) (r := []) hci) rfl (by decide) (ae ⟨rfl,(aZ rfl (av (first := []) (cap := []) rfl rfl rfl Tryz.call64 (fun w1 h1 => km (i.2) i.1 w1 (by simp only [bD,bC]; omega)) (ae ⟨rfl,fun _ _ h => Sat.dropS 0 h,(aZ rfl (av (first := []) (cap := []) rfl rfl rfl Tryz.call63 (fun w1 h1 => eU (cat i.2 (raw (cm i.1))) ((s.sets.getD i.1 SetX.zero).n ++ [32,61,32]) w1 (by simp only [bD,bC,List.length_append,List.length_cons,List.length_nil]; omega)) (ae ⟨rfl,fun _ _ h => Sat.dropS 0 h,(bu [17,18] [_,_] rfl rfl (av (first := []) (cap := []) rfl rfl rfl Tryz.call65 (fun w1 h1 => pU (cat (cat i.2 (raw (cm i.1))) (raw ((s.sets.getD i.1 SetX.zero).n ++ [32,61,32]))) (s.sets.getD i.1 SetX.zero).e ye w1 (ExC.chg h1.chg _ _ (ExK.c _ _ hye)) (sm hpt q12 hil) (hok.sets i.1 hil) (hL.chg h1.chg) (by simp only [bD,bC,List.length_append,List.length_cons,List.length_nil]; omega)) ?_))⟩)))⟩)))⟩))⟩))⟩))⟩))⟩))⟩))⟩))⟩))⟩))⟩))⟩))⟩))⟩))⟩))⟩))); exact bg (us := txC _) (cs := txC (_)) (z := 2) rfl rfl rfl bB .z rfl rfl rfl (ae ⟨rfl,(ao (ag (tri_slo [(1,_),(4,_),(10,_)] rfl (aa (ah rfl rfl (bn rfl rfl rfl (by (try simp only [List.length_append,List.length_cons,List.length_nil]); omega) (o_assignN rfl rfl (⟨(i.1 + 1,cat (cat (cat i.2 (raw (cm i.1))) (raw ((s.sets.getD i.1 SetX.zero).n ++ [32,61,32]))) ((s.sets.getD i.1 SetX.zero).e.txt 1)),(.cons rfl (.cons rfl (.cons rfl (.nil _)))),(fun w2 hw2 => hw2),⟨by show i.1 + 1 ≤ _; omega,by rw [hit, ← fh]; simp only [iZ,bZ]⟩,by omega⟩))))))))⟩)
     · skip
       have hie : i.1 = s.sets.length := by omega
       rw [hie] at hit
       exact aS (au (au (aG (ag (tri_slo [(1,_),(4,_)] rfl (aa (aC bP bB .z rfl rfl (vs := txC (i.2)) rfl rfl (aj dx rfl rfl (aC aW aV (.s .z) rfl rfl (vs := bA s.wh y.W) rfl rfl (av (first := []) (cap := []) rfl rfl rfl Tryz.call66 (fun w1 h1 => ry (i.2) s.wh y.W w1 (ExC.chg h1.chg _ _ (ExK.c _ _ hW)) (sk hpt q12) hok.wh (hL.chg h1.chg) (by rw [hit]; simp only [bD,bC,List.length_append,List.length_cons,List.length_nil]; omega)) (bg (us := txC _) (cs := txC (_)) (z := 2) rfl rfl rfl bB .z rfl rfl rfl (triL_nilN (⟨_,(.cons rfl (.cons rfl (.nil _))),fun _ h => h,by rw [iP (by omega),st_7 q12,hit]; simp only [hJ,bZ,List.append_assoc]⟩)))))))))))))
   · skip
     exact am (ag (⟨_,(.cons rfl (.cons rfl (.nil _))),fun _ h => h,by exact iQ q12 (by omega)⟩))
 subst hj
 refine br (ι := Txt) (fun j14 => [(1,.pointer (some ⟨b1,0,none⟩)),(4,.pointer (some ⟨b4,0,none⟩))]) (fun j14 => [box b4 114 (txC (j14)),box b1 37 (bk s y)]) (fun j14 => j14 = Wt s 8) ?_ (fun j14 hj => ?_)
 · skip
   refine ab (aa (aj dK rfl rfl (ak bz N1 rfl rfl rfl (ax rfl rfl rfl (triL_nilN (ar rfl (fun q14 => ?_) (fun q14 => ?_)))))))
   · skip
     rw [gr (s := s) (n := 7) (by omega)]
     rw [st_8 q14] at hb
     exact aa (aj fv rfl rfl (aC jS jL (.s .z) rfl rfl (vs := cI s.q y.q) rfl rfl (av (first := []) (cap := []) rfl rfl rfl Tryz.call67 (fun w1 h1 => askD s.q y.q bl w1 (hA.q.stab (fun k hk => h1.chg.block k (hbl k hk) (by simp))) hok.q hbd.q (hL.chg h1.chg) (so hpt q14) hb) (bg (us := txC _) (cs := txC (_)) (z := 2) rfl rfl rfl bB .z rfl rfl rfl (triL_nilN (⟨_,(.cons rfl (.cons rfl (.nil _))),fun _ h => h,by rw [iP (by omega),st_8 q14]⟩))))))
   · skip
     exact am (ag (⟨_,(.cons rfl (.cons rfl (.nil _))),fun _ h => h,by exact iQ q14 (by omega)⟩))
 subst hj
 refine br (ι := Txt) (fun j15 => [(1,.pointer (some ⟨b1,0,none⟩)),(4,.pointer (some ⟨b4,0,none⟩))]) (fun j15 => [box b4 114 (txC (j15)),box b1 37 (bk s y)]) (fun j15 => j15 = dk s) ?_ (fun j15 hj => ?_)
 · skip
   refine ab (aa (aj dK rfl rfl (ak bz N1 rfl rfl rfl (gd rfl rfl rfl (triL_nilN (ar rfl (fun q15 => ?_) (fun q15 => ?_)))))))
   · skip
     refine ab (aa (ee (parts := [_,_,_]) (dm begL) Tryz.underlying23 zs9 rfl rfl rfl rfl (by decide) (by decide) (fun b215 => o_assignN rfl rfl (tri_slo [(11,_),(1,_),(4,_)] rfl ?_))))
     rw [gr (s := s) (n := 8) (by omega)]
     have hbg := beg_at (s := s) (by omega)
     have hbl2 := congrArg (fun T : Txt => T.1.length) hbg
     simp only [raw] at hbl2
     exact bj (_) [(0,true),(1,true),(2,true),(3,true),(4,true),(5,true),(6,true),(7,false),(8,false)] [7,8] (by kernel_rfl) (by kernel_rfl) (fun _ h => h) (ai rfl (aC bP bB (.s .z) rfl rfl (vs := txC ((([],0) : Txt))) rfl rfl (ae ⟨rfl,ai rfl (ah rfl rfl (ae ⟨rfl,ai rfl (aj dK rfl rfl (ae ⟨rfl,ai rfl (ak bz N2 rfl rfl rfl (ae ⟨rfl,ai rfl (jW rfl rfl rfl (by (try simp only [List.length_append,List.length_cons,List.length_nil]); omega) (ae ⟨rfl,ai rfl (aL Tryz.underlying23 sz9 rfl rfl rfl (RdS.row .z) (by (try simp only [List.length_append,List.length_cons,List.length_nil]); omega) (by (try simp only [List.length_append,List.length_cons,List.length_nil]); omega) rfl (by decide) (ae ⟨rfl,ai rfl (aH bd rfl rfl (RdS.row .z) (ix begL (s.k - 9).toNat _ (by simp) (by show (s.k - 9).toNat < 3; omega)) (ae ⟨rfl,(bu [7,8] [_,_] rfl rfl (av (first := []) (cap := []) rfl rfl rfl Tryz.call63 (fun w1 h1 => eU ((([],0) : Txt)) (begL.getD (s.k - 9).toNat []) w1 (by simp only [bD,bC,List.length_nil]; omega)) (bg (us := txC _) (cs := txC (_)) (z := 2) rfl rfl rfl bB (.s .z) rfl rfl rfl (ae ⟨rfl,(ag (⟨_,(.cons rfl (.cons rfl (.nil _))),(fun w2 hw2 => hw2.tail),by rw [hJ]; exact beg_at (by omega)⟩))⟩))))⟩))⟩))⟩))⟩))⟩))⟩))⟩)))
   · skip
     exact am (ag (⟨_,(.cons rfl (.cons rfl (.nil _))),fun _ h => h,by exact iP (by omega)⟩))
 have h15 := hj
 refine ab (bj (_) [(0,true),(1,true),(2,true),(3,true),(4,true),(5,false)] [5] (by kernel_rfl) (by kernel_rfl) (fun _ h => h) (ai rfl (aj lQ rfl rfl (ae ⟨rfl,ai rfl (ak bd N0 rfl rfl rfl (ae ⟨rfl,ai rfl (aj sL rfl rfl (ae ⟨rfl,ai rfl (ak bz N0 rfl rfl rfl (ae ⟨rfl,ai rfl (aB rfl rfl (ae ⟨rfl,(bu [5] [_] rfl rfl (aB rfl rfl (ae ⟨rfl,(ag (ap (dA rfl rfl rfl ?_)))⟩)))⟩))⟩))⟩))⟩))⟩)))); exact fun w1 hw1 => ⟨by rw [h15],hw1.chg⟩
theorem printStD (s : StmtX) (y : Lay) (bl : List Nat) (w : World) (hA : SAt bl w s y) (hbl : ∀ k ∈ bl,k < w.heap.size) (hok : SOk s) (hbd : SBd s) (hL : LV w) (hT : eh s = true → (dk s).1.length ≤ 70368744177664) : Calls Tryz.prog 9 #[.agg (bk s y).toArray] w (bX w (.tuple #[.string (B (prS s).1),.int .i64 (prS s).2])) := by
 refine ay (args := [.agg (bk s y).toArray]) (lent := []) (H := []) Tryz.func9 rfl Tryz.ntmps9 rfl (Sat.start _ _ _ _) ((show Tri _ [(0,_)] _ _ _ from ?_))
 unfold prS
 refine ab (aa (bY _ rfl rfl rfl (fun b1 => aB rfl rfl (o_assignN rfl rfl (ab (ab (aa (aC ej eH .z rfl rfl (vs := bk s y) rfl rfl (av (first := []) (cap := []) rfl rfl rfl Tryz.call11 (fun w1 h1 => mayStD s y bl w1 (hA.stab (fun k hk => h1.chg.block k (hbl k hk) (by simp))) (fun k hk => Nat.lt_of_lt_of_le (hbl k hk) h1.chg.size) hok hbd) (cu rfl rfl (triL_nilN (aE rfl (fun q0 => ?_) (fun q0 => ?_)))))))))))))
 · skip
   have q0 := ci q0
   refine ab (az [] (.nil _) (aa (aB rfl rfl (o_assignN rfl rfl (ap (an (dA rfl rfl rfl ?_))))))); exact fun w1 hw1 => ⟨by rw [if_neg (dP q0)],hw1.chg⟩
 · skip
   have q0 := bU q0
   refine am (ag (ab (tri_slo [(1,_)] rfl (aa (aC ej eH .z rfl rfl (vs := bk s y) rfl rfl (av (first := []) (cap := []) rfl rfl rfl Tryz.call29 (fun w1 h1 => writtenD s y bl w1 (hA.stab (fun k hk => h1.chg.block k (hbl k hk) (by simp))) (fun k hk => Nat.lt_of_lt_of_le (hbl k hk) h1.chg.size) hok hbd (hL.chg h1.chg) q0 (hT q0)) (ah rfl rfl (aX rfl rfl rfl (aX rfl rfl rfl (aB rfl rfl (o_assignN rfl rfl (ab (ab (tri_slo [(5,_),(4,_)] rfl (aa (ah rfl rfl (cR rfl rfl rfl (triL_nilN (ar rfl (fun q1 => ?_) (fun q1 => ?_))))))))))))))))))))
   · skip
     refine ab (az [] (.nil _) (aa (aB rfl rfl (o_assignN rfl rfl (ap (an (dA rfl rfl rfl ?_))))))); exact fun w1 hw1 => ⟨by rw [if_pos q0,gH,if_pos q1],hw1.chg⟩
   · skip
     refine am (ag (ab (ab (aa (ah rfl rfl (dJ Tryz.underlying9 rfl rfl (cR rfl rfl rfl (triL_nilN (ar rfl (fun q2 => ?_) (fun q2 => ?_))))))))))
     · skip
       refine ab (az [] (.nil _) (aa (aB rfl rfl (o_assignN rfl rfl (ap (an (dA rfl rfl rfl ?_))))))); exact fun w1 hw1 => ⟨by rw [if_pos q0,gH,if_neg q1,if_pos (by omega)],hw1.chg⟩
     · skip
       refine am (ag (ab (tri_slo [(4,_)] rfl (aa (ah rfl rfl (aB rfl rfl (o_assignN rfl rfl (ap (dA rfl rfl rfl ?_))))))))); exact fun w1 hw1 => ⟨by rw [if_pos q0,gH,if_neg q1,if_neg (by omega)],hw1.chg⟩
end Go.Proofs.YtjbpkcbefmpfgaaGreatDoor
namespace Go.Proofs.YtjbpkcbefmpfgaaGreatDoor
open Go.WK Go.RowKit 
theorem flatF : gW Tryz.prog 55 = some fKs := by kernel_rfl
theorem pV (x0_0 : Int) (x0_1 : Int) (x0_2 : Int) (x0_3 : ByteArray) (x0_4 : ByteArray) (x0_5 : ByteArray) (x0_6 : Int) (A0_7 : Option Addr) (n0_7 c0_7 : Nat) (x1 : ByteArray) : Tryz.prog.built 53 [(0,.agg (([.int .i64 x0_0,.int .i64 x0_1,.int .i64 x0_2,.string x0_3,.string x0_4,.string x0_5,.int .i64 x0_6,.slice A0_7 n0_7 c0_7] : List Value)).toArray),(1,.string x1)] = some ([.int .i64 x0_0,.int .i64 x0_1,.int .i64 x0_2,.string x0_3,.string x0_4,.string x0_5,.int .i64 x0_6,.slice A0_7 n0_7 c0_7,.string x1] : List Value).toArray := by kernel_rfl
theorem pW (A2 : Option Addr) (n2 c2 : Nat) (A3 : Option Addr) (n3 c3 : Nat) : Tryz.prog.built 35 [(2,.slice A2 n2 c2),(3,.slice A3 n3 c3)] = some ([.bool false,.bool false,.slice A2 n2 c2,.slice A3 n3 c3,.int .i64 0,.int .i64 0,.int .i64 0,.string .empty,.string .empty,.string .empty,.int .i64 0,.slice none 0 0,.slice none 0 0,.bool false,.int .i64 0] : List Value).toArray := by kernel_rfl
theorem pX (x0 : Int) (x9_0 : Bool) (x9_1 : Bool) (A9_2 : Option Addr) (n9_2 c9_2 : Nat) (A9_3 : Option Addr) (n9_3 c9_3 : Nat) (x9_4 : Int) (x9_5 : Int) (x9_6 : Int) (x9_7 : ByteArray) (x9_8 : ByteArray) (x9_9 : ByteArray) (x9_10 : Int) (A9_11 : Option Addr) (n9_11 c9_11 : Nat) (A9_12 : Option Addr) (n9_12 c9_12 : Nat) (x9_13 : Bool) (x9_14 : Int) : Tryz.prog.built 37 [(0,.int .i64 x0),(9,.agg (([.bool x9_0,.bool x9_1,.slice A9_2 n9_2 c9_2,.slice A9_3 n9_3 c9_3,.int .i64 x9_4,.int .i64 x9_5,.int .i64 x9_6,.string x9_7,.string x9_8,.string x9_9,.int .i64 x9_10,.slice A9_11 n9_11 c9_11,.slice A9_12 n9_12 c9_12,.bool x9_13,.int .i64 x9_14] : List Value)).toArray)] = some ([.int .i64 x0,.string .empty,.string .empty,.slice none 0 0,.slice none 0 0,.bool false,.slice none 0 0,.slice none 0 0,.int .i64 0,.int .i64 0,.int .i64 0,.string .empty,.string .empty,.string .empty,.int .i64 0,.slice none 0 0,.bool x9_0,.bool x9_1,.slice A9_2 n9_2 c9_2,.slice A9_3 n9_3 c9_3,.int .i64 x9_4,.int .i64 x9_5,.int .i64 x9_6,.string x9_7,.string x9_8,.string x9_9,.int .i64 x9_10,.slice A9_11 n9_11 c9_11,.slice A9_12 n9_12 c9_12,.bool x9_13,.int .i64 x9_14] : List Value).toArray := by kernel_rfl
theorem nameE (s : List UInt8) (w : World)  : Calls Tryz.prog 41 #[.string (B s)] w (bX w (.agg (bA (nmX s) SL.nil).toArray)) := by
 refine ay (args := [.string (B s)]) (lent := []) (H := []) Tryz.func41 rfl Tryz.ntmps41 rfl (Sat.start _ _ _ _) ((show Tri _ [(0,_)] _ _ _ from ab (aa (aP _ rfl c7 rfl (fun b2 => triL_nilN (ab (aa (ah rfl rfl (aU (lF _ _) rfl rfl (bg (us := [.int .i64 0,.int .i64 0,.int .i64 0,.string .empty,.string .empty,.string .empty,.int .i64 0,.slice none 0 0]) (cs := bA (nmX s) SL.nil) rfl rfl rfl aV .z rfl rfl rfl (triL_nilN (ap (cw rfl aW aV N0 rfl rfl ?_))))))))))))); exact fun w1 hw1 => ⟨rfl,hw1.chg⟩
theorem awPV2 {P : Program} {n : Nat} {w w1 : World} {H : List Chunk} {b c : Nat} {e1 z1 n1 e2 z2 n2 : Nat} {x1 x2 : List Value} {m1 m2 k1 k2 : Nat} (hL : LV w) (hg : 10 ≤ w.heap.size) (h1 : Sat ⟨P,n,[],w,[]⟩ H w1) (hb : row (.slice (some ⟨b,0,none⟩) m1 k1) e1 z1 n1 x1 ∈ H) (hc : row (.slice (some ⟨c,0,none⟩) m2 k2) e2 z2 n2 x2 ∈ H) : PV w1 [] [b,c] := by
 have q1 := h1.lt hb (k := b) rfl
 have q2 := h1.lt hc (k := c) rfl
 have q3 := h1.chg.size
 refine ⟨⟨fun k hk => ⟨?_,by simp⟩,fun k hk => ⟨?_,by simp⟩⟩,hL.chg h1.chg⟩
 · simp only [List.mem_cons,List.not_mem_nil,or_false] at hk
   rcases hk with rfl | rfl
   · exact q1
   · exact q2
 · have : w.heap.size ≤ w1.heap.size := q3
   omega
theorem awPV1 {P : Program} {n : Nat} {w w1 : World} {H : List Chunk} {b : Nat} {e1 z1 n1 : Nat} {x1 : List Value} {m1 k1 : Nat} (hL : LV w) (hg : 10 ≤ w.heap.size) (h1 : Sat ⟨P,n,[],w,[]⟩ H w1) (hb : row (.slice (some ⟨b,0,none⟩) m1 k1) e1 z1 n1 x1 ∈ H) : PV w1 [] [b] := by
 have q1 := h1.lt hb (k := b) rfl
 have q3 := h1.chg.size
 refine ⟨⟨fun k hk => ⟨?_,by simp⟩,fun k hk => ⟨?_,by simp⟩⟩,hL.chg h1.chg⟩
 · simp only [List.mem_cons,List.not_mem_nil,or_false] at hk
   subst hk
   exact q1
 · have : w.heap.size ≤ w1.heap.size := q3
   omega
set_option maxRecDepth 100000 in
set_option maxHeartbeats 2000000 in
theorem awakeK  (w : World) (hE : LE w) (hX : LX w) (hL : LV w) (hg : 10 ≤ w.heap.size) : Calls Tryz.prog 12 #[] w (bX w (.bool true)) := by
 refine ay (args := []) (lent := []) (H := []) Tryz.func12 rfl Tryz.ntmps12 rfl (Sat.start _ _ _ _) ((show Tri _ [] _ _ _ from ab (aa (o_assignN rfl rfl (ab (aa (jt (J := List Nat × List Value) (val := fun j => .tuple #[.agg j.2.toArray,errS (eJ awT1)]) (D' := fun j => [stC j.1 (stR (eJ awT1)) j.2]) (Pu := fun j => j.2.length = 31 ∧ allOne j.2 = true) [] [] _ [] rfl rfl rfl rfl Tryz.call15 (by simp) (by simp) (fun w1 h1 h2 => pR awT1 w1 (by decide) (hE.chg h1.chg) aw_s1) (fun j hj => ?_))))))))
 rw [aw_1]
 refine ah rfl rfl (aX rfl rfl rfl (aX rfl rfl rfl (aP _ rfl jn rfl (fun b1 => bg (us := [.int .i64 0,.string .empty,.string .empty,.slice none 0 0,.slice none 0 0,.bool false,.slice none 0 0,.slice none 0 0,.int .i64 0,.int .i64 0,.int .i64 0,.string .empty,.string .empty,.string .empty,.int .i64 0,.slice none 0 0,.bool false,.bool false,.slice none 0 0,.slice none 0 0,.int .i64 0,.int .i64 0,.int .i64 0,.string .empty,.string .empty,.string .empty,.int .i64 0,.slice none 0 0,.slice none 0 0,.bool false,.int .i64 0]) (cs := j.2) rfl hj.1 hj.2 eH .z rfl rfl rfl (o_assignN rfl rfl (ab (tri_slo [(2,_),(1,_)] rfl ?_)))))))
 obtain ⟨blp,cs⟩ := j
 refine Tri.know (fun w2 hw2 => ((fun ⟨y,hy,_⟩ => ⟨y,hy⟩ : (∃ y,cs = bk fg y ∧ SAt blp w2 fg y) → ∃ y,cs = bk fg y) (st_at (hw2.holds _ (Nth.mem (.s .z))).1))) (fun ⟨y,hy⟩ => ?_)
 subst hy
 refine aa (av (first := []) (cap := []) rfl rfl rfl Tryz.call41 (fun w1 h1 => nameE [97] w1) (aU (nR _ _ _ _ _ _ _ _ _ _) rfl rfl (aU (jU _ _ _) rfl rfl (aU (pV _ _ _ _ _ _ _ _ _ _ _) rfl rfl (ee (parts := [_,_]) awI Tryz.underlying31 zs53 rfl rfl rfl rfl (by decide) (by decide) (fun b18 => aU (nQ _) rfl rfl (bF Tryz.underlying32 zs87 rfl rfl rfl rfl rfl (by decide) (by decide) (fun b20 => aU (pW _ _ _ _ _ _) rfl rfl (aU (pX _ _ _ _ _ _ _ _ _ _ _ _ _ _ _ _ _ _ _ _ _ _ _ _) rfl rfl (aP _ rfl jn rfl (fun b3 => bg (us := [.int .i64 0,.string .empty,.string .empty,.slice none 0 0,.slice none 0 0,.bool false,.slice none 0 0,.slice none 0 0,.int .i64 0,.int .i64 0,.int .i64 0,.string .empty,.string .empty,.string .empty,.int .i64 0,.slice none 0 0,.bool false,.bool false,.slice none 0 0,.slice none 0 0,.int .i64 0,.int .i64 0,.int .i64 0,.string .empty,.string .empty,.string .empty,.int .i64 0,.slice none 0 0,.slice none 0 0,.bool false,.int .i64 0]) (cs := bk fg (awY b18 b20)) rfl rfl rfl eH .z rfl rfl rfl (triL_nilN (ab (tri_slo [(3,_),(2,_),(1,_)] rfl (aa (aC ej eH .z rfl rfl (vs := bk fg (awY b18 b20)) rfl rfl (av (first := []) (cap := []) rfl rfl rfl Tryz.call8 (fun w1 h1 => pT fg (awY b18 b20) [b18,b20] w1 (awPV2 hL hg h1 (Nth.mem (.s (.s .z))) (Nth.mem (.s .z))) (aw_at (RdS.row (.s (.s .z)) w1 h1) (RdS.row (.s .z) w1 h1)) aw_ok aw_bd (fun _ => by rw [aw_6]; decide)) ?_)))))))))))))))))
 rw [aw_3]
 refine ah rfl rfl (aX rfl rfl rfl (aX rfl rfl rfl (aB rfl rfl (o_assignN rfl rfl (ab (tri_slo [(5,_),(4,_),(3,_),(2,_),(1,_)] rfl (aa (av (first := []) (cap := []) rfl rfl rfl Tryz.call41 (fun w1 h1 => nameE [97] w1) (bF Tryz.underlying28 zs30 rfl rfl rfl rfl rfl (by decide) (by decide) (fun b30 => aU (dy _ _ _ _) rfl rfl (av (first := []) (cap := []) rfl rfl rfl Tryz.call13 (fun w1 h1 => rs notA ⟨some ⟨b30,0,none⟩,1⟩ [b30] w1 (awPV1 hL hg h1 (Nth.mem .z)) (nota_at (RdS.row .z w1 h1)) nota_ok (by rw [aw_8]; decide) (fun _ => by rw [aw_7]; decide)) ?_)))))))))))
 rw [aw_4]
 refine ah rfl rfl (aX rfl rfl rfl (aX rfl rfl rfl (aB rfl rfl (o_assignN rfl rfl (ab (tri_slo [(7,_),(6,_),(5,_),(4,_),(3,_),(2,_),(1,_)] rfl (aa (jt (J := List Nat × List Value) (val := fun j => .tuple #[.agg j.2.toArray,errS (eJ awT2)]) (D' := fun j => [stC j.1 (stR (eJ awT2)) j.2]) (Pu := fun j => j.2.length = 31 ∧ allOne j.2 = true) [] [] _ [] rfl rfl rfl rfl Tryz.call15 (by simp) (by simp) (fun w1 h1 h2 => pR awT2 w1 (by decide) (hE.chg h1.chg) aw_s2) (fun k hk => ?_)))))))))
 rw [aw_2]
 refine ah rfl rfl (aX rfl rfl rfl (aX rfl rfl rfl (aP _ rfl jn rfl (fun b8 => bg (us := [.int .i64 0,.string .empty,.string .empty,.slice none 0 0,.slice none 0 0,.bool false,.slice none 0 0,.slice none 0 0,.int .i64 0,.int .i64 0,.int .i64 0,.string .empty,.string .empty,.string .empty,.int .i64 0,.slice none 0 0,.bool false,.bool false,.slice none 0 0,.slice none 0 0,.int .i64 0,.int .i64 0,.int .i64 0,.string .empty,.string .empty,.string .empty,.int .i64 0,.slice none 0 0,.slice none 0 0,.bool false,.int .i64 0]) (cs := k.2) rfl hk.1 hk.2 eH .z rfl rfl rfl (o_assignN rfl rfl (ab (tri_slo [(9,_),(7,_),(6,_),(5,_),(4,_),(3,_),(2,_),(1,_)] rfl (aa (ah rfl rfl (o6 ifE (.inl ⟨rfl,rfl⟩) rfl rfl (ah rfl rfl ?_)))))))))))
 refine' aA [_,_,_] [(9,_),(7,_),(6,_),(5,_),(4,_),(3,_)] (dj := 41) (dr := 44) rfl rfl (fun g1 => ?_) ⟨_,rfl,rfl,rfl,(.cons rfl (.cons rfl (.cons rfl (.cons rfl (.cons rfl (.cons rfl (.nil _)))))))⟩ rfl ?_
 rotate_left
 · skip
   exact aC ej eH (.s (.s (.s (.s (.s (.s .z)))))) rfl rfl (vs := bk fg y) rfl rfl (aC ej eH (.s (.s (.s .z))) rfl rfl (vs := bk fg (awY b18 b20)) rfl rfl (av (first := []) (cap := []) rfl rfl rfl Tryz.call16 (fun w1 h1 => sK fg fg y (awY b18 b20) blp [b18,b20] w1 (st_at' (h1.holds _ (Nth.mem (.s (.s (.s (.s (.s (.s (.s .z))))))))).1) (aw_at (RdS.row (.s (.s (.s (.s (.s .z))))) w1 h1) (RdS.row (.s (.s (.s (.s .z)))) w1 h1)) (h1.holds _ (Nth.mem (.s (.s (.s (.s (.s (.s (.s .z))))))))).2 (fun k hk => ((awPV2 hL hg h1 (Nth.mem (.s (.s (.s (.s (.s .z)))))) (Nth.mem (.s (.s (.s (.s .z)))))).pe.lt k hk).1) aw_bd) (ae (Piece.mk rfl rfl (.cons rfl (.cons rfl (.cons rfl (.cons rfl (.cons rfl (.cons rfl (.nil _))))))) (fun _ h => h)))))
 refine ah rfl rfl ?_
 refine' aA [_,_] [(9,_),(7,_),(6,_),(5,_),(3,_)] (dj := 46) (dr := 48) rfl rfl (fun g2 => ?_) ⟨_,rfl,rfl,rfl,(.cons rfl (.cons rfl (.cons rfl (.cons rfl (.cons rfl (.nil _))))))⟩ rfl ?_
 rotate_left
 · skip
   exact ah rfl rfl (bE rfl rfl rfl (ae (Piece.mk rfl rfl (.cons rfl (.cons rfl (.cons rfl (.cons rfl (.cons rfl (.nil _)))))) (fun _ h => h))))
 refine ah rfl rfl ?_
 refine' aA [_,_] [(9,_),(7,_),(6,_),(3,_)] (dj := 50) (dr := 52) rfl rfl (fun g3 => ?_) ⟨_,rfl,rfl,rfl,(.cons rfl (.cons rfl (.cons rfl (.cons rfl (.nil _)))))⟩ rfl ?_
 rotate_left
 · skip
   exact ah rfl rfl (ax rfl rfl rfl (ae (Piece.mk rfl rfl (.cons rfl (.cons rfl (.cons rfl (.cons rfl (.nil _))))) (fun _ h => h))))
 refine ah rfl rfl ?_
 refine' aA [_,_] [(9,_),(7,_),(3,_)] (dj := 54) (dr := 56) rfl rfl (fun g4 => ?_) ⟨_,rfl,rfl,rfl,(.cons rfl (.cons rfl (.cons rfl (.nil _))))⟩ rfl ?_
 rotate_left
 · skip
   exact ah rfl rfl (bE rfl rfl rfl (ae (Piece.mk rfl rfl (.cons rfl (.cons rfl (.cons rfl (.nil _)))) (fun _ h => h))))
 refine ah rfl rfl ?_
 refine' aA [_,_] [(9,_),(3,_)] (dj := 58) (dr := 60) rfl rfl (fun g5 => ?_) ⟨_,rfl,rfl,rfl,(.cons rfl (.cons rfl (.nil _)))⟩ rfl ?_
 rotate_left
 · skip
   exact ah rfl rfl (ax rfl rfl rfl (ae (Piece.mk rfl rfl (.cons rfl (.cons rfl (.nil _))) (fun _ h => h))))
 refine ah rfl rfl ?_
 refine' aA [_,_,_,_] [(3,_)] (dj := 62) (dr := 66) rfl rfl (fun g6 => ?_) ⟨_,rfl,rfl,rfl,(.cons rfl (.nil _))⟩ rfl ?_
 rotate_left
 · skip
   exact ah rfl rfl (av (first := []) (cap := []) rfl rfl rfl Tryz.call18 (fun w1 h1 => faultK (.error (190,13)) w1 (hX.chg h1.chg)) (aU (hU _ _) rfl rfl (o_eqlAT (ks := fKs) (vs := [.int .i64 190,.int .i64 13]) flatF rfl rfl rfl rfl rfl (ae (Piece.mk rfl rfl (.cons rfl (.nil _)) (fun _ h => h))))))
 refine ah rfl rfl ?_
 refine' aA [_,_] [] (dj := 68) (dr := 70) rfl rfl (fun g7 => ?_) ⟨_,rfl,rfl,rfl,(.nil _)⟩ rfl ?_
 rotate_left
 · skip
   exact aC ej eH (.s (.s (.s .z))) rfl rfl (vs := bk fg (awY b18 b20)) rfl rfl (av (first := []) (cap := []) rfl rfl rfl Tryz.call10 (fun w1 h1 => ru fg (awY b18 b20) [b18,b20] w1 (aw_at (RdS.row (.s (.s (.s (.s (.s .z))))) w1 h1) (RdS.row (.s (.s (.s (.s .z)))) w1 h1)) (fun k hk => ((awPV2 hL hg h1 (Nth.mem (.s (.s (.s (.s (.s .z)))))) (Nth.mem (.s (.s (.s (.s .z)))))).pe.lt k hk).1) aw_ok aw_bd) (ae (Piece.mk rfl rfl (.nil _) (fun _ h => h))))
 refine o_assignN rfl rfl (ap (aT rfl rfl ?_)); exact fun w1 hw1 => ⟨congrArg (fun b => Ending.returned (.bool b)) (by rw [decide_eq_true (rfl : fg = fg),aw_5]; rfl),hw1.chg⟩
end Go.Proofs.YtjbpkcbefmpfgaaGreatDoor
namespace Go.Proofs.YtjbpkcbefmpfgaaGreatDoor
open Go.WK Go.RowKit 
theorem pY (s : StmtX) (y : Lay) (bl : List Nat) (w : World) (hE : LE w) (hX : LX w) (hL : LV w) (hg : 10 ≤ w.heap.size) (hV : PV w [] bl) (hA : SAt bl w s y) (hok : SOk s) (hbd : SBd s) (hT : eh s = true → (dk s).1.length ≤ 70368744177664) : Calls Tryz.prog 3 #[.agg (bk s y).toArray] w (bX w (.bool true)) := by
 refine ay (args := [.agg (bk s y).toArray]) (lent := []) (H := []) Tryz.func3 rfl Tryz.ntmps3 rfl (Sat.start _ _ _ _) ((show Tri _ [(0,_)] _ _ _ from ?_))
 have hbl : ∀ k ∈ bl,k < w.heap.size := fun k hk => (hV.pe.lt k hk).1
 refine ab (aa (bY _ rfl rfl rfl (fun b1 => o_assignN rfl rfl (ab (aa (aC ej eH .z rfl rfl (vs := bk s y) rfl rfl (av (first := []) (cap := []) rfl rfl rfl Tryz.call8 (fun w1 h1 => pT s y bl w1 (hV.sub ⟨h1.chg,fun k _ h => h⟩) (hA.stab (fun k hk => h1.chg.block k (hbl k hk) (by simp))) hok hbd hT) (ah rfl rfl (aX rfl rfl rfl (aX rfl rfl rfl (aB rfl rfl (o_assignN rfl rfl (ab (tri_slo [(4,_),(3,_),(1,_)] rfl (aa (aC ej eH .z rfl rfl (vs := bk s y) rfl rfl (av (first := []) (cap := []) rfl rfl rfl Tryz.call9 (fun w1 h1 => printStD s y bl w1 (hA.stab (fun k hk => h1.chg.block k (hbl k hk) (by simp))) (fun k hk => Nat.lt_of_lt_of_le (hbl k hk) h1.chg.size) hok hbd (hV.lv.chg h1.chg) hT) (ah rfl rfl (aX rfl rfl rfl (aX rfl rfl rfl (aB rfl rfl (o_assignN rfl rfl (ab (tri_slo [(6,_),(5,_),(4,_),(3,_),(1,_)] rfl (bj (_) [(0,true),(2,true),(1,false),(3,false),(4,true),(5,true),(6,true),(7,true),(8,true),(9,true),(10,true),(11,true),(12,true),(13,false),(14,false),(15,false),(16,false),(17,false),(18,false)] [13,14,15,16,17,18] (by kernel_rfl) (by kernel_rfl) (fun _ h => h) (ai rfl (aC ej eH .z rfl rfl (vs := bk s y) rfl rfl (ae ⟨rfl,ai rfl (aC ej eH .z rfl rfl (vs := bk s y) rfl rfl (ae ⟨rfl,(aZ rfl (av (first := []) (cap := []) rfl rfl rfl Tryz.call10 (fun w1 h1 => ru s y bl w1 (hA.stab (fun k hk => h1.chg.block k (hbl k hk) (by simp))) (fun k hk => Nat.lt_of_lt_of_le (hbl k hk) h1.chg.size) hok hbd) (ae ⟨rfl,fun _ _ h => Sat.dropS 0 h,(aZ rfl (av (first := []) (cap := []) rfl rfl rfl Tryz.call11 (fun w1 h1 => mayStD s y bl w1 (hA.stab (fun k hk => h1.chg.block k (hbl k hk) (by simp))) (fun k hk => Nat.lt_of_lt_of_le (hbl k hk) h1.chg.size) hok hbd) (ae ⟨rfl,fun _ _ h => Sat.dropS 0 h,(ai rfl (lR rfl Tryz.underlying4 rfl rfl ?_))⟩)))⟩)))⟩))⟩))))))))))))))))))))))))))))
 rw [show (eh s == eh s) = true from beq_self_eq_true _]
 refine ae ⟨rfl,ai rfl (ah rfl rfl (ae ⟨rfl,ai rfl (ah rfl rfl (ae ⟨rfl,ai rfl (ah rfl rfl (ae ⟨rfl,ai rfl (bE rfl rfl rfl ?_)⟩))⟩))⟩))⟩
 rw [decide_eq_true (rfl : (prS s).1 = (prS s).1)]
 refine ae ⟨rfl,ai rfl (go rfl rfl rfl rfl (ae ⟨rfl,ai rfl (ah rfl rfl (ae ⟨rfl,ai rfl (ah rfl rfl (ae ⟨rfl,ai rfl (ah rfl rfl (ae ⟨rfl,(bu [13,14,15,16,17,18] [_,_,_,_,_,_] rfl rfl (ax rfl rfl rfl ?_))⟩))⟩))⟩))⟩))⟩
 rw [decide_eq_true (rfl : (prS s).2 = (prS s).2)]
 refine go rfl rfl rfl rfl (ah rfl rfl (av (first := []) (cap := []) rfl rfl rfl Tryz.call12 (fun w1 h1 => awakeK w1 (hE.chg h1.chg) (hX.chg h1.chg) (hL.chg h1.chg) (by have : w.heap.size ≤ w1.heap.size := h1.chg.size; omega)) (go rfl rfl rfl rfl (aB rfl rfl (ae ⟨rfl,(ag (ap (aT rfl rfl ?_)))⟩))))); exact fun w1 hw1 => ⟨congrArg (fun b => Ending.returned (.bool b)) (by rfl),hw1.chg⟩
end Go.Proofs.YtjbpkcbefmpfgaaGreatDoor
namespace Go.Proofs.YtjbpkcbefmpfgaaGreatDoor
open Go.WK Go.RowKit
theorem tySyn : (Tryz.prog.globals[6]?).map (·.type) = some 46 := by kernel_rfl
theorem tyRng : (Tryz.prog.globals[7]?).map (·.type) = some 46 := by kernel_rfl
theorem sM : Tryz.prog.cellsOf 254 = 1 := by kernel_rfl
theorem pZ : Tryz.prog.cellsOf 9 = 1 := by kernel_rfl
theorem star : "*" ++ "errors.errorString" = "*errors.errorString" := by decide
theorem rowEs (u : TypeId) (h : Tryz.prog.typeName? 3 u = some "*errors.errorString") : u = 252 :=
 typeName_ptr_named (nm := "errors.errorString") (by rw [star]; kernel_rfl) (by kernel_rfl) (by decide) u (by rw [star]; exact h)
theorem synIs {W : World} {rest : List (String × DataW Unit)} (h : laidMet Tryz.prog (("strconv.ErrSyntax", Rows.laid_strconv_ErrSyntax) :: rest) W) : ∃ tp p, W.var? Tryz.prog "strconv.ErrSyntax" = some #[.iface tp p] := by
 obtain ⟨a,s,hv,_⟩ := laid_sentinel h gSyn tySyn Tryz.underlying46 rowEs Tryz.underlying252 Tryz.underlying254 rfl rfl Tryz.underlying9 sM pZ
 exact ⟨_,_,hv⟩
theorem rngIs {W : World} {rest : List (String × DataW Unit)} (h : laidMet Tryz.prog (("strconv.ErrRange", Rows.laid_strconv_ErrRange) :: rest) W) : ∃ tp p, W.var? Tryz.prog "strconv.ErrRange" = some #[.iface tp p] := by
 obtain ⟨a,s,hv,_⟩ := laid_sentinel h gRng tyRng Tryz.underlying46 rowEs Tryz.underlying252 Tryz.underlying254 rfl rfl Tryz.underlying9 sM pZ
 exact ⟨_,_,hv⟩
theorem tyTab : (Tryz.prog.globals[2]?).map (·.type) = some 231 := by kernel_rfl
theorem cellsU : Tryz.prog.cellsOf 200 = 1 := by kernel_rfl
theorem cellsTab : Tryz.prog.cellsOf 231 = 20 := by kernel_rfl
theorem rtIs : (Tryz.prog.cutTypes.find? (·.1 == "internal/reflectlite.rtype")).map (·.2) = some 180 := by kernel_rfl
theorem oneRow : ((List.range 286).filter fun t => Tryz.prog.rowNamed t [101,114,114,111,114]) = [46] := by kernel_rfl
theorem tsize : Tryz.prog.types.size = 286 := by kernel_rfl
abbrev plainL : List (String × DataW Unit) := [("math/bits.deBruijn32tab", Rows.laid_math_bits_deBruijn32tab), ("math/bits.deBruijn64tab", Rows.laid_math_bits_deBruijn64tab), ("internal/strconv.uint64pow10", Rows.laid_internal_strconv_uint64pow10), ("unicode/utf8.acceptRanges", Rows.laid_unicode_utf8_acceptRanges), ("strconv.ErrRange", Rows.laid_strconv_ErrRange), ("strconv.ErrSyntax", Rows.laid_strconv_ErrSyntax), ("unicode.CaseRanges", Rows.laid_unicode_CaseRanges), ("unicode/utf8.first", Rows.laid_unicode_utf8_first)]
abbrev p6 : List (String × DataW Unit) := Rows.parsePrintsUptoRow.laid
theorem sN : (p6.filter fun x => x.2.handleName?.isSome) = [("errors.errorType", Rows.laid_errors_errorType)] := by kernel_rfl
theorem restL : (p6.filter fun x => x.2.handleName?.isNone) = plainL := by kernel_rfl
theorem errTyIs {W : World} (h : handlesMet Tryz.prog [("errors.errorType", Rows.laid_errors_errorType)] W) : W.cell? ⟨0, 0, none⟩ = some (.iface 180 (.agg #[.pointer (some ⟨10, 46, none⟩)])) := by
 obtain ⟨name,u,ty,e1,e2,e3,e4,e5⟩ := h _ (List.mem_singleton.2 rfl)
 have en : name = [101,114,114,111,114] := (Option.some.inj e1).symm
 subst en
 obtain rfl := Option.some.inj (rtIs.symm.trans e2)
 have hm : ty ∈ (List.range 286).filter fun t => Tryz.prog.rowNamed t [101,114,114,111,114] := List.mem_filter.2 ⟨List.mem_range.2 (by rw [← tsize]; exact e3),e4⟩
 rw [oneRow] at hm
 obtain rfl := List.mem_singleton.1 hm
 have hh : typeHandle Tryz.prog 46 = .pointer (some ⟨10,46,none⟩) := by kernel_rfl
 rw [hh] at e5
 simpa using World.var?_cell re e5 0
noncomputable def base0 (os : Os) : World :=
 let w0 := World.holding Tryz.prog os ⟨#[], #[],[]⟩
 { w0 with heap := w0.heap.modify 0 fun
   | .cells _ t frozen => .cells #[.iface 180 (.agg #[.pointer (some ⟨10,46,none⟩)])] t frozen
   | o => o }
noncomputable def laidW (os : Os) : World := (base0 os).layVars Tryz.prog plainL
theorem laidW_os (os : Os) : (laidW os).os = os := World.layVars_os _ _ _
theorem tN (os : Os) (args : Array Value) : laidMetH Tryz.prog p6 ((laidW os).forCall (fun _ _ => 0) ⟨#[],args,[]⟩).memory :=
 nb sN restL (na args (by kernel_rfl) (by kernel_rfl)) (handlesMet_of_B (by kernel_rfl))
theorem maxIs {W : World} (h : W.ShapedOpen Tryz.prog) : ∃ m,W.cell? ⟨3,0,none⟩ = some (.int .i64 m) :=
 cell_of_shapedOpen_int (P := Tryz.prog) (g := 3) (t := 3) (zero := #[.int .i64 0]) h (of_decide_eq_true (by kernel_rfl)) (by kernel_rfl) rfl (by kernel_rfl) (by kernel_rfl) Tryz.underlying3
theorem size10 {W : World} (h : W.ShapedOpen Tryz.prog) : 10 ≤ W.heap.size := by
 have e : (((begin Tryz.prog (fun _ _ => 0) default).world.heap[9]?).bind Obj.row?).isSome = true := by kernel_rfl
 obtain ⟨⟨zero,t⟩,e⟩ := Option.isSome_iff_exists.1 e
 obtain ⟨cs,hc,_⟩ := h.1 9 zero t (of_decide_eq_true (by kernel_rfl)) e
 rcases Nat.lt_or_ge 9 W.heap.size with hl | hl
 · exact hl
 · rw [Array.getElem?_eq_none hl] at hc; cases hc
structure Known (W : World) : Prop where
 E : LE W
 X : LX W
 V : LV W
 g : 10 ≤ W.heap.size
theorem known {W : World} (h : laidMetH Tryz.prog p6 W) (hs : W.ShapedOpen Tryz.prog) : Known W := by
 have hsp := mP (laid := p6) h sN
 rw [restL] at hsp
 obtain ⟨hpl,hha⟩ := hsp
 exact ⟨⟨synIs hpl.tail.tail.tail.tail.tail,rngIs hpl.tail.tail.tail.tail⟩,⟨errTyIs hha⟩,⟨maxIs hs,Lib.tabIs_of_head gTab tyTab Tryz.underlying231 Tryz.underlying200 cellsU cellsTab hpl.tail.tail⟩,size10 hs⟩
def uptoLe {H : Type} (l : List (DataW H)) : Prop := Rows.uptoSmall H l = true
theorem rA {H : Type} {l : List (DataW H)} : uptoLe l ↔ Rows.uptoBulkAll l ≤ 1048576 := ⟨fun h => of_decide_eq_true h,fun h => decide_eq_true h⟩
mutual
theorem like_bulk {H : Type} : ∀ (e : Ex) (d : DataW H),Like e d → e.size ≤ Rows.uptoBulk d
 | .mk o v t n c al,d,h => by
  obtain ⟨da,rfl,h⟩ := h
  simp only [Rows.uptoBulk,Rows.uptoBulkAll,Val.data,Ex.size]
  rcases h with ⟨rfl,rfl⟩ | ⟨elems,spare,rfl,h⟩
  · simp only [Rows.uptoBulk,Exs.size]; omega
  · have := likes_bulk al elems h
    simp only [Rows.uptoBulk]; omega
theorem likes_bulk {H : Type} : ∀ (l : List Ex) (ds : List (DataW H)),Likes l ds → Exs.size l ≤ Rows.uptoBulkAll ds
 | [],_,h => by simp only [Exs.size]; omega
 | e :: es,_,h => by
  obtain ⟨d,ds,rfl,h1,h2⟩ := h
  have a := like_bulk e d h1
  have b := likes_bulk es ds h2
  simp only [Exs.size,Rows.uptoBulkAll]; omega
end
end Go.Proofs.YtjbpkcbefmpfgaaGreatDoor
namespace Go.Proofs.YtjbpkcbefmpfgaaGreatDoor
open Go.WK Go.RowKit Go.ChangeShapes Go.WideShapes Go.ChangeAt Go.ChangeMaps
section
variable {H : Type} {enc : TypeId × Value → H} {w : World} {n : Nat} {cs : List Value} {d : DataW H} {p : List MemPlace}
theorem p7 : ∀ l : List (DataW H),Rows.uptoBulkAll l = eK Rows.uptoBulk l
 | [] => by simp only [Rows.uptoBulkAll,eK]
 | d :: l => by simp only [Rows.uptoBulkAll,eK,p7 l]
theorem ie : 1 ≤ Rows.uptoBulk (DataW.nil : DataW H) := by simp only [Rows.uptoBulk]; omega
theorem jq (l sp : List (DataW H)) : eK Rows.uptoBulk l + 1 ≤ Rows.uptoBulk (.slice l sp) := by
 simp only [Rows.uptoBulk,p7]; omega
abbrev TR (enc : TypeId × Value → H) (w : World) (n t : Nat) (cs : List Value) (d : DataW H) (p : List MemPlace) : Prop := DataW.trod enc Tryz.prog w 0 (fun _ => true) true n t cs = some (d,p)
theorem cel2 : Tryz.prog.cellsOf 2 = 1 := by kernel_rfl
theorem cel3 : Tryz.prog.cellsOf 3 = 1 := by kernel_rfl
theorem cel4 : Tryz.prog.cellsOf 4 = 1 := by kernel_rfl
theorem mX : Tryz.prog.cellsOf 9 = 1 := by kernel_rfl
theorem cel22 : Tryz.prog.cellsOf 22 = 1 := by kernel_rfl
theorem cel23 : Tryz.prog.cellsOf 23 = 1 := by kernel_rfl
theorem cel24 : Tryz.prog.cellsOf 24 = 1 := by kernel_rfl
theorem cel25 : Tryz.prog.cellsOf 25 = 1 := by kernel_rfl
theorem cel27 : Tryz.prog.cellsOf 27 = 3 := by kernel_rfl
theorem cel28 : Tryz.prog.cellsOf 28 = 1 := by kernel_rfl
theorem mY : Tryz.prog.cellsOf 30 = 8 := by kernel_rfl
theorem cel31 : Tryz.prog.cellsOf 31 = 1 := by kernel_rfl
theorem cel32 : Tryz.prog.cellsOf 32 = 1 := by kernel_rfl
theorem cel33 : Tryz.prog.cellsOf 33 = 1 := by kernel_rfl
theorem cel35 : Tryz.prog.cellsOf 35 = 15 := by kernel_rfl
theorem cel37 : Tryz.prog.cellsOf 37 = 31 := by kernel_rfl
theorem cel53 : Tryz.prog.cellsOf 53 = 9 := by kernel_rfl
theorem cel71 : Tryz.prog.cellsOf 71 = 3 := by kernel_rfl
theorem cel82 : Tryz.prog.cellsOf 82 = 9 := by kernel_rfl
theorem cel87 : Tryz.prog.cellsOf 87 = 10 := by kernel_rfl
theorem cel121 : Tryz.prog.cellsOf 121 = 2 := by kernel_rfl
theorem exO (h : TR enc w n 30 cs d p) : ∃ (x : Ex) (bl : List Nat),ExK bl w x cs ∧ (∀ k ∈ bl,k < w.heap.size) ∧ x.ok ∧ x.size ≤ Rows.uptoBulk d := by
 obtain ⟨x,k1,k2,k3⟩ := open_ex Tryz.underlying30 Tryz.underlying27 Tryz.underlying3 Tryz.underlying9 Tryz.underlying28 Tryz.underlying3 Tryz.underlying2 Tryz.underlying9 cel3 mX cel28 cel27 cel3 cel2 mX mY _ n cs d p (Nat.lt_succ_self _) h
 obtain ⟨bl,hb,hk⟩ := ExC.k x _ k1
 exact ⟨x,bl,hk,hb,k2,like_bulk x d k3⟩
theorem strO (h : TR enc w n 9 cs d p) : ∃ s : List UInt8,cs = [.string (B s)] ∧ s.length + 1 ≤ Rows.uptoBulk d := by
 obtain ⟨st,rfl,hx,_⟩ := DataW.trod_string Tryz.underlying9 h
 simp only [Prod.mk.injEq] at hx
 obtain ⟨rfl,_⟩ := hx
 exact ⟨st.data.toList,by rw [B_eta],by simp only [Rows.uptoBulk]; omega⟩
theorem intO (h : TR enc w n 3 cs d p) : ∃ i : Int,cs = [.int .i64 i] ∧ (-9223372036854775808 ≤ i ∧ i ≤ 9223372036854775807) := by
 obtain ⟨i,rfl,_,hw⟩ := DataW.trod_int Tryz.underlying3 h
 exact ⟨i,rfl,iy hw⟩
theorem nX (h : TR enc w n 4 cs d p) : ∃ b : Bool,cs = [.bool b] := by
 obtain ⟨b,rfl,_⟩ := DataW.trod_bool Tryz.underlying4 h
 exact ⟨b,rfl⟩
theorem nameO (h : TR enc w n 9 cs d p) : ∃ (x : List UInt8) (bl : List Nat),nameKd.rel bl w x cs ∧ (∀ k ∈ bl,k < w.heap.size) ∧ True ∧ fN x ≤ Rows.uptoBulk d := by
 obtain ⟨s,e,z⟩ := strO h
 exact ⟨s,[],e,fun k hk => by simp at hk,trivial,z⟩
theorem rowO (h : TR enc w n 28 cs d p) : ∃ (x : List Ex) (bl : List Nat),rowKd.rel bl w x cs ∧ (∀ k ∈ bl,k < w.heap.size) ∧ (∀ j,j < x.length → (x.getD j Ex.zero).ok) ∧ fR x ≤ Rows.uptoBulk d := by
 obtain ⟨l,y,bl,xs,e,k,b,q,z⟩ := hM exKd Ex.zero Rows.uptoBulk Ex.size (fun x => x.ok) ie jq Tryz.underlying28 mY (fun n cs d p h => exO h) h
 exact ⟨l,bl,⟨_,e,sl_of_R k⟩,b,q,z⟩
theorem itemO (h : TR enc w n 53 cs d p) : ∃ (x : ItemX) (bl : List Nat),itemKd.rel bl w x cs ∧ (∀ k ∈ bl,k < w.heap.size) ∧ x.e.ok ∧ fI x ≤ Rows.uptoBulk d := by
 obtain ⟨xs,m,_,hx,hl,hxs,hf⟩ := DataW.trod_struct Tryz.underlying53 h
 simp only [Prod.mk.injEq] at hx
 obtain ⟨rfl,_⟩ := hx
 rw [cel53] at hl
 match xs,hxs with
 | [v0,v1],_ =>
  have f0 : TR enc w m 30 ((cs.drop 0).take (Tryz.prog.cellsOf 30)) v0.1 v0.2 := hf 0 _ rfl
  rw [mY] at f0
  have f1 : TR enc w m 9 ((cs.drop 8).take (Tryz.prog.cellsOf 9)) v1.1 v1.2 := hf 1 _ rfl
  rw [mX] at f1
  obtain ⟨x0,bl0,k0,b0,o0,z0⟩ := exO f0
  obtain ⟨y0,e0,k0⟩ := mI k0
  obtain ⟨s1,e1,z1⟩ := strO f1
  have hbk : Rows.uptoBulk (.agg ([v0,v1].map (·.1))) = Rows.uptoBulk v0.1 + Rows.uptoBulk v1.1 + 1 := by simp only [List.map_cons,List.map_nil,Rows.uptoBulk,Rows.uptoBulkAll]; omega
  have hcs := (cW cs 0 8 8 rfl e0 (cW cs 8 1 9 rfl e1 (List.drop_eq_nil_of_le (by omega))))
  exact ⟨⟨x0,s1⟩,bl0,⟨_,hcs,k0⟩,b0,o0,by unfold fI; dsimp only; omega⟩
theorem srcO (h : TR enc w n 87 cs d p) : ∃ (x : SrcX) (bl : List Nat),srcKd.rel bl w x cs ∧ (∀ k ∈ bl,k < w.heap.size) ∧ x.e.ok ∧ fF x ≤ Rows.uptoBulk d := by
 obtain ⟨xs,m,_,hx,hl,hxs,hf⟩ := DataW.trod_struct Tryz.underlying87 h
 simp only [Prod.mk.injEq] at hx
 obtain ⟨rfl,_⟩ := hx
 rw [cel87] at hl
 match xs,hxs with
 | [v0,v1,v2],_ =>
  have f0 : TR enc w m 9 ((cs.drop 0).take (Tryz.prog.cellsOf 9)) v0.1 v0.2 := hf 0 _ rfl
  rw [mX] at f0
  have f1 : TR enc w m 9 ((cs.drop 1).take (Tryz.prog.cellsOf 9)) v1.1 v1.2 := hf 1 _ rfl
  rw [mX] at f1
  have f2 : TR enc w m 30 ((cs.drop 2).take (Tryz.prog.cellsOf 30)) v2.1 v2.2 := hf 2 _ rfl
  rw [mY] at f2
  obtain ⟨s0,e0,z0⟩ := strO f0
  obtain ⟨s1,e1,z1⟩ := strO f1
  obtain ⟨x2,bl2,k2,b2,o2,z2⟩ := exO f2
  obtain ⟨y2,e2,k2⟩ := mI k2
  have hbk : Rows.uptoBulk (.agg ([v0,v1,v2].map (·.1))) = Rows.uptoBulk v0.1 + Rows.uptoBulk v1.1 + Rows.uptoBulk v2.1 + 1 := by simp only [List.map_cons,List.map_nil,Rows.uptoBulk,Rows.uptoBulkAll]; omega
  have hcs := (cW cs 0 1 1 rfl e0 (cW cs 1 1 2 rfl e1 (cW cs 2 8 10 rfl e2 (List.drop_eq_nil_of_le (by omega)))))
  exact ⟨⟨s0,s1,x2⟩,bl2,⟨_,by rw [List.append_nil] at hcs; exact hcs,k2⟩,b2,o2,by unfold fF; dsimp only; omega⟩
theorem setO (h : TR enc w n 82 cs d p) : ∃ (x : SetX) (bl : List Nat),setKd.rel bl w x cs ∧ (∀ k ∈ bl,k < w.heap.size) ∧ x.e.ok ∧ fT x ≤ Rows.uptoBulk d := by
 obtain ⟨xs,m,_,hx,hl,hxs,hf⟩ := DataW.trod_struct Tryz.underlying82 h
 simp only [Prod.mk.injEq] at hx
 obtain ⟨rfl,_⟩ := hx
 rw [cel82] at hl
 match xs,hxs with
 | [v0,v1],_ =>
  have f0 : TR enc w m 9 ((cs.drop 0).take (Tryz.prog.cellsOf 9)) v0.1 v0.2 := hf 0 _ rfl
  rw [mX] at f0
  have f1 : TR enc w m 30 ((cs.drop 1).take (Tryz.prog.cellsOf 30)) v1.1 v1.2 := hf 1 _ rfl
  rw [mY] at f1
  obtain ⟨s0,e0,z0⟩ := strO f0
  obtain ⟨x1,bl1,k1,b1,o1,z1⟩ := exO f1
  obtain ⟨y1,e1,k1⟩ := mI k1
  have hbk : Rows.uptoBulk (.agg ([v0,v1].map (·.1))) = Rows.uptoBulk v0.1 + Rows.uptoBulk v1.1 + 1 := by simp only [List.map_cons,List.map_nil,Rows.uptoBulk,Rows.uptoBulkAll]; omega
  have hcs := (cW cs 0 1 1 rfl e0 (cW cs 1 8 9 rfl e1 (List.drop_eq_nil_of_le (by omega))))
  exact ⟨⟨s0,x1⟩,bl1,⟨_,by rw [List.append_nil] at hcs; exact hcs,k1⟩,b1,o1,by unfold fT; dsimp only; omega⟩
theorem colO (h : TR enc w n 71 cs d p) : ∃ (x : ColX) (bl : List Nat),colKd.rel bl w x cs ∧ (∀ k ∈ bl,k < w.heap.size) ∧ (-9223372036854775808 ≤ x.k ∧ x.k ≤ 9223372036854775807) ∧ fC x ≤ Rows.uptoBulk d := by
 obtain ⟨xs,m,_,hx,hl,hxs,hf⟩ := DataW.trod_struct Tryz.underlying71 h
 simp only [Prod.mk.injEq] at hx
 obtain ⟨rfl,_⟩ := hx
 rw [cel71] at hl
 match xs,hxs with
 | [v0,v1,v2],_ =>
  have f0 : TR enc w m 9 ((cs.drop 0).take (Tryz.prog.cellsOf 9)) v0.1 v0.2 := hf 0 _ rfl
  rw [mX] at f0
  have f1 : TR enc w m 3 ((cs.drop 1).take (Tryz.prog.cellsOf 3)) v1.1 v1.2 := hf 1 _ rfl
  rw [cel3] at f1
  have f2 : TR enc w m 4 ((cs.drop 2).take (Tryz.prog.cellsOf 4)) v2.1 v2.2 := hf 2 _ rfl
  rw [cel4] at f2
  obtain ⟨s0,e0,z0⟩ := strO f0
  obtain ⟨i1,e1,w1⟩ := intO f1
  obtain ⟨c2,e2⟩ := nX f2
  have hbk : Rows.uptoBulk (.agg ([v0,v1,v2].map (·.1))) = Rows.uptoBulk v0.1 + Rows.uptoBulk v1.1 + Rows.uptoBulk v2.1 + 1 := by simp only [List.map_cons,List.map_nil,Rows.uptoBulk,Rows.uptoBulkAll]; omega
  have hcs := (cW cs 0 1 1 rfl e0 (cW cs 1 1 2 rfl e1 (cW cs 2 1 3 rfl e2 (List.drop_eq_nil_of_le (by omega)))))
  exact ⟨⟨s0,i1,c2⟩,[],hcs,fun k hk => by simp at hk,w1,by unfold fC; dsimp only; omega⟩
theorem ordO (h : TR enc w n 121 cs d p) : ∃ (x : OrdX) (bl : List Nat),ordKd.rel bl w x cs ∧ (∀ k ∈ bl,k < w.heap.size) ∧ True ∧ fO x ≤ Rows.uptoBulk d := by
 obtain ⟨xs,m,_,hx,hl,hxs,hf⟩ := DataW.trod_struct Tryz.underlying121 h
 simp only [Prod.mk.injEq] at hx
 obtain ⟨rfl,_⟩ := hx
 rw [cel121] at hl
 match xs,hxs with
 | [v0,v1],_ =>
  have f0 : TR enc w m 9 ((cs.drop 0).take (Tryz.prog.cellsOf 9)) v0.1 v0.2 := hf 0 _ rfl
  rw [mX] at f0
  have f1 : TR enc w m 4 ((cs.drop 1).take (Tryz.prog.cellsOf 4)) v1.1 v1.2 := hf 1 _ rfl
  rw [cel4] at f1
  obtain ⟨s0,e0,z0⟩ := strO f0
  obtain ⟨c1,e1⟩ := nX f1
  have hbk : Rows.uptoBulk (.agg ([v0,v1].map (·.1))) = Rows.uptoBulk v0.1 + Rows.uptoBulk v1.1 + 1 := by simp only [List.map_cons,List.map_nil,Rows.uptoBulk,Rows.uptoBulkAll]; omega
  have hcs := (cW cs 0 1 1 rfl e0 (cW cs 1 1 2 rfl e1 (List.drop_eq_nil_of_le (by omega))))
  exact ⟨⟨s0,c1⟩,[],hcs,fun k hk => by simp at hk,trivial,by unfold fO; dsimp only; omega⟩
theorem quO (h : TR enc w n 35 cs d p) : ∃ (q : QryX) (y : QLay) (bl : List Nat),cs = cI q y ∧ QAt bl w q y ∧ (∀ k ∈ bl,k < w.heap.size) ∧ QOk q ∧ fQ q ≤ Rows.uptoBulk d := by
 obtain ⟨xs,m,_,hx,hl,hxs,hf⟩ := DataW.trod_struct Tryz.underlying35 h
 simp only [Prod.mk.injEq] at hx
 obtain ⟨rfl,_⟩ := hx
 rw [cel35] at hl
 match xs,hxs with
 | [v0,v1,v2,v3,v4,v5,v6,v7],_ =>
  have f0 : TR enc w m 4 ((cs.drop 0).take (Tryz.prog.cellsOf 4)) v0.1 v0.2 := hf 0 _ rfl
  rw [cel4] at f0
  have f1 : TR enc w m 4 ((cs.drop 1).take (Tryz.prog.cellsOf 4)) v1.1 v1.2 := hf 1 _ rfl
  rw [cel4] at f1
  have f2 : TR enc w m 31 ((cs.drop 2).take (Tryz.prog.cellsOf 31)) v2.1 v2.2 := hf 2 _ rfl
  rw [cel31] at f2
  have f3 : TR enc w m 32 ((cs.drop 3).take (Tryz.prog.cellsOf 32)) v3.1 v3.2 := hf 3 _ rfl
  rw [cel32] at f3
  have f4 : TR enc w m 30 ((cs.drop 4).take (Tryz.prog.cellsOf 30)) v4.1 v4.2 := hf 4 _ rfl
  rw [mY] at f4
  have f5 : TR enc w m 33 ((cs.drop 12).take (Tryz.prog.cellsOf 33)) v5.1 v5.2 := hf 5 _ rfl
  rw [cel33] at f5
  have f6 : TR enc w m 4 ((cs.drop 13).take (Tryz.prog.cellsOf 4)) v6.1 v6.2 := hf 6 _ rfl
  rw [cel4] at f6
  have f7 : TR enc w m 3 ((cs.drop 14).take (Tryz.prog.cellsOf 3)) v7.1 v7.2 := hf 7 _ rfl
  rw [cel3] at f7
  obtain ⟨c0,e0⟩ := nX f0
  obtain ⟨c1,e1⟩ := nX f1
  obtain ⟨l2,y2,bl2,xs2,e2,k2,b2,q2,z2⟩ := hM itemKd ItemX.zero Rows.uptoBulk fI (fun x => x.e.ok) ie jq Tryz.underlying31 cel53 (fun n cs d p h => itemO h) f2
  obtain ⟨l3,y3,bl3,xs3,e3,k3,b3,q3,z3⟩ := hM srcKd SrcX.zero Rows.uptoBulk fF (fun x => x.e.ok) ie jq Tryz.underlying32 cel87 (fun n cs d p h => srcO h) f3
  obtain ⟨x4,bl4,k4,b4,o4,z4⟩ := exO f4
  obtain ⟨y4,e4,k4⟩ := mI k4
  obtain ⟨l5,y5,bl5,xs5,e5,k5,b5,q5,z5⟩ := hM ordKd OrdX.zero Rows.uptoBulk fO (fun _ => True) ie jq Tryz.underlying33 cel121 (fun n cs d p h => ordO h) f5
  obtain ⟨c6,e6⟩ := nX f6
  obtain ⟨i7,e7,w7⟩ := intO f7
  have hbk : Rows.uptoBulk (.agg ([v0,v1,v2,v3,v4,v5,v6,v7].map (·.1))) = Rows.uptoBulk v0.1 + Rows.uptoBulk v1.1 + Rows.uptoBulk v2.1 + Rows.uptoBulk v3.1 + Rows.uptoBulk v4.1 + Rows.uptoBulk v5.1 + Rows.uptoBulk v6.1 + Rows.uptoBulk v7.1 + 1 := by simp only [List.map_cons,List.map_nil,Rows.uptoBulk,Rows.uptoBulkAll]; omega
  have hcs := (cW cs 0 1 1 rfl e0 (cW cs 1 1 2 rfl e1 (cW cs 2 1 3 rfl e2 (cW cs 3 1 4 rfl e3 (cW cs 4 8 12 rfl e4 (cW cs 12 1 13 rfl e5 (cW cs 13 1 14 rfl e6 (cW cs 14 1 15 rfl e7 (List.drop_eq_nil_of_le (by omega))))))))))
  refine ⟨⟨c0,c1,l2,l3,x4,l5,c6,i7⟩,⟨y2,y3,y4,y5⟩,bl2 ++ (bl3 ++ (bl4 ++ (bl5))),hcs,⟨xs2,xs3,xs5,k2.mono (fun k hk => List.mem_append_left _ hk),k3.mono (fun k hk => List.mem_append_right _ (List.mem_append_left _ hk)),k4.mono (fun k hk => List.mem_append_right _ (List.mem_append_right _ (List.mem_append_left _ hk))),k5.mono (fun k hk => List.mem_append_right _ (List.mem_append_right _ (List.mem_append_right _ (hk))))⟩,fun k hk => (List.mem_append.1 hk).elim (fun hk => b2 k hk) (fun hk => (List.mem_append.1 hk).elim (fun hk => b3 k hk) (fun hk => (List.mem_append.1 hk).elim (fun hk => b4 k hk) (fun hk => b5 k hk))),⟨q2,q3,o4,iL.2 w7⟩, ?_⟩
  rw [hbk]
  unfold fQ
  dsimp only
  omega
theorem stO (h : TR enc w n 37 cs d p) : ∃ (s : StmtX) (y : Lay) (bl : List Nat),cs = bk s y ∧ SAt bl w s y ∧ (∀ k ∈ bl,k < w.heap.size) ∧ SOk s ∧ fS s ≤ Rows.uptoBulk d := by
 obtain ⟨xs,m,_,hx,hl,hxs,hf⟩ := DataW.trod_struct Tryz.underlying37 h
 simp only [Prod.mk.injEq] at hx
 obtain ⟨rfl,_⟩ := hx
 rw [cel37] at hl
 match xs,hxs with
 | [v0,v1,v2,v3,v4,v5,v6,v7,v8,v9],_ =>
  have f0 : TR enc w m 3 ((cs.drop 0).take (Tryz.prog.cellsOf 3)) v0.1 v0.2 := hf 0 _ rfl
  rw [cel3] at f0
  have f1 : TR enc w m 9 ((cs.drop 1).take (Tryz.prog.cellsOf 9)) v1.1 v1.2 := hf 1 _ rfl
  rw [mX] at f1
  have f2 : TR enc w m 9 ((cs.drop 2).take (Tryz.prog.cellsOf 9)) v2.1 v2.2 := hf 2 _ rfl
  rw [mX] at f2
  have f3 : TR enc w m 22 ((cs.drop 3).take (Tryz.prog.cellsOf 22)) v3.1 v3.2 := hf 3 _ rfl
  rw [cel22] at f3
  have f4 : TR enc w m 23 ((cs.drop 4).take (Tryz.prog.cellsOf 23)) v4.1 v4.2 := hf 4 _ rfl
  rw [cel23] at f4
  have f5 : TR enc w m 4 ((cs.drop 5).take (Tryz.prog.cellsOf 4)) v5.1 v5.2 := hf 5 _ rfl
  rw [cel4] at f5
  have f6 : TR enc w m 24 ((cs.drop 6).take (Tryz.prog.cellsOf 24)) v6.1 v6.2 := hf 6 _ rfl
  rw [cel24] at f6
  have f7 : TR enc w m 25 ((cs.drop 7).take (Tryz.prog.cellsOf 25)) v7.1 v7.2 := hf 7 _ rfl
  rw [cel25] at f7
  have f8 : TR enc w m 30 ((cs.drop 8).take (Tryz.prog.cellsOf 30)) v8.1 v8.2 := hf 8 _ rfl
  rw [mY] at f8
  have f9 : TR enc w m 35 ((cs.drop 16).take (Tryz.prog.cellsOf 35)) v9.1 v9.2 := hf 9 _ rfl
  rw [cel35] at f9
  obtain ⟨i0,e0,w0⟩ := intO f0
  obtain ⟨s1,e1,z1⟩ := strO f1
  obtain ⟨s2,e2,z2⟩ := strO f2
  obtain ⟨l3,y3,bl3,xs3,e3,k3,b3,q3,z3⟩ := hM colKd ColX.zero Rows.uptoBulk fC (fun x => -9223372036854775808 ≤ x.k ∧ x.k ≤ 9223372036854775807) ie jq Tryz.underlying22 cel71 (fun n cs d p h => colO h) f3
  obtain ⟨l4,y4,bl4,xs4,e4,k4,b4,q4,z4⟩ := hM nameKd ([] : List UInt8) Rows.uptoBulk fN (fun _ => True) ie jq Tryz.underlying23 mX (fun n cs d p h => nameO h) f4
  obtain ⟨c5,e5⟩ := nX f5
  obtain ⟨l6,y6,bl6,xs6,e6,k6,b6,q6,z6⟩ := hM rowKd ([] : List Ex) Rows.uptoBulk fR (fun l => ∀ j,j < l.length → (l.getD j Ex.zero).ok) ie jq Tryz.underlying24 cel28 (fun n cs d p h => rowO h) f6
  obtain ⟨l7,y7,bl7,xs7,e7,k7,b7,q7,z7⟩ := hM setKd SetX.zero Rows.uptoBulk fT (fun x => x.e.ok) ie jq Tryz.underlying25 cel82 (fun n cs d p h => setO h) f7
  obtain ⟨x8,bl8,k8,b8,o8,z8⟩ := exO f8
  obtain ⟨y8,e8,k8⟩ := mI k8
  obtain ⟨x9,y9,bl9,e9,k9,b9,o9,z9⟩ := quO f9
  have hbk : Rows.uptoBulk (.agg ([v0,v1,v2,v3,v4,v5,v6,v7,v8,v9].map (·.1))) = Rows.uptoBulk v0.1 + Rows.uptoBulk v1.1 + Rows.uptoBulk v2.1 + Rows.uptoBulk v3.1 + Rows.uptoBulk v4.1 + Rows.uptoBulk v5.1 + Rows.uptoBulk v6.1 + Rows.uptoBulk v7.1 + Rows.uptoBulk v8.1 + Rows.uptoBulk v9.1 + 1 := by simp only [List.map_cons,List.map_nil,Rows.uptoBulk,Rows.uptoBulkAll]; omega
  have hcs := (cW cs 0 1 1 rfl e0 (cW cs 1 1 2 rfl e1 (cW cs 2 1 3 rfl e2 (cW cs 3 1 4 rfl e3 (cW cs 4 1 5 rfl e4 (cW cs 5 1 6 rfl e5 (cW cs 6 1 7 rfl e6 (cW cs 7 1 8 rfl e7 (cW cs 8 8 16 rfl e8 (cW cs 16 15 31 rfl e9 (List.drop_eq_nil_of_le (by omega))))))))))))
  obtain ⟨xI,xF,xO,hI,hF,hV,hO⟩ := k9.mono (fun k hk => List.mem_append_right _ (List.mem_append_right _ (List.mem_append_right _ (List.mem_append_right _ (List.mem_append_right _ (hk))))))
  skip
  refine ⟨⟨i0,s1,s2,l3,l4,c5,l6,l7,x8,x9⟩,⟨y3,y4,y6,y7,y8,y9⟩,bl3 ++ (bl4 ++ (bl6 ++ (bl7 ++ (bl8 ++ (bl9))))),hcs,⟨xs3,xs4,xs6,xs7,xI,xF,xO,k3.mono (fun k hk => List.mem_append_left _ hk),k4.mono (fun k hk => List.mem_append_right _ (List.mem_append_left _ hk)),k6.mono (fun k hk => List.mem_append_right _ (List.mem_append_right _ (List.mem_append_left _ hk))),k7.mono (fun k hk => List.mem_append_right _ (List.mem_append_right _ (List.mem_append_right _ (List.mem_append_left _ hk)))),k8.mono (fun k hk => List.mem_append_right _ (List.mem_append_right _ (List.mem_append_right _ (List.mem_append_right _ (List.mem_append_left _ hk))))),hI,hF,hV,hO⟩,fun k hk => (List.mem_append.1 hk).elim (fun hk => b3 k hk) (fun hk => (List.mem_append.1 hk).elim (fun hk => b4 k hk) (fun hk => (List.mem_append.1 hk).elim (fun hk => b6 k hk) (fun hk => (List.mem_append.1 hk).elim (fun hk => b7 k hk) (fun hk => (List.mem_append.1 hk).elim (fun hk => b8 k hk) (fun hk => b9 k hk))))),⟨w0,q3,q6,q7,o8,o9⟩, ?_⟩
  rw [hbk]
  unfold fS
  dsimp only
  omega
set_option maxRecDepth 100000 in
theorem open_stA {r : Reach} {bb : Nat} {vv : Value} (hv : Value.okWide Tryz.prog w r bb 37 vv) (h : DataW.Trod enc Tryz.prog w 0 (fun _ => true) true 37 vv d p) :
  ∃ (s : StmtX) (y : Lay) (bl : List Nat),vv = .agg (bk s y).toArray ∧ SAt bl w s y ∧ (∀ k ∈ bl,k < w.heap.size) ∧ SOk s ∧ fS s ≤ Rows.uptoBulk d := by
 obtain ⟨cs,rfl,_⟩ := okWide_struct Tryz.underlying37 hv
 obtain ⟨fuel,hf⟩ := h
 have hf : TR enc w fuel 37 cs.toList d p := hf
 obtain ⟨s,y,bl,e,k,b,o,z⟩ := stO hf
 exact ⟨s,y,bl,by rw [← e],k,b,o,z⟩
end
end Go.Proofs.YtjbpkcbefmpfgaaGreatDoor
