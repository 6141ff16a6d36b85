/- Parts of the proof, joined and made shorter by a program: LxWalks, Shelf, LLib, LxWalks2, LxWalks3, LxWalks4, Errs, LxWalks5, LxWalks8, Pk1, Pk2, Pk3, Pk4, PLib, Pk5, Pk6, Pk7. -/
import Derived.Test.YtjbpkcbefmpfgaaGreatDoorY3
import Derived.Test.YtjbpkcbefmpfgaaGreatDoorProg
import Derived.KernelRfl
import Derived.Shelf.Strings.Builder1
import Derived.Shelf.Strings.Builder2
import Derived.Shelf.Strings.OnBuilder
import Derived.Shelf.Small.Utf8
import Derived.Shelf.Small.Strs
import Derived.Shelf.Strings.BuilderF
import Derived.Shelf.Strings.BuilderK
import Derived.Shelf.Utf8.RuneCount
import Derived.Shelf.Strings.Builder2Cap
import Derived.Shelf.Strconv.Atoi
import Derived.Shelf.Strconv.Itoa0
import Derived.Shelf.Strconv.Itoa1
import Derived.Shelf.LaysM
import Derived.Shelf.Strconv.Itoa2
import Derived.Shelf.Strconv.Itoa3
import Derived.Shelf.Strconv.Itoa4
import Derived.Shelf.Strconv.AtoiErrFast
import Derived.Shelf.Strconv.ParseIntEmpty
import Derived.Shelf.Strconv.AtoiFail
import Derived.Shelf.Strconv.Clone
import Derived.Shelf.Strconv.SyntaxError
import Derived.Shelf.LaysC
import Derived.Shelf.Strconv.ToError
import Derived.Shelf.Strconv.AtoiErr
import Derived.Shelf.Strconv.ErrVar
import Derived.Shelf.Strconv.Lower
import Derived.Shelf.Strconv.ParseUint10
import Derived.Shelf.Strconv.ParseUint10Empty
import Derived.Shelf.Strconv.ParseUint10Any
import Derived.Shelf.Strconv.ParseInt10
import Derived.Shelf.Strconv.AtoiLong
import Derived.Shelf.Strconv.AtoiInnerAll
import Derived.Shelf.Strconv.RangeError
import Derived.Shelf.Strconv.ToErrorRange
import Derived.Shelf.Strconv.AtoiAll
import Derived.Shelf.Strconv.ErrVarAll
import Derived.Shelf.Strconv.ParseUintEmpty
import Derived.Shelf.Strconv.ParseUint10b64
import Derived.Shelf.Strconv.ParseUint10b32
import Derived.Shelf.Strconv.ParseUint10b16
import Derived.Shelf.Strconv.ParseUint10b8
import Derived.Shelf.Strconv.ParseUint10At
import Derived.Shelf.Strconv.ParseInt10At64
import Derived.Shelf.Strconv.ParseInt10At32
import Derived.Shelf.Strconv.ParseInt10At16
import Derived.Shelf.Strconv.ParseInt10At8
import Derived.Shelf.Strconv.ParseInt10All
import Derived.Shelf.Strconv.ParseIntPublic10
import Derived.Shelf.Strconv.ErrVarParseInt
import Derived.Shelf.Strings.Search1
import Derived.Shelf.Strings.Search2
import Derived.Shelf.Strings.Search3
import Derived.Shelf.Strings.Count
import Derived.Shelf.Strings.Shaped
import Derived.Shelf.Strings.Prefix
import Derived.Shelf.Strings.Split
import Derived.Shelf.Strings.Replace
import Derived.Shelf.Strings.SplitShaped
import Derived.Shelf.Unicode.Latin
import Derived.Shelf.Unicode.Decode
import Derived.Shelf.Strings.RuneCount
import Derived.Shelf.Unicode.DecodeSlow
import Derived.Shelf.Unicode.DecodeAny
import Derived.Shelf.Unicode.CaseLookup
import Derived.Shelf.Unicode.CaseConvert
import Derived.Shelf.Unicode.CaseTo
import Derived.Shelf.Unicode.CaseLaid
import Derived.Shelf.Strings.BuilderCap
import Derived.WalkSmall
import Derived.Lib.SmallJoins
import Derived.Lib.AtoiErrMem
import Derived.WalkKit
import Derived.LaidEql
import Derived.Stop.Asserts
import Derived.RowKitTokens
import Derived.Lib.ItoaMem
import Derived.Lib.AppendIntMem
namespace Go.Proofs.YtjbpkcbefmpfgaaGreatDoor
open Go.WK Go.RowKit 
theorem rT (z:Int) (w:World)  : Calls Tryz.prog 82 #[.int .u8 z] w (cG w (.bool (om z))):=by
 refine az (args:=[.int .u8 z]) (lent:=[]) (H:=[]) Tryz.func82 rfl Tryz.ntmps82 rfl (Sat.start _ _ _ _) ((show Tri _ [(0,_)] _ _ _ from ae (aa (o_assignN rfl rfl (ae (aa (ai rfl rfl (mh rfl rfl rfl (ai rfl rfl ?_)))))))))
 refine' aJ [_,_] [(2,_),(0,_)] (dj:=5) (dr:=7) rfl rfl (fun g1=>?_) ⟨_,rfl,rfl,rfl,(.cons rfl (.cons rfl (.nil _)))⟩ rfl ?_
 rotate_left
 · skip
   exact ai rfl rfl (lH rfl rfl rfl (ab (Piece.mk rfl rfl (.cons rfl (.cons rfl (.nil _))) (fun _ h=>h))))
 refine ai rfl rfl ?_
 refine' bv [_,_,_,_,_,_] [(2,_),(0,_)] (dj:=9) (dr:=15) rfl rfl (fun g2=>?_) ⟨_,rfl,rfl,rfl,(.cons rfl (.cons rfl (.nil _)))⟩ rfl ?_
 rotate_left
 · skip
   refine ai rfl rfl (mh rfl rfl rfl (ai rfl rfl ?_))
   refine' aJ [_,_] [(9,_),(2,_),(0,_)] (dj:=12) (dr:=14) rfl rfl (fun g3=>?_) ⟨_,rfl,rfl,rfl,(.cons rfl (.cons rfl (.cons rfl (.nil _))))⟩ rfl ?_
   rotate_left
   · skip
     exact ai rfl rfl (lH rfl rfl rfl (ab (Piece.mk rfl rfl (.cons rfl (.cons rfl (.cons rfl (.nil _)))) (fun _ h=>h))))
   exact ab (Piece.mk rfl rfl (.cons rfl (.cons rfl (.nil _))) (fun _ h=>h))
 refine ai rfl rfl ?_
 refine' bv [_,_] [(2,_)] (dj:=17) (dr:=19) rfl rfl (fun g4=>?_) ⟨_,rfl,rfl,rfl,(.cons rfl (.nil _))⟩ rfl ?_
 rotate_left
 · skip
   exact ai rfl rfl (aD rfl rfl rfl (ab (Piece.mk rfl rfl (.cons rfl (.nil _)) (fun _ h=>h))))
 exact o_assignN rfl rfl (aq (ba rfl rfl oa))
theorem va (z:Int) (w:World)  : Calls Tryz.prog 85 #[.int .u8 z] w (cG w (.bool (mP z))):=by
 refine az (args:=[.int .u8 z]) (lent:=[]) (H:=[]) Tryz.func85 rfl Tryz.ntmps85 rfl (Sat.start _ _ _ _) ((show Tri _ [(0,_)] _ _ _ from ae (aa (o_assignN rfl rfl (ae (aa (ai rfl rfl (mh rfl rfl rfl (ai rfl rfl ?_)))))))))
 refine' aJ [_,_] [(2,_)] (dj:=5) (dr:=7) rfl rfl (fun g1=>?_) ⟨_,rfl,rfl,rfl,(.cons rfl (.nil _))⟩ rfl ?_
 rotate_left
 · skip
   exact ai rfl rfl (lH rfl rfl rfl (ab (Piece.mk rfl rfl (.cons rfl (.nil _)) (fun _ h=>h))))
 exact o_assignN rfl rfl (aq (ba rfl rfl oa))
theorem wdK (z:Int) (w:World)  : Calls Tryz.prog 84 #[.int .u8 z] w (cG w (.bool (om z || mP z))):=by
 refine az (args:=[.int .u8 z]) (lent:=[]) (H:=[]) Tryz.func84 rfl Tryz.ntmps84 rfl (Sat.start _ _ _ _) ((show Tri _ [(0,_)] _ _ _ from ae (aa (o_assignN rfl rfl (ae (aa (ai rfl rfl (aF (first:=[]) (cap:=[]) rfl rfl rfl Tryz.call82 (fun w_ hw_=>rT _ w_) (ai rfl rfl ?_)))))))))
 refine' bv [_,_] [(2,_)] (dj:=5) (dr:=7) rfl rfl (fun g1=>?_) ⟨_,rfl,rfl,rfl,(.cons rfl (.nil _))⟩ rfl ?_
 rotate_left
 · skip
   exact ai rfl rfl (aF (first:=[]) (cap:=[]) rfl rfl rfl Tryz.call85 (fun w_ hw_=>va _ w_) (ab (Piece.mk rfl rfl (.cons rfl (.nil _)) (fun _ h=>h))))
 exact o_assignN rfl rfl (aq (ba rfl rfl oa))
theorem runK (s:List UInt8) (q:Nat) (P:Int→Bool) (w:World) (hs:s.length≤140737488355328) (hc:∀ args w,(callFunc q args).run Tryz.prog w=.ok (.enter q args) w) (hq:∀ z w,Calls Tryz.prog q #[.int .u8 z] w (cG w (.bool (P z)))):Calls Tryz.prog 83 #[.string (B s),.func (.func q) #[] #[]] w (cG w (.int .i64 ((bO (fun c=>P c.toNat) s:Nat):Int))):=by
 refine az (args:=[.string (B s),.func (.func q) #[] #[]]) (lent:=[]) (H:=[]) Tryz.func83 rfl Tryz.ntmps83 rfl (Sat.start _ _ _ _) ((show Tri _ [(0,_),(1,_)] _ _ _ from ae (aa (o_assignN rfl rfl (ae (aa (o_assignN rfl rfl (ae (ay (bI (ι:=Nat) (F:=fun i=>[(0,.string (B s)),(1,.func (.func q) #[] #[]),(5,.int .i64 (i:Int))]) (HH:=fun i=>[]) (Pu:=fun i=>i≤s.length∧bO (fun c=>P c.toNat) s=i+bO (fun c=>P c.toNat) (s.drop i)) (μ:=fun i=>s.length - i) (0) (.cons rfl (.cons rfl (.cons rfl (.nil _)))) (fun _ h=>h) (⟨by omega,by simp⟩) (fun i hi=>ae (ae (aa (ai rfl rfl (ai rfl rfl (hZ Tryz.underlying9 rfl rfl (cR rfl rfl rfl (ai rfl rfl ?_))))))))))))))))))
 refine' aJ [_,_,_,_,_] [(0,_),(1,_),(5,_)] (dj:=10) (dr:=15) rfl rfl (fun g1=>?_) ⟨_,rfl,rfl,rfl,(.cons rfl (.cons rfl (.cons rfl (.nil _))))⟩ rfl ?_
 rotate_left
 · skip
   have g1:=of_decide_eq_true g1
   exact ai rfl rfl (ai rfl rfl (ai rfl rfl (jl Tryz.underlying9 rfl rfl rfl (by omega) (by omega) (aF (first:=[]) (cap:=[]) rfl rfl rfl hc (fun w1 h1=>hq _ w1) (ab (Piece.mk rfl rfl (.cons rfl (.cons rfl (.cons rfl (.nil _)))) (fun _ h=>h)))))))
 refine triL_nilN (aG rfl (fun h1=>?_) (fun h1=>?_))
 · skip
   simp only [Bool.and_eq_true,decide_eq_true_eq] at h1
   have h1:i < s.length∧P ((s.getD i 0).toNat:Int)=true:=⟨by omega,h1.2⟩
   refine ao (ag (ay (aa (ai rfl rfl (bJ rfl rfl rfl (by omega) (aO rfl rfl (ab (am (ag ?_)))))))))
   have e:=ou (fun c=>P c.toNat) s i h1.1
   rw [if_pos h1.2] at e
   exact ⟨i+1,(.cons rfl (.cons rfl (.cons rfl (.nil _)))),fun _ h=>h,⟨by omega,by omega⟩,by omega⟩
 · skip
   simp only [Bool.and_eq_false_iff,decide_eq_false_iff_not,Int.toNat_natCast] at h1
   have h1:¬ (i < s.length∧P ((s.getD i 0).toNat:Int)=true):=fun e=>by
    rcases h1 with h1 | h1
    · omega
    · rw [e.2] at h1; cases h1
   refine bu (ax (ax (aP (ag (ae (aa (ai rfl rfl (o_assignN rfl rfl (aq (ba rfl rfl ?_)))))))))); exact fun w1 hw1=>⟨congrArg (fun b=>Ending.returned (.int .i64 b)) (by have e:=run_last (fun c=>P c.toNat) s i h1; omega),hw1.chg⟩
theorem signK (c d:Int) (w:World)  : Calls Tryz.prog 89 #[.int .u8 c,.int .u8 d] w (cG w (.int .i64 ((sgn c d:Nat):Int))):=by
 refine az (args:=[.int .u8 c,.int .u8 d]) (lent:=[]) (H:=[]) Tryz.func89 rfl Tryz.ntmps89 rfl (Sat.start _ _ _ _) ((show Tri _ [(0,_),(1,_)] _ _ _ from ae (aa (o_assignN rfl rfl (ae (ae (aa (ai rfl rfl (triL_nilN (ay (ae (ay (ae (ay (ae (ay (ae (ay (ae (ae (ae (aa (aD rfl rfl rfl (o_assignN rfl rfl (av rfl (fun h0=>?_) (fun h0=>?_))))))))))))))))))))))))))
 · skip
   refine bu (ax (ax (aP (ag (ae (tri_slo [(1,_)] rfl (aa (ai rfl rfl (aD rfl rfl rfl (triL_nilN (av rfl (fun h1=>?_) (fun h1=>?_))))))))))))
   · skip
     refine ae (aa (o_assignN rfl rfl (aq (ap (an (ap (an (ap (an (ap (an (ba rfl rfl ?_)))))))))))); exact fun w1 hw1=>⟨congrArg (fun b=>Ending.returned (.int .i64 b)) (by unfold sgn; (repeat' split)<;>first | rfl | omega),hw1.chg⟩
   · skip
     refine ao (am (ag (ae (aa (ai rfl rfl (aD rfl rfl rfl (triL_nilN (av rfl (fun h2=>?_) (fun h2=>?_)))))))))
     · skip
       refine ae (au [] (.nil _) (aa (o_assignN rfl rfl (aq (ap (an (ap (an (ap (an (ba rfl rfl ?_))))))))))); exact fun w1 hw1=>⟨congrArg (fun b=>Ending.returned (.int .i64 b)) (by unfold sgn; (repeat' split)<;>first | rfl | omega),hw1.chg⟩
     · skip
       refine ao (am (ag (ae (ae (au [] (.nil _) (aa (o_assignN rfl rfl (aq (an (ap (an (ap (an (ba rfl rfl ?_)))))))))))))); exact fun w1 hw1=>⟨congrArg (fun b=>Ending.returned (.int .i64 b)) (by unfold sgn; (repeat' split)<;>first | rfl | omega),hw1.chg⟩
 · skip
   refine ao (ag (ae (ae (tri_slo [(5,_),(1,_)] rfl (aa (aD rfl rfl rfl (o_assignN rfl rfl (av rfl (fun h1=>?_) (fun h1=>?_)))))))))
   · skip
     refine bu (ax (ax (bN rfl (ax (aP (ag (ae (aa (ai rfl rfl (aD rfl rfl rfl (triL_nilN (av rfl (fun h3=>?_) (fun h3=>?_)))))))))))))
     · skip
       refine ae (au [] (.nil _) (aa (o_assignN rfl rfl (aq (ap (an (ap (an (ap (an (ba rfl rfl ?_))))))))))); exact fun w1 hw1=>⟨congrArg (fun b=>Ending.returned (.int .i64 b)) (by unfold sgn; (repeat' split)<;>first | rfl | omega),hw1.chg⟩
     · skip
       refine ao (am (ag (ae (ae (au [] (.nil _) (aa (o_assignN rfl rfl (aq (an (ap (an (ap (an (ba rfl rfl ?_)))))))))))))); exact fun w1 hw1=>⟨congrArg (fun b=>Ending.returned (.int .i64 b)) (by unfold sgn; (repeat' split)<;>first | rfl | omega),hw1.chg⟩
   · skip
     refine ao (ag (ae (cz (ι:=Bool) (fun j=>[(1,.int .u8 d),(5,.int .u8 c),(10,.bool j)]) (fun j=>[]) (fun j=>j=decide (c=40∨c=41∨c=44∨c=46∨c=59∨c=61∨c=43∨c=45∨c=42∨c=47∨c=37)) ?_ (fun j hj=>?_))))
     · skip
       refine ae (aa (aD rfl rfl rfl (o_assignN rfl rfl (av rfl (fun g5=>?_) (fun g5=>?_)))))
       · skip
         exact ao (ag (⟨true,(.cons rfl (.cons rfl (.cons (congrArg (fun b=>some (Value.bool b)) (by simp [*])) (.nil _)))),fun _ h=>h,(by simp [*])⟩))
       · skip
         refine ae (tri_slo [(5,_),(1,_)] rfl (aa (aD rfl rfl rfl (o_assignN rfl rfl (av rfl (fun g6=>?_) (fun g6=>?_))))))
         · skip
           exact ao (ag (⟨true,(.cons rfl (.cons rfl (.cons (congrArg (fun b=>some (Value.bool b)) (by simp [*])) (.nil _)))),fun _ h=>h,(by simp [*])⟩))
         · skip
           refine ae (aa (aD rfl rfl rfl (o_assignN rfl rfl (av rfl (fun g7=>?_) (fun g7=>?_)))))
           · skip
             exact ao (ag (⟨true,(.cons rfl (.cons rfl (.cons (congrArg (fun b=>some (Value.bool b)) (by simp [*])) (.nil _)))),fun _ h=>h,(by simp [*])⟩))
           · skip
             refine ae (aa (aD rfl rfl rfl (o_assignN rfl rfl (av rfl (fun g8=>?_) (fun g8=>?_)))))
             · skip
               exact ao (ag (⟨true,(.cons rfl (.cons rfl (.cons (congrArg (fun b=>some (Value.bool b)) (by simp [*])) (.nil _)))),fun _ h=>h,(by simp [*])⟩))
             · skip
               refine ae (tri_slo [(5,_),(1,_)] rfl (aa (aD rfl rfl rfl (o_assignN rfl rfl (av rfl (fun g9=>?_) (fun g9=>?_))))))
               · skip
                 exact ao (ag (⟨true,(.cons rfl (.cons rfl (.cons (congrArg (fun b=>some (Value.bool b)) (by simp [*])) (.nil _)))),fun _ h=>h,(by simp [*])⟩))
               · skip
                 refine ae (aa (aD rfl rfl rfl (o_assignN rfl rfl (av rfl (fun g10=>?_) (fun g10=>?_)))))
                 · skip
                   exact ao (ag (⟨true,(.cons rfl (.cons rfl (.cons (congrArg (fun b=>some (Value.bool b)) (by simp [*])) (.nil _)))),fun _ h=>h,(by simp [*])⟩))
                 · skip
                   refine ae (aa (aD rfl rfl rfl (o_assignN rfl rfl (av rfl (fun g11=>?_) (fun g11=>?_)))))
                   · skip
                     exact ao (ag (⟨true,(.cons rfl (.cons rfl (.cons (congrArg (fun b=>some (Value.bool b)) (by simp [*])) (.nil _)))),fun _ h=>h,(by simp [*])⟩))
                   · skip
                     refine ae (tri_slo [(5,_),(1,_)] rfl (aa (aD rfl rfl rfl (o_assignN rfl rfl (av rfl (fun g12=>?_) (fun g12=>?_))))))
                     · skip
                       exact ao (ag (⟨true,(.cons rfl (.cons rfl (.cons (congrArg (fun b=>some (Value.bool b)) (by simp [*])) (.nil _)))),fun _ h=>h,(by simp [*])⟩))
                     · skip
                       refine ae (aa (aD rfl rfl rfl (o_assignN rfl rfl (av rfl (fun g13=>?_) (fun g13=>?_)))))
                       · skip
                         exact ao (ag (⟨true,(.cons rfl (.cons rfl (.cons (congrArg (fun b=>some (Value.bool b)) (by simp [*])) (.nil _)))),fun _ h=>h,(by simp [*])⟩))
                       · skip
                         refine ae (aa (aD rfl rfl rfl (o_assignN rfl rfl (av rfl (fun g14=>?_) (fun g14=>?_)))))
                         · skip
                           exact ao (ag (⟨true,(.cons rfl (.cons rfl (.cons (congrArg (fun b=>some (Value.bool b)) (by simp [*])) (.nil _)))),fun _ h=>h,(by simp [*])⟩))
                         · skip
                           exact tri_slo [(5,_),(1,_)] rfl (aa (aD rfl rfl rfl (o_assignN rfl rfl (⟨decide (c=37),(.cons rfl (.cons rfl (.cons rfl (.nil _)))),fun _ h=>h,(by simp [*])⟩))))
     refine aG rfl (fun h2=>?_) (fun h2=>?_)
     · skip
       have h2:=of_decide_eq_true (hj.symm.trans h2)
       refine bu (ax (ax (bN rfl (ax (bN rfl (ax (aP (ag (ae (ae (aa (o_assignN rfl rfl (aq (an (ap (an (ap (an (ba rfl rfl ?_))))))))))))))))))); exact fun w1 hw1=>⟨congrArg (fun b=>Ending.returned (.int .i64 b)) (by unfold sgn; (repeat' split)<;>first | rfl | omega),hw1.chg⟩
     · skip
       have h2:=of_decide_eq_false (hj.symm.trans h2)
       refine ao (ag (ae (aa (aD rfl rfl rfl (o_assignN rfl rfl (av rfl (fun h4=>?_) (fun h4=>?_)))))))
       · skip
         refine bu (ax (bN rfl (ax (bN rfl (ax (bN rfl (ax (aP (ag (ae (ae (tri_slo [(1,_)] rfl (aa (ai rfl rfl (aD rfl rfl rfl (triL_nilN (av rfl (fun h5=>?_) (fun h5=>?_))))))))))))))))))
         · skip
           refine ae (aa (o_assignN rfl rfl (aq (an (ap (an (ba rfl rfl ?_))))))); exact fun w1 hw1=>⟨congrArg (fun b=>Ending.returned (.int .i64 b)) (by unfold sgn; (repeat' split)<;>first | rfl | omega),hw1.chg⟩
         · skip
           refine ao (ag (bu (aP (ag (ae (aa (o_assignN rfl rfl (aq (ba rfl rfl ?_))))))))); exact fun w1 hw1=>⟨congrArg (fun b=>Ending.returned (.int .i64 b)) (by unfold sgn; (repeat' split)<;>first | rfl | omega),hw1.chg⟩
       · skip
         refine ao (ag (bu (bN rfl (ax (bN rfl (ax (bN rfl (ax (bN rfl (ax (aP (ag (ae (au [] (.nil _) (aa (o_assignN rfl rfl (aq (ba rfl rfl ?_)))))))))))))))))); exact fun w1 hw1=>⟨congrArg (fun b=>Ending.returned (.int .i64 b)) (by unfold sgn; (repeat' split)<;>first | rfl | omega),hw1.chg⟩
end Go.Proofs.YtjbpkcbefmpfgaaGreatDoor
namespace Go.Proofs
open Go.Shelf
def Tryz.lays159_ren:Go.Shelf.Ren:=⟨fun | 159=>86 | 165=>127 | 166=>128 | 167=>129 | 169=>130 | 230=>131 | 204=>132 | 240=>157 | 241=>158 | 197=>159 | 118=>160 | 168=>161 | 270=>162 | 262=>163 | 276=>176 | 277=>177 | 260=>178 | 242=>179 | 313=>180 | 278=>195 | 274=>196 | 275=>197 | n=>n,fun | 9=>9 | 4=>4 | 3=>3 | 5=>5 | 72=>165 | 0=>0 | 76=>166 | 75=>46 | 107=>170 | 70=>163 | 20=>20 | 37=>65 | 127=>202 | 21=>21 | 105=>203 | 164=>142 | 162=>222 | 203=>220 | 119=>236 | 46=>226 | 139=>239 | 138=>238 | 51=>232 | 160=>240 | 208=>251 | 206=>249 | 80=>135 | n=>n,fun | 13=>1 | 3=>4 | 4=>5 | n=>n⟩
theorem Tryz.lays159:Go.Proofs.Lays.n159 Tryz.prog Tryz.lays159_ren:={
 mixed:=by kernel_rfl
 f118:=Tryz.func160.trans (congrArg some (by kernel_rfl))
 f159:=Tryz.func86.trans (congrArg some (by kernel_rfl))
 f165:=Tryz.func127.trans (congrArg some (by kernel_rfl))
 f166:=Tryz.func128.trans (congrArg some (by kernel_rfl))
 f167:=Tryz.func129.trans (congrArg some (by kernel_rfl))
 f168:=Tryz.func161.trans (congrArg some (by kernel_rfl))
 f169:=Tryz.func130.trans (congrArg some (by kernel_rfl))
 f197:=Tryz.func159.trans (congrArg some (by kernel_rfl))
 f204:=Tryz.func132.trans (congrArg some (by kernel_rfl))
 f230:=Tryz.func131.trans (congrArg some (by kernel_rfl))
 f240:=Tryz.func157.trans (congrArg some (by kernel_rfl))
 f241:=Tryz.func158.trans (congrArg some (by kernel_rfl))
 f242:=Tryz.func179.trans (congrArg some (by kernel_rfl))
 f260:=Tryz.func178.trans (congrArg some (by kernel_rfl))
 f262:=Tryz.func163.trans (congrArg some (by kernel_rfl))
 f270:=Tryz.func162.trans (congrArg some (by kernel_rfl))
 f274:=Tryz.func196.trans (congrArg some (by kernel_rfl))
 f275:=Tryz.func197.trans (congrArg some (by kernel_rfl))
 f276:=Tryz.func176.trans (congrArg some (by kernel_rfl))
 f277:=Tryz.func177.trans (congrArg some (by kernel_rfl))
 f278:=Tryz.func195.trans (congrArg some (by kernel_rfl))
 f313:=Tryz.func180.trans (congrArg some (by kernel_rfl))
 t0:=Tryz.underlying0
 a0:=Tryz.isAgg0
 z0:=Tryz.sizeOf0
 v0:=Tryz.zeroValue0
 t3:=Tryz.underlying3
 a3:=Tryz.isAgg3
 z3:=Tryz.sizeOf3
 v3:=Tryz.zeroValue3
 t4:=Tryz.underlying4
 a4:=Tryz.isAgg4
 z4:=Tryz.sizeOf4
 v4:=Tryz.zeroValue4
 t5:=Tryz.underlying5
 a5:=Tryz.isAgg5
 z5:=Tryz.sizeOf5
 v5:=Tryz.zeroValue5
 t9:=Tryz.underlying9
 a9:=Tryz.isAgg9
 z9:=Tryz.sizeOf9
 v9:=Tryz.zeroValue9
 t20:=Tryz.underlying20
 a20:=Tryz.isAgg20
 z20:=Tryz.sizeOf20
 v20:=Tryz.zeroValue20
 t21:=Tryz.underlying21
 a21:=Tryz.isAgg21
 z21:=Tryz.sizeOf21
 v21:=Tryz.zeroValue21
 t37:=Tryz.underlying65
 a37:=Tryz.isAgg65
 z37:=Tryz.sizeOf65
 v37:=Tryz.zeroValue65
 t46:=Tryz.underlying226
 a46:=Tryz.isAgg226
 z46:=Tryz.sizeOf226
 v46:=Tryz.zeroValue226
 t51:=Tryz.underlying232
 a51:=Tryz.isAgg232
 z51:=Tryz.sizeOf232
 v51:=Tryz.zeroValue232
 t70:=Tryz.underlying163
 a70:=Tryz.isAgg163
 z70:=Tryz.sizeOf163
 v70:=Tryz.zeroValue163
 t72:=Tryz.underlying165
 a72:=Tryz.isAgg165
 z72:=Tryz.sizeOf165
 v72:=Tryz.zeroValue165
 t75:=Tryz.underlying46
 a75:=Tryz.isAgg46
 z75:=Tryz.sizeOf46
 v75:=Tryz.zeroValue46
 t76:=Tryz.underlying166
 a76:=Tryz.isAgg166
 z76:=Tryz.sizeOf166
 v76:=Tryz.zeroValue166
 t105:=Tryz.underlying203
 a105:=Tryz.isAgg203
 z105:=Tryz.sizeOf203
 v105:=Tryz.zeroValue203
 t107:=Tryz.underlying170
 a107:=Tryz.isAgg170
 z107:=Tryz.sizeOf170
 v107:=Tryz.zeroValue170
 t119:=Tryz.underlying236
 a119:=Tryz.isAgg236
 z119:=Tryz.sizeOf236
 t127:=Tryz.underlying202
 a127:=Tryz.isAgg202
 z127:=Tryz.sizeOf202
 v127:=Tryz.zeroValue202
 t138:=Tryz.underlying238
 a138:=Tryz.isAgg238
 z138:=Tryz.sizeOf238
 v138:=Tryz.zeroValue238
 t139:=Tryz.underlying239
 a139:=Tryz.isAgg239
 z139:=Tryz.sizeOf239
 v139:=Tryz.zeroValue239
 t160:=Tryz.underlying240
 a160:=Tryz.isAgg240
 z160:=Tryz.sizeOf240
 v160:=Tryz.zeroValue240
 t162:=Tryz.underlying222
 a162:=Tryz.isAgg222
 z162:=Tryz.sizeOf222
 v162:=Tryz.zeroValue222
 t164:=Tryz.underlying142
 a164:=Tryz.isAgg142
 z164:=Tryz.sizeOf142
 v164:=Tryz.zeroValue142
 t203:=Tryz.underlying220
 a203:=Tryz.isAgg220
 z203:=Tryz.sizeOf220
 v203:=Tryz.zeroValue220
 t206:=Tryz.underlying249
 a206:=Tryz.isAgg249
 z206:=Tryz.sizeOf249
 v206:=Tryz.zeroValue249
 t208:=Tryz.underlying251
 a208:=Tryz.isAgg251
 z208:=Tryz.sizeOf251
 v208:=Tryz.zeroValue251
 g3:=by kernel_rfl
 g4:=by kernel_rfl
 g13:=by kernel_rfl }
theorem Tryz.Builder_Extra_159:Builder.Extra Tryz.prog Tryz.lays159_ren:={
 sizeBuilder:=by kernel_rfl
 liesBuilder:=by kernel_rfl
 t5:=Tryz.underlying5
 a5:=Tryz.isAgg5
 z5:=Tryz.sizeOf5
 v5:=Tryz.zeroValue5
 infoByte:=by kernel_rfl
 cellsByte:=by kernel_rfl
 sizeByte:=by kernel_rfl
 neB5:=by decide }
def Tryz.lays137_ren:Go.Shelf.Ren:=⟨fun | 137=>126 | 217=>156 | 266=>175 | n=>n,fun | 9=>9 | 5=>5 | 3=>3 | n=>n,fun | n=>n⟩
theorem Tryz.lays137:Go.Proofs.Lays.n137 Tryz.prog Tryz.lays137_ren:={
 mixed:=by kernel_rfl
 f137:=Tryz.func126.trans (congrArg some (by kernel_rfl))
 f217:=Tryz.func156.trans (congrArg some (by kernel_rfl))
 f266:=Tryz.func175.trans (congrArg some (by kernel_rfl))
 t3:=Tryz.underlying3
 a3:=Tryz.isAgg3
 z3:=Tryz.sizeOf3
 v3:=Tryz.zeroValue3
 t5:=Tryz.underlying5
 a5:=Tryz.isAgg5
 z5:=Tryz.sizeOf5
 v5:=Tryz.zeroValue5
 t9:=Tryz.underlying9
 a9:=Tryz.isAgg9
 z9:=Tryz.sizeOf9
 v9:=Tryz.zeroValue9 }
def Tryz.laysM171_ren:Go.Shelf.Ren:=⟨fun | 171=>121 | 243=>153 | 246=>148 | 283=>169 | 284=>170 | 285=>171 | 286=>172 | 129=>188 | 317=>187 | 318=>189 | 319=>190 | 320=>191 | 337=>204 | 338=>205 | n=>n,fun | 3=>3 | 9=>9 | 2=>2 | 4=>4 | 171=>211 | 0=>0 | 53=>200 | 37=>65 | 5=>5 | 173=>214 | 212=>231 | 51=>232 | 20=>20 | 213=>233 | 46=>226 | 232=>255 | 233=>256 | n=>n,fun | 17=>2 | 18=>8 | 19=>9 | n=>n⟩
theorem Tryz.laysM171:Go.Proofs.LaysM.n171 Tryz.prog Tryz.laysM171_ren:={
 mixed:=by kernel_rfl
 f129:=Tryz.func188.trans (congrArg some (by kernel_rfl))
 f171:=Tryz.func121.trans (congrArg some (by kernel_rfl))
 f243:=Tryz.func153.trans (congrArg some (by kernel_rfl))
 f246:=Tryz.func148.trans (congrArg some (by kernel_rfl))
 f283:=Tryz.func169.trans (congrArg some (by kernel_rfl))
 f284:=Tryz.func170.trans (congrArg some (by kernel_rfl))
 f285:=Tryz.func171.trans (congrArg some (by kernel_rfl))
 f286:=Tryz.func172.trans (congrArg some (by kernel_rfl))
 f317:=Tryz.func187.trans (congrArg some (by kernel_rfl))
 f318:=Tryz.func189.trans (congrArg some (by kernel_rfl))
 f319:=Tryz.func190.trans (congrArg some (by kernel_rfl))
 f320:=Tryz.func191.trans (congrArg some (by kernel_rfl))
 f337:=Tryz.func204.trans (congrArg some (by kernel_rfl))
 f338:=Tryz.func205.trans (congrArg some (by kernel_rfl))
 t0:=Tryz.underlying0
 a0:=Tryz.isAgg0
 z0:=Tryz.sizeOf0
 v0:=Tryz.zeroValue0
 t2:=Tryz.underlying2
 a2:=Tryz.isAgg2
 z2:=Tryz.sizeOf2
 v2:=Tryz.zeroValue2
 t3:=Tryz.underlying3
 a3:=Tryz.isAgg3
 z3:=Tryz.sizeOf3
 v3:=Tryz.zeroValue3
 t4:=Tryz.underlying4
 a4:=Tryz.isAgg4
 z4:=Tryz.sizeOf4
 v4:=Tryz.zeroValue4
 t5:=Tryz.underlying5
 a5:=Tryz.isAgg5
 z5:=Tryz.sizeOf5
 v5:=Tryz.zeroValue5
 t9:=Tryz.underlying9
 a9:=Tryz.isAgg9
 z9:=Tryz.sizeOf9
 v9:=Tryz.zeroValue9
 t20:=Tryz.underlying20
 a20:=Tryz.isAgg20
 z20:=Tryz.sizeOf20
 v20:=Tryz.zeroValue20
 t37:=Tryz.underlying65
 a37:=Tryz.isAgg65
 z37:=Tryz.sizeOf65
 v37:=Tryz.zeroValue65
 t46:=Tryz.underlying226
 a46:=Tryz.isAgg226
 z46:=Tryz.sizeOf226
 v46:=Tryz.zeroValue226
 t51:=Tryz.underlying232
 a51:=Tryz.isAgg232
 z51:=Tryz.sizeOf232
 v51:=Tryz.zeroValue232
 t53:=Tryz.underlying200
 a53:=Tryz.isAgg200
 z53:=Tryz.sizeOf200
 v53:=Tryz.zeroValue200
 t171:=Tryz.underlying211
 a171:=Tryz.isAgg211
 z171:=Tryz.sizeOf211
 v171:=Tryz.zeroValue211
 t173:=Tryz.underlying214
 a173:=Tryz.isAgg214
 z173:=Tryz.sizeOf214
 v173:=Tryz.zeroValue214
 t212:=Tryz.underlying231
 a212:=Tryz.isAgg231
 z212:=Tryz.sizeOf231
 v212:=Tryz.zeroValue231
 t213:=Tryz.underlying233
 a213:=Tryz.isAgg233
 z213:=Tryz.sizeOf233
 t232:=Tryz.underlying255
 a232:=Tryz.isAgg255
 z232:=Tryz.sizeOf255
 v232:=Tryz.zeroValue255
 t233:=Tryz.underlying256
 a233:=Tryz.isAgg256
 z233:=Tryz.sizeOf256
 v233:=Tryz.zeroValue256
 g17:=by kernel_rfl
 g18:=by kernel_rfl
 g19:=by kernel_rfl
 i0:=by kernel_rfl
 i2:=by kernel_rfl
 i3:=by kernel_rfl
 i4:=by kernel_rfl
 i5:=by kernel_rfl
 i9:=by kernel_rfl
 i20:=by kernel_rfl
 i37:=by kernel_rfl
 i46:=by kernel_rfl
 i51:=by kernel_rfl
 i53:=by kernel_rfl
 i171:=by kernel_rfl
 i173:=by kernel_rfl
 i212:=by kernel_rfl
 i232:=by kernel_rfl
 i233:=by kernel_rfl
 m17:=by kernel_rfl
 m18:=by kernel_rfl
 m19:=by kernel_rfl }
def Tryz.laysM173_ren:Go.Shelf.Ren:=⟨fun | 173=>115 | 246=>148 | 283=>169 | 284=>170 | 285=>171 | 286=>172 | 129=>188 | 317=>187 | 318=>189 | 319=>190 | 320=>191 | 337=>204 | 338=>205 | n=>n,fun | 2=>2 | 3=>3 | 9=>9 | 4=>4 | 171=>211 | 0=>0 | 53=>200 | 37=>65 | 5=>5 | 173=>214 | 212=>231 | 51=>232 | 20=>20 | 213=>233 | 46=>226 | 232=>255 | 233=>256 | n=>n,fun | 17=>2 | 18=>8 | 19=>9 | n=>n⟩
theorem Tryz.laysM173:Go.Proofs.LaysM.n173 Tryz.prog Tryz.laysM173_ren:={
 mixed:=by kernel_rfl
 f129:=Tryz.func188.trans (congrArg some (by kernel_rfl))
 f173:=Tryz.func115.trans (congrArg some (by kernel_rfl))
 f246:=Tryz.func148.trans (congrArg some (by kernel_rfl))
 f283:=Tryz.func169.trans (congrArg some (by kernel_rfl))
 f284:=Tryz.func170.trans (congrArg some (by kernel_rfl))
 f285:=Tryz.func171.trans (congrArg some (by kernel_rfl))
 f286:=Tryz.func172.trans (congrArg some (by kernel_rfl))
 f317:=Tryz.func187.trans (congrArg some (by kernel_rfl))
 f318:=Tryz.func189.trans (congrArg some (by kernel_rfl))
 f319:=Tryz.func190.trans (congrArg some (by kernel_rfl))
 f320:=Tryz.func191.trans (congrArg some (by kernel_rfl))
 f337:=Tryz.func204.trans (congrArg some (by kernel_rfl))
 f338:=Tryz.func205.trans (congrArg some (by kernel_rfl))
 t0:=Tryz.underlying0
 a0:=Tryz.isAgg0
 z0:=Tryz.sizeOf0
 v0:=Tryz.zeroValue0
 t2:=Tryz.underlying2
 a2:=Tryz.isAgg2
 z2:=Tryz.sizeOf2
 v2:=Tryz.zeroValue2
 t3:=Tryz.underlying3
 a3:=Tryz.isAgg3
 z3:=Tryz.sizeOf3
 v3:=Tryz.zeroValue3
 t4:=Tryz.underlying4
 a4:=Tryz.isAgg4
 z4:=Tryz.sizeOf4
 v4:=Tryz.zeroValue4
 t5:=Tryz.underlying5
 a5:=Tryz.isAgg5
 z5:=Tryz.sizeOf5
 v5:=Tryz.zeroValue5
 t9:=Tryz.underlying9
 a9:=Tryz.isAgg9
 z9:=Tryz.sizeOf9
 v9:=Tryz.zeroValue9
 t20:=Tryz.underlying20
 a20:=Tryz.isAgg20
 z20:=Tryz.sizeOf20
 v20:=Tryz.zeroValue20
 t37:=Tryz.underlying65
 a37:=Tryz.isAgg65
 z37:=Tryz.sizeOf65
 v37:=Tryz.zeroValue65
 t46:=Tryz.underlying226
 a46:=Tryz.isAgg226
 z46:=Tryz.sizeOf226
 v46:=Tryz.zeroValue226
 t51:=Tryz.underlying232
 a51:=Tryz.isAgg232
 z51:=Tryz.sizeOf232
 v51:=Tryz.zeroValue232
 t53:=Tryz.underlying200
 a53:=Tryz.isAgg200
 z53:=Tryz.sizeOf200
 v53:=Tryz.zeroValue200
 t171:=Tryz.underlying211
 a171:=Tryz.isAgg211
 z171:=Tryz.sizeOf211
 v171:=Tryz.zeroValue211
 t173:=Tryz.underlying214
 a173:=Tryz.isAgg214
 z173:=Tryz.sizeOf214
 v173:=Tryz.zeroValue214
 t212:=Tryz.underlying231
 a212:=Tryz.isAgg231
 z212:=Tryz.sizeOf231
 v212:=Tryz.zeroValue231
 t213:=Tryz.underlying233
 a213:=Tryz.isAgg233
 z213:=Tryz.sizeOf233
 t232:=Tryz.underlying255
 a232:=Tryz.isAgg255
 z232:=Tryz.sizeOf255
 v232:=Tryz.zeroValue255
 t233:=Tryz.underlying256
 a233:=Tryz.isAgg256
 z233:=Tryz.sizeOf256
 v233:=Tryz.zeroValue256
 g17:=by kernel_rfl
 g18:=by kernel_rfl
 g19:=by kernel_rfl
 i0:=by kernel_rfl
 i2:=by kernel_rfl
 i3:=by kernel_rfl
 i4:=by kernel_rfl
 i5:=by kernel_rfl
 i9:=by kernel_rfl
 i20:=by kernel_rfl
 i37:=by kernel_rfl
 i46:=by kernel_rfl
 i51:=by kernel_rfl
 i53:=by kernel_rfl
 i171:=by kernel_rfl
 i173:=by kernel_rfl
 i212:=by kernel_rfl
 i232:=by kernel_rfl
 i233:=by kernel_rfl
 m17:=by kernel_rfl
 m18:=by kernel_rfl
 m19:=by kernel_rfl }
def Tryz.laysC172_ren:Go.Shelf.Ren:=⟨fun | 172=>145 | 244=>168 | 245=>165 | 247=>164 | 279=>182 | 280=>183 | 281=>184 | 282=>185 | 287=>181 | 316=>200 | 171=>121 | 205=>201 | 321=>198 | 322=>199 | 243=>153 | 246=>148 | 283=>169 | 284=>170 | 285=>171 | 286=>172 | 129=>188 | 317=>187 | 318=>189 | 319=>190 | 320=>191 | 337=>204 | 338=>205 | n=>n,fun | 9=>9 | 3=>3 | 75=>46 | 76=>166 | 4=>4 | 5=>5 | 167=>223 | 37=>65 | 0=>0 | 85=>171 | 2=>2 | 168=>227 | 53=>200 | 175=>224 | 46=>226 | 210=>245 | 127=>202 | 145=>254 | 143=>252 | 21=>21 | 171=>211 | 173=>214 | 212=>231 | 51=>232 | 20=>20 | 213=>233 | 232=>255 | 233=>256 | 80=>135 | n=>n,fun | 15=>6 | 16=>7 | 17=>2 | 18=>8 | 19=>9 | n=>n⟩
theorem Tryz.laysC172:Go.Proofs.LaysC.n172 Tryz.prog Tryz.laysC172_ren:={
 mixed:=by kernel_rfl
 f129:=Tryz.func188.trans (congrArg some (by kernel_rfl))
 f171:=Tryz.func121.trans (congrArg some (by kernel_rfl))
 f172:=Tryz.func145.trans (congrArg some (by kernel_rfl))
 f205:=Tryz.func201.trans (congrArg some (by kernel_rfl))
 f243:=Tryz.func153.trans (congrArg some (by kernel_rfl))
 f244:=Tryz.func168.trans (congrArg some (by kernel_rfl))
 f245:=Tryz.func165.trans (congrArg some (by kernel_rfl))
 f246:=Tryz.func148.trans (congrArg some (by kernel_rfl))
 f247:=Tryz.func164.trans (congrArg some (by kernel_rfl))
 f279:=Tryz.func182.trans (congrArg some (by kernel_rfl))
 f280:=Tryz.func183.trans (congrArg some (by kernel_rfl))
 f281:=Tryz.func184.trans (congrArg some (by kernel_rfl))
 f282:=Tryz.func185.trans (congrArg some (by kernel_rfl))
 f283:=Tryz.func169.trans (congrArg some (by kernel_rfl))
 f284:=Tryz.func170.trans (congrArg some (by kernel_rfl))
 f285:=Tryz.func171.trans (congrArg some (by kernel_rfl))
 f286:=Tryz.func172.trans (congrArg some (by kernel_rfl))
 f287:=Tryz.func181.trans (congrArg some (by kernel_rfl))
 f316:=Tryz.func200.trans (congrArg some (by kernel_rfl))
 f317:=Tryz.func187.trans (congrArg some (by kernel_rfl))
 f318:=Tryz.func189.trans (congrArg some (by kernel_rfl))
 f319:=Tryz.func190.trans (congrArg some (by kernel_rfl))
 f320:=Tryz.func191.trans (congrArg some (by kernel_rfl))
 f321:=Tryz.func198.trans (congrArg some (by kernel_rfl))
 f322:=Tryz.func199.trans (congrArg some (by kernel_rfl))
 f337:=Tryz.func204.trans (congrArg some (by kernel_rfl))
 f338:=Tryz.func205.trans (congrArg some (by kernel_rfl))
 t0:=Tryz.underlying0
 a0:=Tryz.isAgg0
 z0:=Tryz.sizeOf0
 v0:=Tryz.zeroValue0
 t2:=Tryz.underlying2
 a2:=Tryz.isAgg2
 z2:=Tryz.sizeOf2
 v2:=Tryz.zeroValue2
 t3:=Tryz.underlying3
 a3:=Tryz.isAgg3
 z3:=Tryz.sizeOf3
 v3:=Tryz.zeroValue3
 t4:=Tryz.underlying4
 a4:=Tryz.isAgg4
 z4:=Tryz.sizeOf4
 v4:=Tryz.zeroValue4
 t5:=Tryz.underlying5
 a5:=Tryz.isAgg5
 z5:=Tryz.sizeOf5
 v5:=Tryz.zeroValue5
 t9:=Tryz.underlying9
 a9:=Tryz.isAgg9
 z9:=Tryz.sizeOf9
 v9:=Tryz.zeroValue9
 t20:=Tryz.underlying20
 a20:=Tryz.isAgg20
 z20:=Tryz.sizeOf20
 v20:=Tryz.zeroValue20
 t21:=Tryz.underlying21
 a21:=Tryz.isAgg21
 z21:=Tryz.sizeOf21
 v21:=Tryz.zeroValue21
 t37:=Tryz.underlying65
 a37:=Tryz.isAgg65
 z37:=Tryz.sizeOf65
 v37:=Tryz.zeroValue65
 t46:=Tryz.underlying226
 a46:=Tryz.isAgg226
 z46:=Tryz.sizeOf226
 v46:=Tryz.zeroValue226
 t51:=Tryz.underlying232
 a51:=Tryz.isAgg232
 z51:=Tryz.sizeOf232
 v51:=Tryz.zeroValue232
 t53:=Tryz.underlying200
 a53:=Tryz.isAgg200
 z53:=Tryz.sizeOf200
 v53:=Tryz.zeroValue200
 t75:=Tryz.underlying46
 a75:=Tryz.isAgg46
 z75:=Tryz.sizeOf46
 v75:=Tryz.zeroValue46
 t76:=Tryz.underlying166
 a76:=Tryz.isAgg166
 z76:=Tryz.sizeOf166
 v76:=Tryz.zeroValue166
 t85:=Tryz.underlying171
 a85:=Tryz.isAgg171
 z85:=Tryz.sizeOf171
 v85:=Tryz.zeroValue171
 t127:=Tryz.underlying202
 a127:=Tryz.isAgg202
 z127:=Tryz.sizeOf202
 v127:=Tryz.zeroValue202
 t143:=Tryz.underlying252
 a143:=Tryz.isAgg252
 z143:=Tryz.sizeOf252
 v143:=Tryz.zeroValue252
 t145:=Tryz.underlying254
 a145:=Tryz.isAgg254
 z145:=Tryz.sizeOf254
 v145:=Tryz.zeroValue254
 t167:=Tryz.underlying223
 a167:=Tryz.isAgg223
 z167:=Tryz.sizeOf223
 v167:=Tryz.zeroValue223
 t168:=Tryz.underlying227
 a168:=Tryz.isAgg227
 z168:=Tryz.sizeOf227
 v168:=Tryz.zeroValue227
 t171:=Tryz.underlying211
 a171:=Tryz.isAgg211
 z171:=Tryz.sizeOf211
 v171:=Tryz.zeroValue211
 t173:=Tryz.underlying214
 a173:=Tryz.isAgg214
 z173:=Tryz.sizeOf214
 v173:=Tryz.zeroValue214
 t175:=Tryz.underlying224
 a175:=Tryz.isAgg224
 z175:=Tryz.sizeOf224
 v175:=Tryz.zeroValue224
 t210:=Tryz.underlying245
 a210:=Tryz.isAgg245
 z210:=Tryz.sizeOf245
 v210:=Tryz.zeroValue245
 t212:=Tryz.underlying231
 a212:=Tryz.isAgg231
 z212:=Tryz.sizeOf231
 v212:=Tryz.zeroValue231
 t213:=Tryz.underlying233
 a213:=Tryz.isAgg233
 z213:=Tryz.sizeOf233
 t232:=Tryz.underlying255
 a232:=Tryz.isAgg255
 z232:=Tryz.sizeOf255
 v232:=Tryz.zeroValue255
 t233:=Tryz.underlying256
 a233:=Tryz.isAgg256
 z233:=Tryz.sizeOf256
 v233:=Tryz.zeroValue256
 g15:=by kernel_rfl
 g16:=by kernel_rfl
 g17:=by kernel_rfl
 g18:=by kernel_rfl
 g19:=by kernel_rfl
 t80:=Tryz.underlying135
 a80:=Tryz.isAgg135
 z80:=Tryz.sizeOf135
 v80:=Tryz.zeroValue135
 i0:=by kernel_rfl
 i2:=by kernel_rfl
 i3:=by kernel_rfl
 i4:=by kernel_rfl
 i5:=by kernel_rfl
 i9:=by kernel_rfl
 i20:=by kernel_rfl
 i21:=by kernel_rfl
 i37:=by kernel_rfl
 i46:=by kernel_rfl
 i51:=by kernel_rfl
 i53:=by kernel_rfl
 i75:=by kernel_rfl
 i76:=by kernel_rfl
 i80:=by kernel_rfl
 i85:=by kernel_rfl
 i127:=by kernel_rfl
 i143:=by kernel_rfl
 i145:=by kernel_rfl
 i167:=by kernel_rfl
 i168:=by kernel_rfl
 i171:=by kernel_rfl
 i173:=by kernel_rfl
 i175:=by kernel_rfl
 i210:=by kernel_rfl
 i212:=by kernel_rfl
 i232:=by kernel_rfl
 i233:=by kernel_rfl
 m15:=by kernel_rfl
 m16:=by kernel_rfl
 m17:=by kernel_rfl
 m18:=by kernel_rfl
 m19:=by kernel_rfl
 c0:=by kernel_rfl
 c2:=by kernel_rfl
 c3:=by kernel_rfl
 c4:=by kernel_rfl
 c5:=by kernel_rfl
 c9:=by kernel_rfl
 c20:=by kernel_rfl
 c21:=by kernel_rfl
 c37:=by kernel_rfl
 c46:=by kernel_rfl
 c51:=by kernel_rfl
 c53:=by kernel_rfl
 c75:=by kernel_rfl
 c76:=by kernel_rfl
 c80:=by kernel_rfl
 c85:=by kernel_rfl
 c127:=by kernel_rfl
 c143:=by kernel_rfl
 c145:=by kernel_rfl
 c167:=by kernel_rfl
 c168:=by kernel_rfl
 c171:=by kernel_rfl
 c173:=by kernel_rfl
 c175:=by kernel_rfl
 c210:=by kernel_rfl
 c212:=by kernel_rfl
 c213:=by kernel_rfl
 c232:=by kernel_rfl
 c233:=by kernel_rfl }
def Tryz.laysC174_ren:Go.Shelf.Ren:=⟨fun | 174=>133 | 247=>164 | 245=>165 | 287=>181 | 279=>182 | 280=>183 | 281=>184 | 282=>185 | 321=>198 | 322=>199 | 316=>200 | 171=>121 | 205=>201 | 243=>153 | 246=>148 | 283=>169 | 284=>170 | 285=>171 | 286=>172 | 129=>188 | 317=>187 | 318=>189 | 319=>190 | 320=>191 | 337=>204 | 338=>205 | n=>n,fun | 9=>9 | 3=>3 | 2=>2 | 75=>46 | 85=>171 | 4=>4 | 167=>223 | 5=>5 | 53=>200 | 175=>224 | 46=>226 | 168=>227 | 37=>65 | 0=>0 | 210=>245 | 21=>21 | 127=>202 | 145=>254 | 143=>252 | 171=>211 | 173=>214 | 212=>231 | 51=>232 | 20=>20 | 213=>233 | 232=>255 | 233=>256 | 80=>135 | n=>n,fun | 15=>6 | 16=>7 | 17=>2 | 18=>8 | 19=>9 | n=>n⟩
theorem Tryz.laysC174:Go.Proofs.LaysC.n174 Tryz.prog Tryz.laysC174_ren:={
 mixed:=by kernel_rfl
 f129:=Tryz.func188.trans (congrArg some (by kernel_rfl))
 f171:=Tryz.func121.trans (congrArg some (by kernel_rfl))
 f174:=Tryz.func133.trans (congrArg some (by kernel_rfl))
 f205:=Tryz.func201.trans (congrArg some (by kernel_rfl))
 f243:=Tryz.func153.trans (congrArg some (by kernel_rfl))
 f245:=Tryz.func165.trans (congrArg some (by kernel_rfl))
 f246:=Tryz.func148.trans (congrArg some (by kernel_rfl))
 f247:=Tryz.func164.trans (congrArg some (by kernel_rfl))
 f279:=Tryz.func182.trans (congrArg some (by kernel_rfl))
 f280:=Tryz.func183.trans (congrArg some (by kernel_rfl))
 f281:=Tryz.func184.trans (congrArg some (by kernel_rfl))
 f282:=Tryz.func185.trans (congrArg some (by kernel_rfl))
 f283:=Tryz.func169.trans (congrArg some (by kernel_rfl))
 f284:=Tryz.func170.trans (congrArg some (by kernel_rfl))
 f285:=Tryz.func171.trans (congrArg some (by kernel_rfl))
 f286:=Tryz.func172.trans (congrArg some (by kernel_rfl))
 f287:=Tryz.func181.trans (congrArg some (by kernel_rfl))
 f316:=Tryz.func200.trans (congrArg some (by kernel_rfl))
 f317:=Tryz.func187.trans (congrArg some (by kernel_rfl))
 f318:=Tryz.func189.trans (congrArg some (by kernel_rfl))
 f319:=Tryz.func190.trans (congrArg some (by kernel_rfl))
 f320:=Tryz.func191.trans (congrArg some (by kernel_rfl))
 f321:=Tryz.func198.trans (congrArg some (by kernel_rfl))
 f322:=Tryz.func199.trans (congrArg some (by kernel_rfl))
 f337:=Tryz.func204.trans (congrArg some (by kernel_rfl))
 f338:=Tryz.func205.trans (congrArg some (by kernel_rfl))
 t0:=Tryz.underlying0
 a0:=Tryz.isAgg0
 z0:=Tryz.sizeOf0
 v0:=Tryz.zeroValue0
 t2:=Tryz.underlying2
 a2:=Tryz.isAgg2
 z2:=Tryz.sizeOf2
 v2:=Tryz.zeroValue2
 t3:=Tryz.underlying3
 a3:=Tryz.isAgg3
 z3:=Tryz.sizeOf3
 v3:=Tryz.zeroValue3
 t4:=Tryz.underlying4
 a4:=Tryz.isAgg4
 z4:=Tryz.sizeOf4
 v4:=Tryz.zeroValue4
 t5:=Tryz.underlying5
 a5:=Tryz.isAgg5
 z5:=Tryz.sizeOf5
 v5:=Tryz.zeroValue5
 t9:=Tryz.underlying9
 a9:=Tryz.isAgg9
 z9:=Tryz.sizeOf9
 v9:=Tryz.zeroValue9
 t20:=Tryz.underlying20
 a20:=Tryz.isAgg20
 z20:=Tryz.sizeOf20
 v20:=Tryz.zeroValue20
 t21:=Tryz.underlying21
 a21:=Tryz.isAgg21
 z21:=Tryz.sizeOf21
 v21:=Tryz.zeroValue21
 t37:=Tryz.underlying65
 a37:=Tryz.isAgg65
 z37:=Tryz.sizeOf65
 v37:=Tryz.zeroValue65
 t46:=Tryz.underlying226
 a46:=Tryz.isAgg226
 z46:=Tryz.sizeOf226
 v46:=Tryz.zeroValue226
 t51:=Tryz.underlying232
 a51:=Tryz.isAgg232
 z51:=Tryz.sizeOf232
 v51:=Tryz.zeroValue232
 t53:=Tryz.underlying200
 a53:=Tryz.isAgg200
 z53:=Tryz.sizeOf200
 v53:=Tryz.zeroValue200
 t75:=Tryz.underlying46
 a75:=Tryz.isAgg46
 z75:=Tryz.sizeOf46
 v75:=Tryz.zeroValue46
 t85:=Tryz.underlying171
 a85:=Tryz.isAgg171
 z85:=Tryz.sizeOf171
 v85:=Tryz.zeroValue171
 t127:=Tryz.underlying202
 a127:=Tryz.isAgg202
 z127:=Tryz.sizeOf202
 v127:=Tryz.zeroValue202
 t143:=Tryz.underlying252
 a143:=Tryz.isAgg252
 z143:=Tryz.sizeOf252
 v143:=Tryz.zeroValue252
 t145:=Tryz.underlying254
 a145:=Tryz.isAgg254
 z145:=Tryz.sizeOf254
 v145:=Tryz.zeroValue254
 t167:=Tryz.underlying223
 a167:=Tryz.isAgg223
 z167:=Tryz.sizeOf223
 v167:=Tryz.zeroValue223
 t168:=Tryz.underlying227
 a168:=Tryz.isAgg227
 z168:=Tryz.sizeOf227
 v168:=Tryz.zeroValue227
 t171:=Tryz.underlying211
 a171:=Tryz.isAgg211
 z171:=Tryz.sizeOf211
 v171:=Tryz.zeroValue211
 t173:=Tryz.underlying214
 a173:=Tryz.isAgg214
 z173:=Tryz.sizeOf214
 v173:=Tryz.zeroValue214
 t175:=Tryz.underlying224
 a175:=Tryz.isAgg224
 z175:=Tryz.sizeOf224
 v175:=Tryz.zeroValue224
 t210:=Tryz.underlying245
 a210:=Tryz.isAgg245
 z210:=Tryz.sizeOf245
 v210:=Tryz.zeroValue245
 t212:=Tryz.underlying231
 a212:=Tryz.isAgg231
 z212:=Tryz.sizeOf231
 v212:=Tryz.zeroValue231
 t213:=Tryz.underlying233
 a213:=Tryz.isAgg233
 z213:=Tryz.sizeOf233
 t232:=Tryz.underlying255
 a232:=Tryz.isAgg255
 z232:=Tryz.sizeOf255
 v232:=Tryz.zeroValue255
 t233:=Tryz.underlying256
 a233:=Tryz.isAgg256
 z233:=Tryz.sizeOf256
 v233:=Tryz.zeroValue256
 g15:=by kernel_rfl
 g16:=by kernel_rfl
 g17:=by kernel_rfl
 g18:=by kernel_rfl
 g19:=by kernel_rfl
 t80:=Tryz.underlying135
 a80:=Tryz.isAgg135
 z80:=Tryz.sizeOf135
 v80:=Tryz.zeroValue135
 i0:=by kernel_rfl
 i2:=by kernel_rfl
 i3:=by kernel_rfl
 i4:=by kernel_rfl
 i5:=by kernel_rfl
 i9:=by kernel_rfl
 i20:=by kernel_rfl
 i21:=by kernel_rfl
 i37:=by kernel_rfl
 i46:=by kernel_rfl
 i51:=by kernel_rfl
 i53:=by kernel_rfl
 i75:=by kernel_rfl
 i80:=by kernel_rfl
 i85:=by kernel_rfl
 i127:=by kernel_rfl
 i143:=by kernel_rfl
 i145:=by kernel_rfl
 i167:=by kernel_rfl
 i168:=by kernel_rfl
 i171:=by kernel_rfl
 i173:=by kernel_rfl
 i175:=by kernel_rfl
 i210:=by kernel_rfl
 i212:=by kernel_rfl
 i232:=by kernel_rfl
 i233:=by kernel_rfl
 m15:=by kernel_rfl
 m16:=by kernel_rfl
 m17:=by kernel_rfl
 m18:=by kernel_rfl
 m19:=by kernel_rfl
 c0:=by kernel_rfl
 c2:=by kernel_rfl
 c3:=by kernel_rfl
 c4:=by kernel_rfl
 c5:=by kernel_rfl
 c9:=by kernel_rfl
 c20:=by kernel_rfl
 c21:=by kernel_rfl
 c37:=by kernel_rfl
 c46:=by kernel_rfl
 c51:=by kernel_rfl
 c53:=by kernel_rfl
 c75:=by kernel_rfl
 c80:=by kernel_rfl
 c85:=by kernel_rfl
 c127:=by kernel_rfl
 c143:=by kernel_rfl
 c145:=by kernel_rfl
 c167:=by kernel_rfl
 c168:=by kernel_rfl
 c171:=by kernel_rfl
 c173:=by kernel_rfl
 c175:=by kernel_rfl
 c210:=by kernel_rfl
 c212:=by kernel_rfl
 c213:=by kernel_rfl
 c232:=by kernel_rfl
 c233:=by kernel_rfl }
def Tryz.lays99_ren:Go.Shelf.Ren:=⟨fun | 99=>125 | 206=>155 | n=>n,fun | 9=>9 | 4=>4 | 3=>3 | n=>n,fun | n=>n⟩
theorem Tryz.lays99:Go.Proofs.Lays.n99 Tryz.prog Tryz.lays99_ren:={
 mixed:=by kernel_rfl
 f99:=Tryz.func125.trans (congrArg some (by kernel_rfl))
 f206:=Tryz.func155.trans (congrArg some (by kernel_rfl))
 t3:=Tryz.underlying3
 a3:=Tryz.isAgg3
 z3:=Tryz.sizeOf3
 v3:=Tryz.zeroValue3
 t4:=Tryz.underlying4
 a4:=Tryz.isAgg4
 z4:=Tryz.sizeOf4
 v4:=Tryz.zeroValue4
 t9:=Tryz.underlying9
 a9:=Tryz.isAgg9
 z9:=Tryz.sizeOf9
 v9:=Tryz.zeroValue9 }
def Tryz.lays155_ren:Go.Shelf.Ren:=⟨fun | 155=>116 | 154=>149 | 138=>173 | 165=>127 | 143=>174 | 166=>128 | 197=>159 | 169=>130 | 195=>192 | 218=>193 | 240=>157 | 241=>158 | 219=>194 | 260=>178 | 276=>176 | 277=>177 | 217=>156 | 225=>206 | 224=>207 | 267=>208 | 266=>175 | 314=>210 | n=>n,fun | 9=>9 | 3=>3 | 4=>4 | 72=>165 | 0=>0 | 76=>166 | 105=>203 | 21=>21 | 5=>5 | 70=>163 | 20=>20 | 37=>65 | 75=>46 | 127=>202 | 164=>142 | 46=>226 | 119=>236 | 139=>239 | 138=>238 | 146=>257 | 51=>232 | 80=>135 | n=>n,fun | 1=>3 | 3=>4 | 4=>5 | n=>n⟩
theorem Tryz.lays155:Go.Proofs.Lays.n155 Tryz.prog Tryz.lays155_ren:={
 mixed:=by kernel_rfl
 f138:=Tryz.func173.trans (congrArg some (by kernel_rfl))
 f143:=Tryz.func174.trans (congrArg some (by kernel_rfl))
 f154:=Tryz.func149.trans (congrArg some (by kernel_rfl))
 f155:=Tryz.func116.trans (congrArg some (by kernel_rfl))
 f165:=Tryz.func127.trans (congrArg some (by kernel_rfl))
 f166:=Tryz.func128.trans (congrArg some (by kernel_rfl))
 f169:=Tryz.func130.trans (congrArg some (by kernel_rfl))
 f195:=Tryz.func192.trans (congrArg some (by kernel_rfl))
 f197:=Tryz.func159.trans (congrArg some (by kernel_rfl))
 f217:=Tryz.func156.trans (congrArg some (by kernel_rfl))
 f218:=Tryz.func193.trans (congrArg some (by kernel_rfl))
 f219:=Tryz.func194.trans (congrArg some (by kernel_rfl))
 f224:=Tryz.func207.trans (congrArg some (by kernel_rfl))
 f225:=Tryz.func206.trans (congrArg some (by kernel_rfl))
 f240:=Tryz.func157.trans (congrArg some (by kernel_rfl))
 f241:=Tryz.func158.trans (congrArg some (by kernel_rfl))
 f260:=Tryz.func178.trans (congrArg some (by kernel_rfl))
 f266:=Tryz.func175.trans (congrArg some (by kernel_rfl))
 f267:=Tryz.func208.trans (congrArg some (by kernel_rfl))
 f276:=Tryz.func176.trans (congrArg some (by kernel_rfl))
 f277:=Tryz.func177.trans (congrArg some (by kernel_rfl))
 f314:=Tryz.func210.trans (congrArg some (by kernel_rfl))
 t0:=Tryz.underlying0
 a0:=Tryz.isAgg0
 z0:=Tryz.sizeOf0
 v0:=Tryz.zeroValue0
 t3:=Tryz.underlying3
 a3:=Tryz.isAgg3
 z3:=Tryz.sizeOf3
 v3:=Tryz.zeroValue3
 t4:=Tryz.underlying4
 a4:=Tryz.isAgg4
 z4:=Tryz.sizeOf4
 v4:=Tryz.zeroValue4
 t5:=Tryz.underlying5
 a5:=Tryz.isAgg5
 z5:=Tryz.sizeOf5
 v5:=Tryz.zeroValue5
 t9:=Tryz.underlying9
 a9:=Tryz.isAgg9
 z9:=Tryz.sizeOf9
 v9:=Tryz.zeroValue9
 t20:=Tryz.underlying20
 a20:=Tryz.isAgg20
 z20:=Tryz.sizeOf20
 v20:=Tryz.zeroValue20
 t21:=Tryz.underlying21
 a21:=Tryz.isAgg21
 z21:=Tryz.sizeOf21
 v21:=Tryz.zeroValue21
 t37:=Tryz.underlying65
 a37:=Tryz.isAgg65
 z37:=Tryz.sizeOf65
 v37:=Tryz.zeroValue65
 t46:=Tryz.underlying226
 a46:=Tryz.isAgg226
 z46:=Tryz.sizeOf226
 v46:=Tryz.zeroValue226
 t51:=Tryz.underlying232
 a51:=Tryz.isAgg232
 z51:=Tryz.sizeOf232
 v51:=Tryz.zeroValue232
 t70:=Tryz.underlying163
 a70:=Tryz.isAgg163
 z70:=Tryz.sizeOf163
 v70:=Tryz.zeroValue163
 t72:=Tryz.underlying165
 a72:=Tryz.isAgg165
 z72:=Tryz.sizeOf165
 v72:=Tryz.zeroValue165
 t75:=Tryz.underlying46
 a75:=Tryz.isAgg46
 z75:=Tryz.sizeOf46
 v75:=Tryz.zeroValue46
 t76:=Tryz.underlying166
 a76:=Tryz.isAgg166
 z76:=Tryz.sizeOf166
 v76:=Tryz.zeroValue166
 t105:=Tryz.underlying203
 a105:=Tryz.isAgg203
 z105:=Tryz.sizeOf203
 v105:=Tryz.zeroValue203
 t119:=Tryz.underlying236
 a119:=Tryz.isAgg236
 z119:=Tryz.sizeOf236
 t127:=Tryz.underlying202
 a127:=Tryz.isAgg202
 z127:=Tryz.sizeOf202
 v127:=Tryz.zeroValue202
 t138:=Tryz.underlying238
 a138:=Tryz.isAgg238
 z138:=Tryz.sizeOf238
 v138:=Tryz.zeroValue238
 t139:=Tryz.underlying239
 a139:=Tryz.isAgg239
 z139:=Tryz.sizeOf239
 v139:=Tryz.zeroValue239
 t146:=Tryz.underlying257
 a146:=Tryz.isAgg257
 z146:=Tryz.sizeOf257
 v146:=Tryz.zeroValue257
 t164:=Tryz.underlying142
 a164:=Tryz.isAgg142
 z164:=Tryz.sizeOf142
 v164:=Tryz.zeroValue142
 g1:=by kernel_rfl
 g3:=by kernel_rfl
 g4:=by kernel_rfl }
theorem Tryz.Builder_Extra_155:Builder.Extra Tryz.prog Tryz.lays155_ren:={
 sizeBuilder:=by kernel_rfl
 liesBuilder:=by kernel_rfl
 t5:=Tryz.underlying5
 a5:=Tryz.isAgg5
 z5:=Tryz.sizeOf5
 v5:=Tryz.zeroValue5
 infoByte:=by kernel_rfl
 cellsByte:=by kernel_rfl
 sizeByte:=by kernel_rfl
 neB5:=by decide }
end Go.Proofs
namespace Go.Proofs.YtjbpkcbefmpfgaaGreatDoor
open Go.WK Go.RowKit
structure LE (w:World):Prop where
 syn : ∃ tp p, w.var? Tryz.prog "strconv.ErrSyntax" = some #[.iface tp p]
 rng : ∃ tp p, w.var? Tryz.prog "strconv.ErrRange" = some #[.iface tp p]
theorem var_lt {w:World} {n:String} {g:Nat} {cs:Array Value} (hg:Tryz.prog.globalNamed n=some g) (h:w.var? Tryz.prog n=some cs):g < w.heap.size:=by
 unfold World.var? at h
 rw [hg] at h
 simp only [Option.bind_some] at h
 rcases Nat.lt_or_ge g w.heap.size with hlt | hge
 · exact hlt
 · rw [Array.getElem?_eq_none hge] at h; cases h
theorem wL {w w':World} {n:String} {g:Nat} {cs:Array Value} (hg:Tryz.prog.globalNamed n=some g) (hc:Chg [] w w') (h:w.var? Tryz.prog n=some cs):w'.var? Tryz.prog n=some cs:=var?_below hc.below hg (var_lt hg h) h
theorem gSyn : Tryz.prog.globalNamed "strconv.ErrSyntax" = some 6 := by kernel_rfl
theorem gRng : Tryz.prog.globalNamed "strconv.ErrRange" = some 7 := by kernel_rfl
theorem LE.chg {w w':World} (h:LE w) (hc:Chg [] w w'):LE w':=by
 obtain ⟨⟨t,p,h1⟩,⟨t2,p2,h2⟩⟩:=h
 exact ⟨⟨t,p,wL gSyn hc h1⟩,⟨t2,p2,wL gRng hc h2⟩⟩
theorem ig (l:List UInt8):(B l).data.toList=l:=by simp
theorem low_eq (c:UInt8):Lib.lowerB c=low c:=by
 unfold Lib.lowerB low Lib.isUpperB
 have h1:(65:UInt8)≤c↔65≤c.toNat:=UInt8.le_iff_toNat_le
 have h2:c≤(90:UInt8)↔c.toNat≤90:=UInt8.le_iff_toNat_le
 simp only [Bool.and_eq_true,decide_eq_true_eq,h1,h2]
theorem yG (s:List UInt8) (w:World) (hs:s.length≤140737488355328) (h:∀ c ∈ s,c.toNat < 128):Calls Tryz.prog 86 #[.string (B s)] w (cG w (.string (B (kE s)))):=by
 have h:Calls Tryz.prog 86 #[.string (B s)] w fun e w'=>e=.returned (.string ⟨(Lib.toLowerA (B s).data.toList).toArray⟩)∧Below w.heap.size w w' :=
  Any.strings_ToLower_ascii Tryz.lays159 Tryz.Builder_Extra_159 (B s) w (by rw [dC]; exact hs) (fun j b hb=>by rw [ig] at hb; exact h b (List.mem_of_getElem? hb))
 refine h.mono fun e w' ⟨he,hw⟩=>⟨?_,Chg.of_below hw⟩
 rw [he,ig]
 have e:Lib.toLowerA s=kE s:=by
  unfold Lib.toLowerA kE
  congr 1
  funext c
  exact low_eq c
 rw [e]
theorem vb (s p:List UInt8) (w:World):Calls Tryz.prog 125 #[.string (B s),.string (B p)] w (cG w (.bool (p.isPrefixOf s))):=by
 have h:Calls Tryz.prog 125 #[.string (B s),.string (B p)] w fun e w'=>e=.returned (.bool (Lib.hasPrefix (B s).data.toList (B p).data.toList))∧w'=w:=Any.strings_HasPrefix Tryz.lays99 (B s) (B p) w
 refine h.mono fun e w' ⟨he,hw⟩=>⟨?_,by rw [hw]; exact Chg.refl _ _⟩
 rw [he,ig,ig]; rfl
theorem yH (s:List UInt8) (w:World):Calls Tryz.prog 126 #[.string (B s),.int .u8 10] w (cG w (.int .i64 (Lib.indexByte s 10))):=by
 have h:Calls Tryz.prog 126 #[.string (B s),.int .u8 10] w fun e w'=>e=.returned (.int .i64 (Lib.indexByte (B s).data.toList (10:Int).toNat.toUInt8))∧w'=w:=Any.strings_IndexByte Tryz.lays137 (B s) 10 w
 refine h.mono fun e w' ⟨he,hw⟩=>⟨?_,by rw [hw]; exact Chg.refl _ _⟩
 rw [he,ig]; rfl
theorem qP (s:List UInt8) (n:Int) (w:World) (hs:s.length≤281474976710656) (h:Lib.parseIntB 64 s=.ok n):Calls Tryz.prog 133 #[.string (B s),.int .i64 10,.int .i64 64] w (cG w (.tuple #[.int .i64 n,.nilIface])):=by
 have h:Calls Tryz.prog 133 #[.string (B s),.int .i64 10,.int .i64 64] w fun e w'=>e=.returned (.tuple #[.int .i64 n,.nilIface])∧(w'=w∨∃ t,w'=Lib.bytesWorld w 5 t) :=
  Any.strconv_ParseInt_10_at64_ok Tryz.laysC174 (B s) (by rw [dC]; omega) n (by rw [ig]; exact h) w
 refine h.mono fun e w' ⟨he,hw⟩=>⟨he, ?_⟩
 rcases hw with rfl | ⟨t,rfl⟩
 · exact Chg.refl _ _
 · exact Chg.of_below (Lib.bytesWorld_below _ _ _)
theorem lib_bad (s:List UInt8) (w:World) (hs:s.length≤281474976710656) (h:∀ n,Lib.parseIntB 64 s≠.ok n) (hE:LE w):Calls Tryz.prog 133 #[.string (B s),.int .i64 10,.int .i64 64] w fun e w'=>∃ j:Int × Nat,e=.returned (.tuple #[.int .i64 j.1,.iface 227 (.pointer (some ⟨j.2,0,none⟩))])∧Chg [] w w':=by
 obtain ⟨⟨tp,p,h1⟩,⟨t2,p2,h2⟩⟩:=hE
 cases hp:Lib.parseIntB 64 s with
 | ok n=>exact absurd hp (h n)
 | range =>
  have h:Calls Tryz.prog 133 #[.string (B s),.int .i64 10,.int .i64 64] w fun e w'=>∃ N,e=.returned (.tuple #[.int .i64 (Lib.intSat 64 (B s).data.toList),.iface 227 (.pointer (some ⟨N,0,none⟩))])∧w.heap.size≤N∧w'.heap[N]? = some (.cells #[.string ⟨#[80,97,114,115,101,73,110,116]⟩,.string (B s),.iface t2 p2] 245 (0,0))∧Below w.heap.size w w' :=
   Any.strconv_ParseInt_10_at64_range_var Tryz.laysC174 (B s) (by rw [dC]; exact hs) (by rw [ig]; exact hp) t2 p2 w h2
  exact h.mono fun e w' ⟨N,he,_,_,hw⟩=>⟨(_,N),he,Chg.of_below hw⟩
 | _ =>
  have h:Calls Tryz.prog 133 #[.string (B s),.int .i64 10,.int .i64 64] w fun e w'=>∃ N,e=.returned (.tuple #[.int .i64 (0),.iface 227 (.pointer (some ⟨N,0,none⟩))])∧w.heap.size≤N∧w'.heap[N]? = some (.cells #[.string ⟨#[80,97,114,115,101,73,110,116]⟩,.string (B s),.iface tp p] 245 (0,0))∧Below w.heap.size w w' :=
   Any.strconv_ParseInt_10_at64_syntax_var Tryz.laysC174 (B s) (by rw [dC]; exact hs) (by rw [ig]; exact hp) tp p w h1
  exact h.mono fun e w' ⟨N,he,_,_,hw⟩=>⟨(0,N),he,Chg.of_below hw⟩
theorem lib_num (s:List UInt8) (w:World) (hs:s.length≤281474976710656) (hE:LE w):Calls Tryz.prog 133 #[.string (B s),.int .i64 10,.int .i64 64] w fun e w'=>∃ j:Int × Value,sC (kH s) j.2∧e=.returned (.tuple #[.int .i64 j.1,j.2])∧Chg [] w w':=by
 cases hp:kH s with
 | true =>
  obtain ⟨n,hn⟩:=j3.1 hp
  exact (qP s n w hs hn).mono fun e w' ⟨he,hc⟩=>⟨(n,.nilIface),.inl ⟨rfl,rfl⟩,he,hc⟩
 | false=>exact (lib_bad s w hs (xo hp) hE).mono fun e w' ⟨j,he,hc⟩=>⟨(j.1,_),.inr ⟨rfl,_,_,rfl⟩,he,hc⟩
theorem ifE:Tryz.prog.underlying 46=some (.interface (Tryz.prog.methodsAt 46)):=by kernel_rfl
end Go.Proofs.YtjbpkcbefmpfgaaGreatDoor
namespace Go.Proofs.YtjbpkcbefmpfgaaGreatDoor
open Go.WK Go.RowKit 
theorem bR:cF Tryz.prog 3=some false:=by kernel_rfl
theorem bB:cF Tryz.prog 9=some false:=by kernel_rfl
theorem zs5:(Tryz.prog.info? 5).map (fun i=>(i.zero,i.size))=some (some (.int .u8 0),1):=by kernel_rfl
theorem zsb5:(Tryz.prog.info? 5).map (fun i=>(i.zero,i.size,i.bytes))=some (some (.int .u8 0),1,1):=by kernel_rfl
theorem skipK (s:List UInt8) (a:Nat) (w:World) (hs:s.length≤140737488355328) (ha:a≤s.length):Calls Tryz.prog 81 #[.string (B s),.int .i64 (a:Int)] w (cG w (.int .i64 ((a+gap (s.drop a):Nat):Int))):=by
 refine az (args:=[.string (B s),.int .i64 (a:Int)]) (lent:=[]) (H:=[]) Tryz.func81 rfl Tryz.ntmps81 rfl (Sat.start _ _ _ _) ((show Tri _ [(0,_),(1,_)] _ _ _ from ae (aa (o_assignN rfl rfl (ae (ay (bI (ι:=Nat) (F:=fun i=>[(0,.string (B s)),(1,.int .i64 (i:Int))]) (HH:=fun i=>[]) (Pu:=fun i=>i≤s.length∧a+gap (s.drop a)=i+eM false (s.drop i)) (μ:=fun i=>s.length - i) (a) (.cons rfl (.cons rfl (.nil _))) (fun _ h=>h) (⟨ha,rfl⟩) (fun i hi=>ae (ae (aa (ai rfl rfl (ai rfl rfl (hZ Tryz.underlying9 rfl rfl (cR rfl rfl rfl (triL_nilN (av rfl (fun h0=>?_) (fun h0=>?_)))))))))))))))))
 · skip
   refine ao (ag (ay (ae (tri_slo [(0,_),(1,_)] rfl (aa (ai rfl rfl (ai rfl rfl (jl Tryz.underlying9 rfl rfl rfl (by omega) (by omega) (o_assignN rfl rfl (ay (ae (aa (ai rfl rfl (jY _ 32 rfl rfl rfl (ai rfl rfl ?_)))))))))))))))
   refine' bv [_,_] [(5,_),(0,_),(1,_)] (dj:=18) (dr:=20) rfl rfl (fun g1=>?_) ⟨_,rfl,rfl,rfl,(.cons rfl (.cons rfl (.cons rfl (.nil _))))⟩ rfl ?_
   rotate_left
   · skip
     exact ai rfl rfl (jY _ 9 rfl rfl rfl (ab (Piece.mk rfl rfl (.cons rfl (.cons rfl (.cons rfl (.nil _)))) (fun _ h=>h))))
   refine ai rfl rfl ?_
   refine' bv [_,_] [(5,_),(0,_),(1,_)] (dj:=22) (dr:=24) rfl rfl (fun g2=>?_) ⟨_,rfl,rfl,rfl,(.cons rfl (.cons rfl (.cons rfl (.nil _))))⟩ rfl ?_
   rotate_left
   · skip
     exact ai rfl rfl (jY _ 10 rfl rfl rfl (ab (Piece.mk rfl rfl (.cons rfl (.cons rfl (.cons rfl (.nil _)))) (fun _ h=>h))))
   refine ai rfl rfl ?_
   refine' bv [_,_] [(0,_),(1,_)] (dj:=26) (dr:=28) rfl rfl (fun g3=>?_) ⟨_,rfl,rfl,rfl,(.cons rfl (.cons rfl (.nil _)))⟩ rfl ?_
   rotate_left
   · skip
     exact ai rfl rfl (jY _ 13 rfl rfl rfl (ab (Piece.mk rfl rfl (.cons rfl (.cons rfl (.nil _))) (fun _ h=>h))))
   refine o_assignN rfl rfl (aG rfl (fun hb=>?_) (fun hb=>?_))
   · skip
     have hb:lF (s.getD i 0)=true:=hb
     refine aa (ai rfl rfl (bJ rfl rfl rfl (by omega) (aO rfl rfl (ab (am (am (ag ?_)))))))
     have e:=gap_bl (i:=i) (by omega) hb
     exact ⟨i+1,(.cons rfl (.cons rfl (.nil _))),fun _ h=>h,⟨by omega,by omega⟩,by omega⟩
   · skip
     have hb:lF (s.getD i 0)=false:=hb
     refine ae (aa (ai rfl rfl (ai rfl rfl (jy Tryz.underlying9 rfl rfl rfl (by omega) (by omega) (aF (first:=[]) (cap:=[]) rfl rfl rfl Tryz.call125 (fun w1 h1=>vb (s.drop i) [45,45] w1) (o_assignN rfl rfl (aG rfl (fun hp=>?_) (fun hp=>?_))))))))
     · skip
       have hp:([45,45]:List UInt8).isPrefixOf (s.drop i)=true:=hp
       rw [nw] at hp
       simp only [Bool.and_eq_true,decide_eq_true_eq] at hp
       have hp:s.getD i 0=45∧i+1 < s.length∧s.getD (i+1) 0=45:=⟨hp.2.1,hp.1,hp.2.2⟩
       have hx:=cmt_idx (s.drop i)
       have hz:=idx_pos (s:=s) (i:=i) (by omega) (by rw [hp.1]; decide)
       have hl:(s.drop i).length=s.length - i:=List.length_drop
       refine ae (tri_slo [(0,_),(1,_)] rfl (aa (ai rfl rfl (ai rfl rfl (jy Tryz.underlying9 rfl rfl rfl (by omega) (by omega) (aF (first:=[]) (cap:=[]) rfl rfl rfl Tryz.call126 (fun w1 h1=>yH (s.drop i) w1) (o_assignN rfl rfl (ae (ae (tri_slo [(6,_),(0,_),(1,_)] rfl (aa (ai rfl rfl (cR rfl rfl rfl (triL_nilN (av rfl (fun h3=>?_) (fun h3=>?_))))))))))))))))
       · skip
         have hq:=hx.resolve_right (fun ⟨k,hk1,_⟩=>by have h3:Lib.indexByte (s.drop i) 10 < 0:=h3; omega)
         refine ae (tri_slo [(0,_)] rfl (aa (ai rfl rfl (hZ Tryz.underlying9 rfl rfl (o_assignN rfl rfl (aq (an (ap (ap (an (ap (an (ba rfl rfl ?_))))))))))))); exact fun w1 hw1=>⟨congrArg (fun b=>Ending.returned (.int .i64 b)) (by rw [hi.2,vH (by omega) hp,hq.2,hl]; omega),hw1.chg⟩
       · skip
         obtain ⟨k,hk1,hk2,hk3⟩:=hx.resolve_left (fun hk1=>by have h3:¬ Lib.indexByte (s.drop i) 10 < 0:=h3; omega)
         have ek:Value.int .i64 (Lib.indexByte (s.drop i) 10)=.int .i64 (k:Int):=congrArg _ hk1
         rw [ek]
         have hkp:0 < k:=by omega
         exact ao (ag (aa (ai rfl rfl (ai rfl rfl (bJ rfl rfl rfl (by omega) (aO rfl rfl (ab (am (am (ag (⟨i+k,(.cons rfl (.cons rfl (.nil _))),fun _ h=>h,⟨by omega,by rw [hi.2,vH (by omega) hp,hk3,List.drop_drop]; omega⟩,by omega⟩)))))))))))
     · skip
       have hp:([45,45]:List UInt8).isPrefixOf (s.drop i)=false:=hp
       have e:=gap_no (s:=s) (i:=i) (by omega) hb (fun q=>by rw [nw,q.1,q.2.2,decide_eq_true q.2.1] at hp; cases hp)
       refine ae (tri_slo [(1,_)] rfl (aa (ai rfl rfl (o_assignN rfl rfl (aq (ap (ap (an (ap (an (ba rfl rfl ?_))))))))))); exact fun w1 hw1=>⟨congrArg (fun b=>Ending.returned (.int .i64 b)) (by rw [hi.2,e]; rfl),hw1.chg⟩
 · skip
   refine bu (ax (ax (aP (ag (ae (tri_slo [(1,_)] rfl (aa (ai rfl rfl (o_assignN rfl rfl (aq (ba rfl rfl ?_))))))))))); exact fun w1 hw1=>⟨congrArg (fun b=>Ending.returned (.int .i64 b)) (by rw [hi.2,List.drop_eq_nil_of_le (by omega)]; rfl),hw1.chg⟩
theorem peekK (s:List UInt8) (a k b4 b1:Nat) (w:World) (h4:Rd w (some ⟨b4,0,none⟩) [.int .i64 (a:Int)]) (h1:Rd w (some ⟨b1,0,none⟩) [.string (B s)]) (hs:s.length≤140737488355328) (ha:a≤140737488355328) (hk:k≤1):Calls Tryz.prog 80 #[.int .i64 (k:Int),.pointer (some ⟨b4,0,none⟩),.pointer (some ⟨b1,0,none⟩)] w (cG w (kq (s.getD (a+k) 0))):=by
 refine az (args:=[.int .i64 (k:Int),.pointer (some ⟨b4,0,none⟩),.pointer (some ⟨b1,0,none⟩)]) (lent:=[]) (H:=[]) Tryz.func80 rfl Tryz.ntmps80 rfl (Sat.start _ _ _ _) ((show Tri _ [(0,_),(1,_),(2,_)] _ _ _ from ?_))
 have hR4:∀ cx H,cx.w0=w→cx.lent=[]→RdS cx H (some ⟨b4,0,none⟩) [.int .i64 (a:Int)]:=fun cx H q1 q2=>RdS.arg (by rw [q1]; exact h4) q2
 have hR1:∀ cx H,cx.w0=w→cx.lent=[]→RdS cx H (some ⟨b1,0,none⟩) [.string (B s)]:=fun cx H q1 q2=>RdS.arg (by rw [q1]; exact h1) q2
 refine ae (aa (o_assignN rfl rfl (ae (ae (aa (aL (A:=some ⟨b4,0,none⟩) (kk:=0) bR rfl rfl (hR4 _ _ rfl rfl) rfl (ai rfl rfl (bJ rfl rfl rfl (by omega) (aL (A:=some ⟨b1,0,none⟩) (kk:=0) bB rfl rfl (hR1 _ _ rfl rfl) rfl (hZ Tryz.underlying9 rfl rfl (cR rfl rfl rfl (triL_nilN (av rfl (fun h0=>?_) (fun h0=>?_))))))))))))))
 · skip
   refine ae (tri_slo [(0,_),(1,_),(2,_)] rfl (aa (aL (A:=some ⟨b1,0,none⟩) (kk:=0) bB rfl rfl (hR1 _ _ rfl rfl) rfl (aL (A:=some ⟨b4,0,none⟩) (kk:=0) bR rfl rfl (hR4 _ _ rfl rfl) rfl (ai rfl rfl (bJ rfl rfl rfl (by omega) (jl Tryz.underlying9 rfl rfl rfl (by omega) (by omega) (o_assignN rfl rfl (aq (an (ba rfl rfl ?_))))))))))); exact fun w1 hw1=>⟨rfl,hw1.chg⟩
 · skip
   refine ao (ag (ae (au [] (.nil _) (aa (o_assignN rfl rfl (aq (ba rfl rfl ?_)))))))
   have e:s.getD (a+k) 0=0:=by
    rw [List.getD_eq_getElem?_getD,List.getElem?_eq_none (by omega)]; rfl
   exact fun w1 hw1=>⟨by rw [e]; rfl,hw1.chg⟩
theorem numberK (s:List UInt8) (w:World) (hs:s.length≤140737488355328) (hd:be (s.getD 0 0)=true) (hE:LE w):Calls Tryz.prog 87 #[.string (B s)] w (cG w (.tuple #[.int .i64 ((bO be s:Nat):Int),.int .i64 (if fY s (bO be s) then 180 else 0)])):=by
 refine az (args:=[.string (B s)]) (lent:=[]) (H:=[]) Tryz.func87 rfl Tryz.ntmps87 rfl (Sat.start _ _ _ _) ((show Tri _ [(0,_)] _ _ _ from ?_))
 have hn2:=ia be s
 have hl0:0 < s.length:=by
  cases s with
  | nil=>exact absurd hd (by decide)
  | cons=>simp
 have hn1:0 < bO be s:=by
  have e:=ou be s 0 hl0
  rw [if_pos hd,List.drop_zero] at e
  omega
 refine ae (aa (aO rfl rfl (o_assignN rfl rfl (ae (aa (ai rfl rfl (aF (v:=.int .i64 ((bO be s:Nat):Int)) (first:=[]) (cap:=[]) rfl rfl rfl Tryz.call83 (fun w1 h1=>runK s 85 mP w1 (by omega) Tryz.call85 (fun z w=>va z w)) (o_assignN rfl rfl (ae (tri_slo [(4,_),(0,_)] rfl (aa (ai rfl rfl (ai rfl rfl (xg Tryz.underlying9 rfl rfl rfl (by omega) (by omega) (re (J:=Int × Value) (first:=[]) (cap:=[]) (fun j=>.tuple #[.int .i64 j.1,j.2]) (fun _=>_) (fun j=>sC (kH (s.take (bO be s))) j.2) rfl rfl rfl Tryz.call133 (fun w1 h1=>(lib_num (s.take (bO be s)) w1 (by rw [List.length_take]; omega) (hE.chg h1.chg)).mono fun e w2 ⟨j,hp,he,hc⟩=>⟨j,hp,he,h1.ext hc⟩) (fun j hj=>ai rfl rfl (aZ rfl rfl rfl (aZ rfl rfl rfl (aO rfl rfl (o_assignN rfl rfl (ae (ae (tri_slo [(6,_),(4,_),(0,_)] rfl (aa (ai rfl rfl (kG ifE hj rfl rfl (ai rfl rfl ?_)))))))))))))))))))))))))))
 refine' bv [_,_,_,_,_,_,_] [(4,_),(0,_)] (dj:=18) (dr:=25) rfl rfl (fun g1=>?_) ⟨_,rfl,rfl,rfl,(.cons rfl (.cons rfl (.nil _)))⟩ rfl ?_
 rotate_left
 · skip
   refine ai rfl rfl (i8 rfl rfl rfl (ai rfl rfl ?_))
   refine' aJ [_,_,_] [(18,_),(4,_),(0,_)] (dj:=21) (dr:=24) rfl rfl (fun g2=>?_) ⟨_,rfl,rfl,rfl,(.cons rfl (.cons rfl (.cons rfl (.nil _))))⟩ rfl ?_
   rotate_left
   · skip
     exact ai rfl rfl (jl Tryz.underlying9 rfl rfl rfl (by omega) (by omega) (jY _ 48 rfl rfl rfl (ab (Piece.mk rfl rfl (.cons rfl (.cons rfl (.cons rfl (.nil _)))) (fun _ h=>h)))))
   exact ab (Piece.mk rfl rfl (.cons rfl (.cons rfl (.nil _))) (fun _ h=>h))
 refine ai rfl rfl ?_
 refine' bv [_,_,_,_,_,_,_,_,_,_] [(4,_)] (dj:=27) (dr:=37) rfl rfl (fun g3=>?_) ⟨_,rfl,rfl,rfl,(.cons rfl (.nil _))⟩ rfl ?_
 rotate_left
 · skip
   refine ai rfl rfl (ai rfl rfl (hZ Tryz.underlying9 rfl rfl (cR rfl rfl rfl (ai rfl rfl ?_))))
   refine' aJ [_,_,_,_] [(27,_),(4,_)] (dj:=32) (dr:=36) rfl rfl (fun g4=>?_) ⟨_,rfl,rfl,rfl,(.cons rfl (.cons rfl (.nil _)))⟩ rfl ?_
   rotate_left
   · skip
     have g4:=of_decide_eq_true g4
     exact ai rfl rfl (ai rfl rfl (jl Tryz.underlying9 rfl rfl rfl (by omega) (by omega) (aF (first:=[]) (cap:=[]) rfl rfl rfl Tryz.call82 (fun w_ hw_=>rT _ w_) (ab (Piece.mk rfl rfl (.cons rfl (.cons rfl (.nil _))) (fun _ h=>h))))))
   exact ab (Piece.mk rfl rfl (.cons rfl (.nil _)) (fun _ h=>h))
 refine triL_nilN (aG rfl (fun h1=>?_) (fun h1=>?_))
 · skip
   have h1:=Eq.trans (Eq.symm (ny hd _ _ (by congr 1; exact decide_eq_decide.2 (by omega)) (by congr 1; exact decide_eq_decide.2 (by omega)))) h1
   have h1:=of_decide_eq_true h1
   refine ae (aa (ai rfl rfl (aO rfl rfl (o_assignN rfl rfl (aq (an (ky rfl rfl rfl ?_))))))); exact fun w1 hw1=>⟨by rw [if_pos h1],hw1.chg⟩
 · skip
   have h1:=Eq.trans (Eq.symm (ny hd _ _ (by congr 1; exact decide_eq_decide.2 (by omega)) (by congr 1; exact decide_eq_decide.2 (by omega)))) h1
   have h1:=of_decide_eq_false h1
   refine ao (ag (ae (aa (ai rfl rfl (aO rfl rfl (o_assignN rfl rfl (aq (ky rfl rfl rfl ?_)))))))); exact fun w1 hw1=>⟨by rw [if_neg h1],hw1.chg⟩
theorem quotedK (s:List UInt8) (w:World) (hs:s.length≤140737488355328) (h1:1≤s.length):Calls Tryz.prog 88 #[.string (B s)] w (cG w (.tuple #[.string (B (j0 s).1),.int .i64 ((j0 s).2.1:Int),.int .i64 (j0 s).2.2])):=by
 refine az (args:=[.string (B s)]) (lent:=[]) (H:=[]) Tryz.func88 rfl Tryz.ntmps88 rfl (Sat.start _ _ _ _) ((show Tri _ [(0,_)] _ _ _ from ae (aa (aO rfl rfl (aO rfl rfl (o_assignN rfl rfl (xk (ae (aa (o_assignN rfl rfl (ae (aa (o_assignN rfl rfl (ae (pU (ag (ae (ay (bI (ι:=List UInt8 × Nat × Option Addr × Nat) (F:=fun q=>[(0,.string (B s)),(5,.slice q.2.2.1 q.1.length q.2.2.2),(6,.int .i64 (q.2.1:Int))]) (HH:=fun q=>[row (.slice q.2.2.1 q.1.length q.2.2.2) 5 1 q.1.length (dw q.1)]) (Pu:=fun q=>kF s q.1 q.2.1) (μ:=fun q=>s.length - q.2.1) (([],1,none,0)) (.cons rfl (.cons rfl (.cons rfl (.nil _)))) (fun _ h=>h.nilRow _ _) (sy h1) (fun q hi=>?_))))))))))))))))))))
 have hi2:=hi.2.1
 have hi3:=hi.2.2.1
 refine ay (ae (ay (ae (aa (ai rfl rfl (ai rfl rfl (hZ Tryz.underlying9 rfl rfl (aD rfl rfl rfl (o_assignN rfl rfl (av rfl (fun h0=>?_) (fun h0=>?_)))))))))))
 · skip
   refine ae (au [] (.nil _) (aa (aO rfl rfl (aO rfl rfl (o_assignN rfl rfl (aq (ap (an (ap (an (ap (an (lR (end3 rfl rfl rfl rfl ?_))))))))))))))
   have e:j0 s=([],0,180):=(by rw [j0,sA hi (by omega)])
   exact fun w1 hw1=>⟨by rw [e]; rfl,hw1.chg⟩
 · skip
   refine ae (tri_slo [(0,_),(5,_),(6,_)] rfl (aa (ai rfl rfl (ai rfl rfl (jl Tryz.underlying9 rfl rfl rfl (by omega) (by omega) (o_neqU8 _ 39 rfl rfl rfl (o_assignN rfl rfl (av rfl (fun g1=>?_) (fun g1=>?_)))))))))
   · skip
     have g1:s.getD q.2.1 0≠39:=g1
     exact ao (am (ag (ae (tri_slo [(0,_),(5,_),(6,_)] rfl (aa (ai rfl rfl (ai rfl rfl (ai rfl rfl (jl Tryz.underlying9 rfl rfl rfl (by omega) (by omega) (bk (vs:=dw [_]) Tryz.underlying65 zs5 rfl rfl rfl rfl rfl (by decide) (by decide) (fun b36=>cH Tryz.underlying65 zsb5 rfl (by decide) N1 rfl rfl rfl (news:=dw [_]) (RdS.row .z) rfl (og _) (by unfold maxLen; omega) (by omega) (fun A37 c37=>o_assignN rfl rfl (tri_slo [(5,_),(0,_),(6,_)] rfl (aa (ai rfl rfl (bJ rfl rfl rfl (by omega) (aO rfl rfl (ab (am (ag (⟨(q.1++[s.getD q.2.1 0],q.2.1+1,A37,c37),(.cons rfl (.cons (congrArg (fun k:Nat=>some (Value.slice A37 k c37)) (by simp)) (.cons rfl (.nil _)))),(fun w1 hw1=>by simp only [List.length_append,jn]; exact hw1.tail),uj hi (by omega) g1,(by simp only; omega)⟩)))))))))))))))))))))
   · skip
     have g1:s.getD q.2.1 0=39:=Decidable.not_not.1 g1
     refine ae (tri_slo [(0,_),(5,_),(6,_)] rfl (aa (ai rfl rfl (bJ rfl rfl rfl (by omega) (ai rfl rfl (hZ Tryz.underlying9 rfl rfl (cR rfl rfl rfl (ai rfl rfl ?_))))))))
     refine' aJ [_,_,_,_,_] [(0,_),(5,_),(6,_)] (dj:=23) (dr:=28) rfl rfl (fun g1=>?_) ⟨_,rfl,rfl,rfl,(.cons rfl (.cons rfl (.cons rfl (.nil _))))⟩ rfl ?_
     rotate_left
     · skip
       have g1:=of_decide_eq_true g1
       exact ai rfl rfl (ai rfl rfl (bJ rfl rfl rfl (by omega) (jl Tryz.underlying9 rfl rfl rfl (by omega) (by omega) (jY _ 39 rfl rfl rfl (ab (Piece.mk rfl rfl (.cons rfl (.cons rfl (.cons rfl (.nil _)))) (fun _ h=>h)))))))
     refine o_assignN rfl rfl (aG rfl (fun g2=>?_) (fun g2=>?_))
     · skip
       have g2:q.2.1+1 < s.length∧s.getD (q.2.1+1) 0=39:=by simp only [Bool.and_eq_true,decide_eq_true_eq] at g2; exact ⟨by omega,g2.2⟩
       exact aa (ai rfl rfl (bJ rfl rfl rfl (by omega) (aO rfl rfl (ab (am (ag (ae (tri_slo [(6,_),(0,_),(5,_)] rfl (aa (ai rfl rfl (ai rfl rfl (ai rfl rfl (jl Tryz.underlying9 rfl rfl rfl (by omega) (by omega) (bk (vs:=dw [_]) Tryz.underlying65 zs5 rfl rfl rfl rfl rfl (by decide) (by decide) (fun b36=>cH Tryz.underlying65 zsb5 rfl (by decide) N1 rfl rfl rfl (news:=dw [_]) (RdS.row .z) rfl (og _) (by unfold maxLen; omega) (by omega) (fun A37 c37=>o_assignN rfl rfl (tri_slo [(5,_),(6,_),(0,_)] rfl (aa (ai rfl rfl (bJ rfl rfl rfl (by omega) (aO rfl rfl (ab (am (ag (⟨(q.1++[s.getD (q.2.1+1) 0],q.2.1+2,A37,c37),(.cons rfl (.cons (congrArg (fun k:Nat=>some (Value.slice A37 k c37)) (by simp)) (.cons rfl (.nil _)))),(fun w1 hw1=>by simp only [List.length_append,jn]; exact hw1.tail),uk hi g2.1 g1 g2.2,(by simp only; omega)⟩)))))))))))))))))))))))))
     · skip
       have g2:¬ (q.2.1+1 < s.length∧s.getD (q.2.1+1) 0=39):=fun e=>Bool.eq_false_iff.1 g2 (by simp only [Bool.and_eq_true,decide_eq_true_eq]; exact ⟨by omega,e.2⟩)
       have eq:=sB hi (by omega) g1 g2
       refine bu (bN rfl (ax (bN rfl (ax (aP (ag (ae (ae (aa (ai rfl rfl (aX Tryz.underlying65 rfl rfl (i8 rfl rfl rfl (triL_nilN (av rfl (fun h3=>?_) (fun h3=>?_)))))))))))))))
       · skip
         refine ae (au [] (.nil _) (aa (aO rfl rfl (aO rfl rfl (o_assignN rfl rfl (aq (an (lR (end3 rfl rfl rfl rfl ?_)))))))))
         have e:j0 s=([],0,3):=(by rw [j0,eq]; exact if_pos (by simp only; omega))
         exact fun w1 hw1=>⟨by rw [e]; rfl,hw1.chg⟩
       · skip
         refine ao (ag (ae (tri_slo [(5,_),(6,_)] rfl (aa (ai rfl rfl (sm Tryz.underlying65 Tryz.underlying5 Tryz.underlying9 rfl rfl (RdS.row .z) rfl (ai rfl rfl (bJ rfl rfl rfl (by omega) (aO rfl rfl (aO rfl rfl (o_assignN rfl rfl (aq (lR (end3 rfl rfl rfl rfl ?_))))))))))))))
         have e:j0 s=(q.1,q.2.1+1,0):=(by rw [j0,eq]; exact if_neg (by simp only; omega))
         exact fun w1 hw1=>⟨by rw [e]; rfl,hw1.chg⟩
def wds0:List (List UInt8):=[[97,110,100],[97,115],[98,101,103,105,110],[98,111,111,108],[98,121],[99,111,109,109,105,116],[99,114,101,97,116,101],[100,101,108,101,116,101],[100,101,115,99],[100,105,115,116,105,110,99,116],[100,114,111,112]]
def wds1:List (List UInt8):=[[102,97,108,115,101],[102,114,111,109],[105,110,100,101,120],[105,110,115,101,114,116],[105,110,116],[105,110,116,111],[105,115],[106,111,105,110],[108,105,109,105,116],[110,111,116],[110,117,108,108]]
def wds2:List (List UInt8):=[[111,110],[111,114],[111,114,100,101,114],[114,111,108,108,98,97,99,107],[115,101,108,101,99,116],[115,101,116],[116,97,98,108,101],[116,101,120,116],[116,114,117,101],[117,110,105,113,117,101],[117,112,100,97,116,101],[118,97,108,117,101,115],[119,104,101,114,101]]
def wds:List (List UInt8):=wds0++(wds1++wds2)
theorem wordK (s:List UInt8) (w:World)  : Calls Tryz.prog 69 #[.string (B s)] w (cG w (.bool (decide (s ∈ wds)))):=by
 refine az (args:=[.string (B s)]) (lent:=[]) (H:=[]) Tryz.func69 rfl Tryz.ntmps69 rfl (Sat.start _ _ _ _) ((show Tri _ [(0,_)] _ _ _ from ae (aa (o_assignN rfl rfl (ae (ae (aa (ai rfl rfl (triL_nilN (ay (ae (ay (ay (ay (ae (ae (cz (ι:=Bool) (fun j=>[(3,.string (B s)),(4,.bool j)]) (fun j=>[]) (fun j=>j=decide (s ∈ wds0)) ?_ (fun j hj=>?_))))))))))))))))))
 · skip
   refine ae (aa (bE rfl rfl rfl (o_assignN rfl rfl (av rfl (fun g0=>?_) (fun g0=>?_)))))
   · skip
     exact ao (ag (⟨true,(.cons rfl (.cons (congrArg (fun b=>some (Value.bool b)) (decide_eq_true g0)) (.nil _))),fun _ h=>h,(by rw [g0]; decide)⟩))
   · skip
     refine ae (tri_slo [(3,_)] rfl (aa (bE rfl rfl rfl (o_assignN rfl rfl (av rfl (fun g1=>?_) (fun g1=>?_))))))
     · skip
       exact ao (ag (⟨true,(.cons rfl (.cons (congrArg (fun b=>some (Value.bool b)) (decide_eq_true g1)) (.nil _))),fun _ h=>h,(by rw [g1]; decide)⟩))
     · skip
       refine ae (aa (bE rfl rfl rfl (o_assignN rfl rfl (av rfl (fun g2=>?_) (fun g2=>?_)))))
       · skip
         exact ao (ag (⟨true,(.cons rfl (.cons (congrArg (fun b=>some (Value.bool b)) (decide_eq_true g2)) (.nil _))),fun _ h=>h,(by rw [g2]; decide)⟩))
       · skip
         refine ae (aa (bE rfl rfl rfl (o_assignN rfl rfl (av rfl (fun g3=>?_) (fun g3=>?_)))))
         · skip
           exact ao (ag (⟨true,(.cons rfl (.cons (congrArg (fun b=>some (Value.bool b)) (decide_eq_true g3)) (.nil _))),fun _ h=>h,(by rw [g3]; decide)⟩))
         · skip
           refine ae (tri_slo [(3,_)] rfl (aa (bE rfl rfl rfl (o_assignN rfl rfl (av rfl (fun g4=>?_) (fun g4=>?_))))))
           · skip
             exact ao (ag (⟨true,(.cons rfl (.cons (congrArg (fun b=>some (Value.bool b)) (decide_eq_true g4)) (.nil _))),fun _ h=>h,(by rw [g4]; decide)⟩))
           · skip
             refine ae (aa (bE rfl rfl rfl (o_assignN rfl rfl (av rfl (fun g5=>?_) (fun g5=>?_)))))
             · skip
               exact ao (ag (⟨true,(.cons rfl (.cons (congrArg (fun b=>some (Value.bool b)) (decide_eq_true g5)) (.nil _))),fun _ h=>h,(by rw [g5]; decide)⟩))
             · skip
               refine ae (aa (bE rfl rfl rfl (o_assignN rfl rfl (av rfl (fun g6=>?_) (fun g6=>?_)))))
               · skip
                 exact ao (ag (⟨true,(.cons rfl (.cons (congrArg (fun b=>some (Value.bool b)) (decide_eq_true g6)) (.nil _))),fun _ h=>h,(by rw [g6]; decide)⟩))
               · skip
                 refine ae (tri_slo [(3,_)] rfl (aa (bE rfl rfl rfl (o_assignN rfl rfl (av rfl (fun g7=>?_) (fun g7=>?_))))))
                 · skip
                   exact ao (ag (⟨true,(.cons rfl (.cons (congrArg (fun b=>some (Value.bool b)) (decide_eq_true g7)) (.nil _))),fun _ h=>h,(by rw [g7]; decide)⟩))
                 · skip
                   refine ae (aa (bE rfl rfl rfl (o_assignN rfl rfl (av rfl (fun g8=>?_) (fun g8=>?_)))))
                   · skip
                     exact ao (ag (⟨true,(.cons rfl (.cons (congrArg (fun b=>some (Value.bool b)) (decide_eq_true g8)) (.nil _))),fun _ h=>h,(by rw [g8]; decide)⟩))
                   · skip
                     refine ae (aa (bE rfl rfl rfl (o_assignN rfl rfl (av rfl (fun g9=>?_) (fun g9=>?_)))))
                     · skip
                       exact ao (ag (⟨true,(.cons rfl (.cons (congrArg (fun b=>some (Value.bool b)) (decide_eq_true g9)) (.nil _))),fun _ h=>h,(by rw [g9]; decide)⟩))
                     · skip
                       exact tri_slo [(3,_)] rfl (aa (bE rfl rfl rfl (o_assignN rfl rfl (⟨decide (s=[100,114,111,112]),(.cons rfl (.cons rfl (.nil _))),fun _ h=>h,(by simp [wds0, *])⟩))))
 refine aG rfl (fun k0=>?_) (fun k0=>?_)
 · skip
   have k0:=of_decide_eq_true (hj.symm.trans k0)
   refine bu (ax (ax (aP (am (am (ag (ae (ae (aa (o_assignN rfl rfl (aq (an (ap (an (ba rfl rfl ?_))))))))))))))); exact fun w1 hw1=>⟨congrArg (fun b=>Ending.returned (.bool b)) (by refine (decide_eq_true ?_).symm; simp [wds, *]),hw1.chg⟩
 · skip
   have k0:=of_decide_eq_false (hj.symm.trans k0)
   clear hj
   refine ao (ag (ae (cz (ι:=Bool) (fun j=>[(3,.string (B s)),(16,.bool j)]) (fun j=>[]) (fun j=>j=decide (s ∈ wds1)) ?_ (fun j hj=>?_))))
   · skip
     refine ae (aa (bE rfl rfl rfl (o_assignN rfl rfl (av rfl (fun g11=>?_) (fun g11=>?_)))))
     · skip
       exact ao (ag (⟨true,(.cons rfl (.cons (congrArg (fun b=>some (Value.bool b)) (decide_eq_true g11)) (.nil _))),fun _ h=>h,(by rw [g11]; decide)⟩))
     · skip
       refine ae (aa (bE rfl rfl rfl (o_assignN rfl rfl (av rfl (fun g12=>?_) (fun g12=>?_)))))
       · skip
         exact ao (ag (⟨true,(.cons rfl (.cons (congrArg (fun b=>some (Value.bool b)) (decide_eq_true g12)) (.nil _))),fun _ h=>h,(by rw [g12]; decide)⟩))
       · skip
         refine ae (tri_slo [(3,_)] rfl (aa (bE rfl rfl rfl (o_assignN rfl rfl (av rfl (fun g13=>?_) (fun g13=>?_))))))
         · skip
           exact ao (ag (⟨true,(.cons rfl (.cons (congrArg (fun b=>some (Value.bool b)) (decide_eq_true g13)) (.nil _))),fun _ h=>h,(by rw [g13]; decide)⟩))
         · skip
           refine ae (aa (bE rfl rfl rfl (o_assignN rfl rfl (av rfl (fun g14=>?_) (fun g14=>?_)))))
           · skip
             exact ao (ag (⟨true,(.cons rfl (.cons (congrArg (fun b=>some (Value.bool b)) (decide_eq_true g14)) (.nil _))),fun _ h=>h,(by rw [g14]; decide)⟩))
           · skip
             refine ae (aa (bE rfl rfl rfl (o_assignN rfl rfl (av rfl (fun g15=>?_) (fun g15=>?_)))))
             · skip
               exact ao (ag (⟨true,(.cons rfl (.cons (congrArg (fun b=>some (Value.bool b)) (decide_eq_true g15)) (.nil _))),fun _ h=>h,(by rw [g15]; decide)⟩))
             · skip
               refine ae (tri_slo [(3,_)] rfl (aa (bE rfl rfl rfl (o_assignN rfl rfl (av rfl (fun g16=>?_) (fun g16=>?_))))))
               · skip
                 exact ao (ag (⟨true,(.cons rfl (.cons (congrArg (fun b=>some (Value.bool b)) (decide_eq_true g16)) (.nil _))),fun _ h=>h,(by rw [g16]; decide)⟩))
               · skip
                 refine ae (aa (bE rfl rfl rfl (o_assignN rfl rfl (av rfl (fun g17=>?_) (fun g17=>?_)))))
                 · skip
                   exact ao (ag (⟨true,(.cons rfl (.cons (congrArg (fun b=>some (Value.bool b)) (decide_eq_true g17)) (.nil _))),fun _ h=>h,(by rw [g17]; decide)⟩))
                 · skip
                   refine ae (aa (bE rfl rfl rfl (o_assignN rfl rfl (av rfl (fun g18=>?_) (fun g18=>?_)))))
                   · skip
                     exact ao (ag (⟨true,(.cons rfl (.cons (congrArg (fun b=>some (Value.bool b)) (decide_eq_true g18)) (.nil _))),fun _ h=>h,(by rw [g18]; decide)⟩))
                   · skip
                     refine ae (tri_slo [(3,_)] rfl (aa (bE rfl rfl rfl (o_assignN rfl rfl (av rfl (fun g19=>?_) (fun g19=>?_))))))
                     · skip
                       exact ao (ag (⟨true,(.cons rfl (.cons (congrArg (fun b=>some (Value.bool b)) (decide_eq_true g19)) (.nil _))),fun _ h=>h,(by rw [g19]; decide)⟩))
                     · skip
                       refine ae (aa (bE rfl rfl rfl (o_assignN rfl rfl (av rfl (fun g20=>?_) (fun g20=>?_)))))
                       · skip
                         exact ao (ag (⟨true,(.cons rfl (.cons (congrArg (fun b=>some (Value.bool b)) (decide_eq_true g20)) (.nil _))),fun _ h=>h,(by rw [g20]; decide)⟩))
                       · skip
                         exact aa (bE rfl rfl rfl (o_assignN rfl rfl (⟨decide (s=[110,117,108,108]),(.cons rfl (.cons rfl (.nil _))),fun _ h=>h,(by simp [wds1, *])⟩)))
   refine aG rfl (fun k1=>?_) (fun k1=>?_)
   · skip
     have k1:=of_decide_eq_true (hj.symm.trans k1)
     refine bu (ax (ax (bN rfl (aP (am (ag (ae (ae (aa (o_assignN rfl rfl (aq (an (ap (an (ba rfl rfl ?_))))))))))))))); exact fun w1 hw1=>⟨congrArg (fun b=>Ending.returned (.bool b)) (by refine (decide_eq_true ?_).symm; simp [wds, *]),hw1.chg⟩
   · skip
     have k1:=of_decide_eq_false (hj.symm.trans k1)
     clear hj
     refine ao (ag (cz (ι:=Bool) (fun j=>[(3,.string (B s)),(28,.bool j)]) (fun j=>[]) (fun j=>j=decide (s ∈ wds2)) ?_ (fun j hj=>?_)))
     · skip
       refine ae (aa (bE rfl rfl rfl (o_assignN rfl rfl (av rfl (fun g22=>?_) (fun g22=>?_)))))
       · skip
         exact ao (ag (⟨true,(.cons rfl (.cons (congrArg (fun b=>some (Value.bool b)) (decide_eq_true g22)) (.nil _))),fun _ h=>h,(by rw [g22]; decide)⟩))
       · skip
         refine ae (aa (bE rfl rfl rfl (o_assignN rfl rfl (av rfl (fun g23=>?_) (fun g23=>?_)))))
         · skip
           exact ao (ag (⟨true,(.cons rfl (.cons (congrArg (fun b=>some (Value.bool b)) (decide_eq_true g23)) (.nil _))),fun _ h=>h,(by rw [g23]; decide)⟩))
         · skip
           refine ae (tri_slo [(3,_)] rfl (aa (bE rfl rfl rfl (o_assignN rfl rfl (av rfl (fun g24=>?_) (fun g24=>?_))))))
           · skip
             exact ao (ag (⟨true,(.cons rfl (.cons (congrArg (fun b=>some (Value.bool b)) (decide_eq_true g24)) (.nil _))),fun _ h=>h,(by rw [g24]; decide)⟩))
           · skip
             refine ae (aa (bE rfl rfl rfl (o_assignN rfl rfl (av rfl (fun g25=>?_) (fun g25=>?_)))))
             · skip
               exact ao (ag (⟨true,(.cons rfl (.cons (congrArg (fun b=>some (Value.bool b)) (decide_eq_true g25)) (.nil _))),fun _ h=>h,(by rw [g25]; decide)⟩))
             · skip
               refine ae (aa (bE rfl rfl rfl (o_assignN rfl rfl (av rfl (fun g26=>?_) (fun g26=>?_)))))
               · skip
                 exact ao (ag (⟨true,(.cons rfl (.cons (congrArg (fun b=>some (Value.bool b)) (decide_eq_true g26)) (.nil _))),fun _ h=>h,(by rw [g26]; decide)⟩))
               · skip
                 refine ae (tri_slo [(3,_)] rfl (aa (bE rfl rfl rfl (o_assignN rfl rfl (av rfl (fun g27=>?_) (fun g27=>?_))))))
                 · skip
                   exact ao (ag (⟨true,(.cons rfl (.cons (congrArg (fun b=>some (Value.bool b)) (decide_eq_true g27)) (.nil _))),fun _ h=>h,(by rw [g27]; decide)⟩))
                 · skip
                   refine ae (aa (bE rfl rfl rfl (o_assignN rfl rfl (av rfl (fun g28=>?_) (fun g28=>?_)))))
                   · skip
                     exact ao (ag (⟨true,(.cons rfl (.cons (congrArg (fun b=>some (Value.bool b)) (decide_eq_true g28)) (.nil _))),fun _ h=>h,(by rw [g28]; decide)⟩))
                   · skip
                     refine ae (aa (bE rfl rfl rfl (o_assignN rfl rfl (av rfl (fun g29=>?_) (fun g29=>?_)))))
                     · skip
                       exact ao (ag (⟨true,(.cons rfl (.cons (congrArg (fun b=>some (Value.bool b)) (decide_eq_true g29)) (.nil _))),fun _ h=>h,(by rw [g29]; decide)⟩))
                     · skip
                       refine ae (tri_slo [(3,_)] rfl (aa (bE rfl rfl rfl (o_assignN rfl rfl (av rfl (fun g30=>?_) (fun g30=>?_))))))
                       · skip
                         exact ao (ag (⟨true,(.cons rfl (.cons (congrArg (fun b=>some (Value.bool b)) (decide_eq_true g30)) (.nil _))),fun _ h=>h,(by rw [g30]; decide)⟩))
                       · skip
                         refine ae (aa (bE rfl rfl rfl (o_assignN rfl rfl (av rfl (fun g31=>?_) (fun g31=>?_)))))
                         · skip
                           exact ao (ag (⟨true,(.cons rfl (.cons (congrArg (fun b=>some (Value.bool b)) (decide_eq_true g31)) (.nil _))),fun _ h=>h,(by rw [g31]; decide)⟩))
                         · skip
                           refine ae (aa (bE rfl rfl rfl (o_assignN rfl rfl (av rfl (fun g32=>?_) (fun g32=>?_)))))
                           · skip
                             exact ao (ag (⟨true,(.cons rfl (.cons (congrArg (fun b=>some (Value.bool b)) (decide_eq_true g32)) (.nil _))),fun _ h=>h,(by rw [g32]; decide)⟩))
                           · skip
                             refine ae (tri_slo [(3,_)] rfl (aa (bE rfl rfl rfl (o_assignN rfl rfl (av rfl (fun g33=>?_) (fun g33=>?_))))))
                             · skip
                               exact ao (ag (⟨true,(.cons rfl (.cons (congrArg (fun b=>some (Value.bool b)) (decide_eq_true g33)) (.nil _))),fun _ h=>h,(by rw [g33]; decide)⟩))
                             · skip
                               exact aa (bE rfl rfl rfl (o_assignN rfl rfl (⟨decide (s=[119,104,101,114,101]),(.cons rfl (.cons rfl (.nil _))),fun _ h=>h,(by simp [wds2, *])⟩)))
     refine aG rfl (fun k2=>?_) (fun k2=>?_)
     · skip
       have k2:=of_decide_eq_true (hj.symm.trans k2)
       refine bu (ax (bN rfl (bN rfl (aP (ag (ae (ae (aa (o_assignN rfl rfl (aq (an (ap (an (ba rfl rfl ?_)))))))))))))); exact fun w1 hw1=>⟨congrArg (fun b=>Ending.returned (.bool b)) (by refine (decide_eq_true ?_).symm; simp [wds, *]),hw1.chg⟩
     · skip
       have k2:=of_decide_eq_false (hj.symm.trans k2)
       clear hj
       refine ao (ag (bu (bN rfl (bN rfl (bN rfl (ax (aP (ag (ae (aa (o_assignN rfl rfl (aq (ba rfl rfl ?_))))))))))))); exact fun w1 hw1=>⟨congrArg (fun b=>Ending.returned (.bool b)) (by refine (decide_eq_false ?_).symm; simp [wds, *]),hw1.chg⟩
end Go.Proofs.YtjbpkcbefmpfgaaGreatDoor
namespace Go.Proofs.YtjbpkcbefmpfgaaGreatDoor
open Go.WK Go.RowKit 
theorem zs62:(Tryz.prog.info? 62).map (fun i=>(i.zero,i.size))=some (some (.agg #[.int .i64 0,.string .empty,.int .i64 0]),3):=by kernel_rfl
theorem yJ (x0:Int):Tryz.prog.built 55 [(0,.int .i64 x0)]=some ([.int .i64 x0,.int .i64 0]:List Value).toArray:=by kernel_rfl
theorem zero3:(Tryz.prog.info? 3).map (·.zero)=some (some (.int .i64 0)):=by kernel_rfl
theorem sz3:szB Tryz.prog 3=some 1:=by kernel_rfl
theorem vc (x:Int) (z:Int):Tryz.prog.built 62 [(0,.int .i64 x),(2,.int .i64 z)]=some (Tok.cs ⟨x,[],z⟩).toArray:=by kernel_rfl
theorem zsb62:(Tryz.prog.info? 62).map (fun i=>(i.zero,i.size,i.bytes))=some (some (.agg #[.int .i64 0,.string .empty,.int .i64 0]),3,32):=by kernel_rfl
theorem bval62_2 (z:Int):Tryz.prog.built 62 [(2,.int .i64 z)]=some (Tok.cs ⟨0,[],z⟩).toArray:=by kernel_rfl
theorem nd:(Tryz.prog.info? 62).map (·.zero)=some (some (.agg #[.int .i64 0,.string .empty,.int .i64 0])):=by kernel_rfl
theorem fj:szB Tryz.prog 62=some 3:=by kernel_rfl
theorem iU:bo Tryz.prog 62 0=some 0:=by kernel_rfl
theorem gt:bo Tryz.prog 62 1=some 1:=by kernel_rfl
theorem sz9:szB Tryz.prog 9=some 1:=by kernel_rfl
theorem jh (x0:Int) (x1:Int):Tryz.prog.built 55 [(0,.int .i64 x0),(1,.int .i64 x1)]=some ([.int .i64 x0,.int .i64 x1]:List Value).toArray:=by kernel_rfl
theorem mE:cF Tryz.prog 62=some true:=by kernel_rfl
theorem lexK (s:List UInt8) (w:World) (hs:s.length≤140737488355328) (hE:LE w):Calls Tryz.prog 43 #[.string (B s)] w (nS (fun v=>.tuple #[v,errR 55 (gz s)]) w 62 3 (tks (gz s)).length (toksV (tks (gz s)))):=by
 refine az (args:=[.string (B s)]) (lent:=[]) (H:=[]) Tryz.func43 rfl Tryz.ntmps43 rfl (Sat.start _ _ _ _) ((show Tri _ [(0,_)] _ _ _ from ae (aa (cD _ rfl rfl rfl (fun b1=>aO rfl rfl (o_assignN rfl rfl (ae (ae (aa (ak bB N0 rfl rfl rfl (hZ Tryz.underlying9 rfl rfl (i8 rfl rfl rfl (triL_nilN (av rfl (fun h0=>?_) (fun h0=>?_)))))))))))))))
 · skip
   refine ae (au [] (.nil _) (aa (aT (yJ _) rfl rfl (jW Tryz.underlying55 rfl rfl rfl (aO rfl rfl (o_assignN rfl rfl (aq (an (ky rfl rfl rfl ?_)))))))))
   have e:=lex_long (s:=s) (by omega)
   rw [e]
   exact sF (fun v=>.tuple #[v,errR 55 (.error (3,0))])
 · skip
   refine ao (ag (ae (tri_slo [(1,_)] rfl (aa (aQ _ rfl zero3 rfl (fun b4=>aC sz3 N0 rfl rfl rfl rfl rfl (Nat.le_of_ble_eq_true rfl) rfl (triL_nilN (ae (aa (bD rfl rfl rfl (o_assignN rfl rfl (ae (aa (o_assignN rfl rfl (ay (bI (ι:=List Tok × Nat × Option Addr × Nat) (F:=fun q=>[(1,.pointer (some ⟨b1,0,none⟩)),(4,.pointer (some ⟨b4,0,none⟩)),(5,.func (.func 80) #[] #[.pointer (some ⟨b4,0,none⟩),.pointer (some ⟨b1,0,none⟩)]),(6,.slice q.2.2.1 q.1.length q.2.2.2)]) (HH:=fun q=>[row (.slice q.2.2.1 q.1.length q.2.2.2) 62 3 q.1.length (toksV q.1),box b4 3 [.int .i64 (q.2.1:Int)],box b1 9 [.string (B s)]]) (Pu:=fun q=>mU s q.1 q.2.1) (μ:=fun q=>s.length - q.2.1) (([],0,none,0)) (.cons rfl (.cons rfl (.cons rfl (.cons rfl (.nil _))))) (fun _ h=>h.nilRow _ _) (sD (by omega)) (fun q hi=>?_)))))))))))))))))
   have hi1:=hi.1
   have hi2:=hi.2.1
   refine ay (ae (aa (ak bB N2 rfl rfl rfl (ak bR N1 rfl rfl rfl (aF (v:=.int .i64 ((q.2.1+gap (s.drop q.2.1):Nat):Int)) (first:=[]) (cap:=[]) rfl rfl rfl Tryz.call81 (fun w1 h1=>skipK s q.2.1 w1 (by omega) hi.1) ?_)))))
   have hg:=gap_in hi.1
   obtain ⟨p,hp⟩:∃ p,q.2.1+gap (s.drop q.2.1)=p:=⟨_,rfl⟩
   rw [hp] at hg ⊢
   refine aC sz3 N1 rfl rfl rfl rfl rfl (Nat.le_of_ble_eq_true rfl) rfl (triL_nilN (ae (ae (aa (ak bR N1 rfl rfl rfl (ak bB N2 rfl rfl rfl (hZ Tryz.underlying9 rfl rfl (aD rfl rfl rfl (triL_nilN (av rfl (fun h1=>?_) (fun h1=>?_)))))))))))
   · skip
     refine ae (tri_slo [(4,_),(6,_)] rfl (aa (ai rfl rfl (ak bR N1 rfl rfl rfl (aT (vc _ _) rfl rfl (bk (vs:=toksV [⟨5,[],(p:Int)⟩]) Tryz.underlying58 zs62 rfl rfl rfl rfl rfl (by decide) (by decide) (fun b27=>cH Tryz.underlying58 zsb62 rfl (by decide) N1 rfl rfl rfl (news:=toksV [⟨5,[],(p:Int)⟩]) (RdS.row .z) rfl (jC _) (by unfold maxLen; omega) (by omega) (fun A28 c28=>aO rfl rfl (o_assignN rfl rfl (aq (an (ap (an (ap (ky rfl rfl rfl ?_)))))))))))))))
     have e:=ul hi (by omega)
     have hpe:s.length=p:=by omega
     rw [hpe] at e
     rw [e]
     simp only [tks,List.length_append,List.length_singleton,mo]
     exact vE (fun v=>.tuple #[v,errR 55 (.ok (q.1++[⟨5,[],(p:Int)⟩]))]) (.s .z)
   · skip
     have hpl:p < s.length:=by omega
     have hr0:(s.drop p).getD 0 0=s.getD p 0:=by rw [ox]; rfl
     have hsg:fx (s.drop p)=sgn ((s.getD p 0).toNat:Int) ((s.getD (p+1) 0).toNat:Int):=by rw [fx,hr0,ox]
     have hne:(s.drop p)≠[]:=fun e=>by have:=congrArg List.length e; rw [List.length_drop] at this; simp at this; omega
     refine ao (ag (ae (tri_slo [(1,_),(4,_),(5,_),(6,_)] rfl (aa (ak bR N1 rfl rfl rfl (aT (bval62_2 _) rfl rfl (aQ (Tok.cs Tok.zero) rfl nd rfl (fun b7=>ea fj N0 rfl rfl rfl (triL_nilN (ae (aa (aO rfl rfl (o_assignN rfl rfl (cz (ι:=One) (fun j=>[(1,.pointer (some ⟨b1,0,none⟩)),(4,.pointer (some ⟨b4,0,none⟩)),(5,.func (.func 80) #[] #[.pointer (some ⟨b4,0,none⟩),.pointer (some ⟨b1,0,none⟩)]),(6,.slice q.2.2.1 q.1.length q.2.2.2),(7,.pointer (some ⟨b7,0,none⟩)),(8,.int .i64 (j.n:Int)),(9,.int .i64 j.e)]) (fun j=>[box b7 62 (Tok.cs ⟨j.k,j.t,(p:Int)⟩),row (.slice q.2.2.1 q.1.length q.2.2.2) 62 3 q.1.length (toksV q.1),box b4 3 [.int .i64 (p:Int)],box b1 9 [.string (B s)]]) (fun j=>mr (s.drop p) j) ?_ (fun j hj=>?_)))))))))))))))
     · skip
       refine ae (aa (ai rfl rfl (aF (v:=kq (s.getD (p+0) 0)) (first:=[]) (cap:=[.pointer (some ⟨b4,0,none⟩),.pointer (some ⟨b1,0,none⟩)]) rfl rfl rfl Tryz.call80 (fun w1 h1=>peekK s p 0 b4 b1 w1 (RdS.box (.s (.s .z)) w1 h1) (RdS.box (.s (.s (.s .z))) w1 h1) (by omega) (by omega) (by omega)) (o_assignN rfl rfl (ay (ae (tri_slo [(10,_),(9,_),(7,_),(1,_),(4,_),(5,_),(6,_)] rfl (aa (ai rfl rfl (aF (v:=.bool (dx (s.getD p 0))) (first:=[]) (cap:=[]) rfl rfl rfl Tryz.call82 (fun w1 h1=>rT _ w1) (o_assignN rfl rfl (aG rfl (fun c1=>?_) (fun c1=>?_)))))))))))))
       · skip
         have c1:dx (s.getD p 0)=true:=c1
         refine ae (tri_slo [(9,_),(7,_),(1,_),(4,_),(5,_),(6,_)] rfl (aa (aj iU rfl rfl (aC sz3 N0 rfl rfl rfl rfl rfl (Nat.le_of_ble_eq_true rfl) rfl (triL_nilN (ae (aa (ak bB N3 rfl rfl rfl (ak bR N2 rfl rfl rfl (jy Tryz.underlying9 rfl rfl rfl (by omega) (by omega) (aF (v:=.int .i64 ((bO gR (s.drop p):Nat):Int)) (first:=[]) (cap:=[]) rfl rfl rfl Tryz.call83 (fun w1 h1=>runK (s.drop p) 84 (fun z=>om z || mP z) w1 (by rw [List.length_drop]; omega) Tryz.call84 (fun z w=>wdK z w)) ?_)))))))))))
         have hrl:=ia gR (s.drop p)
         rw [List.length_drop] at hrl
         exact o_assignN rfl rfl (tri_slo [(8,_),(9,_),(7,_),(1,_),(4,_),(5,_),(6,_)] rfl (aa (ak bB N3 rfl rfl rfl (ak bR N2 rfl rfl rfl (ak bR N2 rfl rfl rfl (ai rfl rfl (bJ rfl rfl rfl (by omega) (ob Tryz.underlying9 rfl rfl rfl rfl (by omega) (by omega) (by omega) (ey (v':=.string (B ((s.drop p).take (bO gR (s.drop p))))) (congrArg (fun k:Nat=>Value.string (B ((s.drop p).take k))) (by omega)) (aF (first:=[]) (cap:=[]) rfl rfl rfl Tryz.call86 (fun w1 h1=>yG ((s.drop p).take (bO gR (s.drop p))) w1 (by rw [List.length_take,List.length_drop]; omega) (xq (s.drop p))) (aj gt rfl rfl (aC sz9 N0 rfl rfl rfl rfl rfl (Nat.le_of_ble_eq_true rfl) rfl (ab (am (ag (⟨⟨1,kE ((s.drop p).take (bO gR (s.drop p))),bO gR (s.drop p),0⟩,(.cons rfl (.cons rfl (.cons rfl (.cons rfl (.cons rfl (.cons rfl (.cons rfl (.nil _)))))))),fun _ h=>h,(uo (by rw [hr0]; exact c1))⟩))))))))))))))))
       · skip
         have c1:dx (s.getD p 0)=false:=c1
         refine ae (aa (ai rfl rfl (aF (v:=.bool (be (s.getD p 0))) (first:=[]) (cap:=[]) rfl rfl rfl Tryz.call85 (fun w1 h1=>va _ w1) (o_assignN rfl rfl (aG rfl (fun c2=>?_) (fun c2=>?_))))))
         · skip
           have c2:be (s.getD p 0)=true:=c2
           refine ae (tri_slo [(7,_),(1,_),(4,_),(5,_),(6,_)] rfl (aa (aj iU rfl rfl (aC sz3 N0 rfl rfl rfl rfl rfl (Nat.le_of_ble_eq_true rfl) rfl (triL_nilN (ae (aa (ak bB N3 rfl rfl rfl (ak bR N2 rfl rfl rfl (jy Tryz.underlying9 rfl rfl rfl (by omega) (by omega) (aF (first:=[]) (cap:=[]) rfl rfl rfl Tryz.call87 (fun w1 h1=>numberK (s.drop p) w1 (by rw [List.length_drop]; omega) (by rw [hr0]; exact c2) (hE.chg h1.chg)) ?_)))))))))))
           have hrl:=ia be (s.drop p)
           rw [List.length_drop] at hrl
           exact ai rfl rfl (aZ rfl rfl rfl (aZ rfl rfl rfl (aO rfl rfl (o_assignN rfl rfl (tri_slo [(9,_),(8,_),(7,_),(1,_),(4,_),(5,_),(6,_)] rfl (aa (ak bB N3 rfl rfl rfl (ak bR N2 rfl rfl rfl (ak bR N2 rfl rfl rfl (ai rfl rfl (bJ rfl rfl rfl (by omega) (ob Tryz.underlying9 rfl rfl rfl rfl (by omega) (by omega) (by omega) (ey (v':=.string (B ((s.drop p).take (bO be (s.drop p))))) (congrArg (fun k:Nat=>Value.string (B ((s.drop p).take k))) (by omega)) (aj gt rfl rfl (aC sz9 N0 rfl rfl rfl rfl rfl (Nat.le_of_ble_eq_true rfl) rfl (ab (am (ag (⟨⟨2,(s.drop p).take (bO be (s.drop p)),bO be (s.drop p),if fY (s.drop p) (bO be (s.drop p)) then 180 else 0⟩,(.cons rfl (.cons rfl (.cons rfl (.cons rfl (.cons rfl (.cons rfl (.cons rfl (.nil _)))))))),fun _ h=>h,(xp (by rw [hr0]; exact c1) (by rw [hr0]; exact c2))⟩)))))))))))))))))))
         · skip
           have c2:be (s.getD p 0)=false:=c2
           refine ae (tri_slo [(10,_),(9,_),(7,_),(1,_),(4,_),(5,_),(6,_)] rfl (aa (ai rfl rfl (jY _ 39 rfl rfl rfl (o_assignN rfl rfl (av rfl (fun c3=>?_) (fun c3=>?_)))))))
           · skip
             have c3:s.getD p 0=39:=c3
             exact ae (tri_slo [(7,_),(1,_),(4,_),(5,_),(6,_)] rfl (aa (aj iU rfl rfl (aC sz3 N0 rfl rfl rfl rfl rfl (Nat.le_of_ble_eq_true rfl) rfl (triL_nilN (aa (ak bB N3 rfl rfl rfl (ak bR N2 rfl rfl rfl (jy Tryz.underlying9 rfl rfl rfl (by omega) (by omega) (aF (first:=[]) (cap:=[]) rfl rfl rfl Tryz.call88 (fun w1 h1=>quotedK (s.drop p) w1 (by rw [List.length_drop]; omega) (by rw [List.length_drop]; omega)) (ai rfl rfl (aZ rfl rfl rfl (aZ rfl rfl rfl (aZ rfl rfl rfl (aj gt rfl rfl (aC sz9 N0 rfl rfl rfl rfl rfl (Nat.le_of_ble_eq_true rfl) rfl (aO rfl rfl (aO rfl rfl (ab (am (ag (⟨⟨3,(j0 (s.drop p)).1,(j0 (s.drop p)).2.1,(j0 (s.drop p)).2.2⟩,(.cons rfl (.cons rfl (.cons rfl (.cons rfl (.cons rfl (.cons rfl (.cons rfl (.nil _)))))))),fun _ h=>h,(uq (by rw [hr0]; exact c3))⟩))))))))))))))))))))))
           · skip
             have c3:¬ s.getD p 0=39:=c3
             refine ae (aa (aj iU rfl rfl (aC sz3 N0 rfl rfl rfl rfl rfl (Nat.le_of_ble_eq_true rfl) rfl (triL_nilN (ae (tri_slo [(10,_),(9,_),(7,_),(1,_),(4,_),(5,_),(6,_)] rfl (aa (ai rfl rfl (ai rfl rfl (aF (v:=kq (s.getD (p+1) 0)) (first:=[]) (cap:=[.pointer (some ⟨b4,0,none⟩),.pointer (some ⟨b1,0,none⟩)]) rfl rfl rfl Tryz.call80 (fun w1 h1=>peekK s p 1 b4 b1 w1 (RdS.box (.s (.s .z)) w1 h1) (RdS.box (.s (.s (.s .z))) w1 h1) (by omega) (by omega) (by omega)) (aF (v:=.int .i64 ((fx (s.drop p):Nat):Int)) (first:=[]) (cap:=[]) rfl rfl rfl Tryz.call89 (fun w1 h1=>by have h:=signK ((s.getD p 0).toNat:Int) ((s.getD (p+1) 0).toNat:Int) w1; rw [← hsg] at h; exact h) ?_)))))))))))
             have hrl:=ri hne
             rw [List.length_drop] at hrl
             refine o_assignN rfl rfl (ae (tri_slo [(8,_),(9,_),(7,_),(1,_),(4,_),(5,_),(6,_)] rfl (aa (ak bB N3 rfl rfl rfl (ak bR N2 rfl rfl rfl (ak bR N2 rfl rfl rfl (ai rfl rfl (bJ rfl rfl rfl (by omega) (ob Tryz.underlying9 rfl rfl rfl rfl (by omega) (by omega) (by omega) (ey (v':=.string (B ((s.drop p).take (fx (s.drop p))))) (congrArg (fun k:Nat=>Value.string (B ((s.drop p).take k))) (by omega)) (aj gt rfl rfl (aC sz9 N0 rfl rfl rfl rfl rfl (Nat.le_of_ble_eq_true rfl) rfl (triL_nilN (ae (tri_slo [(8,_),(9,_),(7,_),(1,_),(4,_),(5,_),(6,_)] rfl (aa (ai rfl rfl (aD rfl rfl rfl (triL_nilN (av rfl (fun c4=>?_) (fun c4=>?_)))))))))))))))))))))
             · skip
               exact aa (aO rfl rfl (ab (am (ag (⟨⟨4,(s.drop p).take (fx (s.drop p)),fx (s.drop p),180⟩,(.cons rfl (.cons rfl (.cons rfl (.cons rfl (.cons rfl (.cons rfl (.cons rfl (.nil _)))))))),fun _ h=>h,(oy hne (by rw [hr0]; exact c1) (by rw [hr0]; exact c2) (by rw [hr0]; exact c3) _ (if_pos (by omega)).symm)⟩)))))
             · skip
               exact ao (am (ag (⟨⟨4,(s.drop p).take (fx (s.drop p)),fx (s.drop p),0⟩,(.cons rfl (.cons rfl (.cons rfl (.cons rfl (.cons rfl (.cons rfl (.cons rfl (.nil _)))))))),fun _ h=>h,(oy hne (by rw [hr0]; exact c1) (by rw [hr0]; exact c2) (by rw [hr0]; exact c3) _ (if_neg (by omega)).symm)⟩)))
     have hjn:=hj.2.2
     rw [List.length_drop] at hjn
     refine ae (ae (aa (ai rfl rfl (cX rfl rfl rfl (triL_nilN (av rfl (fun h6=>?_) (fun h6=>?_)))))))
     · skip
       have hbad:=um hi hp hpl (by rw [← hj.1]; exact h6)
       rw [← hj.1] at hbad
       refine ae (tri_slo [(4,_),(9,_)] rfl (xf (by kernel_rfl) (by kernel_rfl) (ai rfl rfl (ak bR N2 rfl rfl rfl (aT (jh _ _) rfl rfl (jW Tryz.underlying55 rfl rfl rfl (aO rfl rfl (o_assignN rfl rfl (aq (an (ap (an (ap (ky rfl rfl rfl ?_))))))))))))))
       rw [hbad]
       exact sF (fun v=>.tuple #[v,errR 55 (.error (j.e,(p:Int)))])
     · skip
       have h6:j.e=0:=Decidable.not_not.1 h6
       have hje:=hj.2.1 h6
       have hst:=sE hi hp hpl (hj.1.symm.trans h6)
       rw [← hje] at hst
       exact ao (ag (ae (aa (ak bR N2 rfl rfl rfl (ai rfl rfl (bJ rfl rfl rfl (by omega) (aC sz3 N2 rfl rfl rfl rfl rfl (Nat.le_of_ble_eq_true rfl) rfl (triL_nilN (tri_slo [(1,_),(4,_),(5,_),(6,_),(7,_)] rfl (aa (ai rfl rfl (lm mE fj N0 rfl rfl (bk (vs:=toksV [⟨j.k,j.t,(p:Int)⟩]) Tryz.underlying58 zs62 rfl rfl rfl rfl rfl (by decide) (by decide) (fun b105=>cH Tryz.underlying58 zsb62 rfl (by decide) N2 rfl rfl rfl (news:=toksV [⟨j.k,j.t,(p:Int)⟩]) (RdS.row .z) rfl (jC _) (by unfold maxLen; omega) (by omega) (fun A106 c106=>aO rfl rfl (ab (am (ag (⟨(q.1++[⟨j.k,j.t,(p:Int)⟩],p+j.n,A106,c106),(.cons rfl (.cons rfl (.cons rfl (.cons (congrArg (fun k:Nat=>some (Value.slice A106 k c106)) (by simp)) (.nil _))))),(fun w1 hw1=>by simp only [List.length_append,mo]; exact hw1.tail.tail),hst.2.2,(by have:=hst.1; simp only; omega)⟩)))))))))))))))))))
end Go.Proofs.YtjbpkcbefmpfgaaGreatDoor
namespace Go.Proofs.YtjbpkcbefmpfgaaGreatDoor
open Go.WK Go.RowKit 
theorem zs9:(Tryz.prog.info? 9).map (fun i=>(i.zero,i.size))=some (some (.string .empty),1):=by kernel_rfl
end Go.Proofs.YtjbpkcbefmpfgaaGreatDoor
namespace Go.Proofs.YtjbpkcbefmpfgaaGreatDoor
open Go.RowKit Go.Extern.Stop Go.Stop Go.Extern Go.WK
theorem vd : Tryz.prog.globalNamed "errors.errorType" = some 0 := by kernel_rfl
theorem valueOfP (t:Addr) (w:World):(ReflectliteValue.unpack (.iface 104 (.pointer (some t)))).run Tryz.prog w=.ok (.agg #[.pointer (some ⟨10,104,none⟩),.pointer (some ⟨w.heap.size,0,none⟩),.int .u64 150]) (w.alloc (.cells #[.pointer (some t)] 104)):=by kernel_rfl
theorem typeP (a : Addr) (w : World) : (ReflectliteValue.methodAny (ReflectliteValue.valueError "reflectlite.Value.Type" 0) (fun t _ _ _ => ReflectliteType.toType t) #[.agg #[.pointer (some ⟨10, 104, none⟩), .pointer (some a), .int .u64 150]]).run Tryz.prog w = .ok (.iface 180 (.agg #[.pointer (some ⟨10, 104, none⟩)])) w := by kernel_rfl
theorem ve (h : Value) (w : World) : (Go.method 386 180 (.agg #[h]) "Kind").run Tryz.prog w = .ok (226, h) w := by kernel_rfl
theorem kindP (w:World):((ReflectliteType.abiMethod fun t=>Functor.map (fun a : Nat => Value.int IntKind.u8 (a : Int)) (Rtype.kind t)) #[.pointer (some ⟨10,104,none⟩)]).run Tryz.prog w=.ok (.int .u8 22) w:=by kernel_rfl
theorem kindE (w:World):((ReflectliteType.abiMethod fun t=>Functor.map (fun a : Nat => Value.int IntKind.u8 (a : Int)) (Rtype.kind t)) #[.pointer (some ⟨10,55,none⟩)]).run Tryz.prog w=.ok (.int .u8 25) w:=by kernel_rfl
theorem rlm (z:Sem Value) (f:TypeId→Addr→Nat→Nat→Sem Value) (v:Value) :
  ReflectliteValue.method z f #[v]=(do match ← ReflectliteValue.parts v with | none=>z | some (t,a,fl)=>f t a fl (fl % 32)):=rfl
theorem partsP (a:Addr) (w:World):(ReflectliteValue.parts (.agg #[.pointer (some ⟨10,104,none⟩),.pointer (some a),.int .u64 150])).run Tryz.prog w=.ok (some (104,a,150)) w:=by kernel_rfl
theorem isNilP (a p:Addr) (W:World) (ha:W.cell? a=some (.pointer (some p))) :
  (ReflectliteValue.method (ReflectliteValue.valueError "reflectlite.Value.IsNil" 0) ReflectliteValue.isNil #[.agg #[.pointer (some ⟨10, 104, none⟩), .pointer (some a), .int .u64 150]]).run Tryz.prog W = .ok (.bool false) W := by
 rw [rlm]
 simp only [Sem.run_bind,partsP,Result.andThen]
 simp [ReflectliteValue.isNil,loadVar,isAgg,underlying,Tryz.underlying104,ha,Result.andThen]
theorem vf (h : Value) (w : World) : (Go.method 386 180 (.agg #[h]) "Elem").run Tryz.prog w = .ok (239, .agg #[h]) w := by kernel_rfl
theorem ng (h : Value) (w : World) : (Go.method 386 180 (.agg #[h]) "Implements").run Tryz.prog w = .ok (240, .agg #[h]) w := by kernel_rfl
theorem ma (h : Value) (w : World) : (Go.method 386 180 (.agg #[h]) "AssignableTo").run Tryz.prog w = .ok (237, .agg #[h]) w := by kernel_rfl
theorem nh (h : Value) (w : World) : (Go.method 386 180 (.agg #[h]) "Comparable").run Tryz.prog w = .ok (238, .agg #[h]) w := by kernel_rfl
theorem rU (v : Value) (w : World) : (Go.method 386 55 v "Unwrap").run Tryz.prog w = .ok (231, v) w := by kernel_rfl
theorem elemP (w:World):(ReflectliteType.method ReflectliteType.elem #[.agg #[.pointer (some ⟨10,104,none⟩)]]).run Tryz.prog w=.ok (.iface 180 (.agg #[.pointer (some ⟨10,55,none⟩)])) w:=by kernel_rfl
theorem tO (w : World) : (ReflectliteType.relation "Implements" ReflectliteType.implements_ #[.agg #[.pointer (some ⟨10, 55, none⟩)], .iface 180 (.agg #[.pointer (some ⟨10, 46, none⟩)])]).run Tryz.prog w = .ok (.bool true) w := by kernel_rfl
theorem typeOfE (v:Value) (w:World):(ReflectliteType.typeOf #[.iface 55 v]).run Tryz.prog w=.ok (.iface 180 (.agg #[.pointer (some ⟨10,55,none⟩)])) w:=by kernel_rfl
theorem typeOfC (v:Value) (w:World):(ReflectliteType.typeOf #[.iface 38 v]).run Tryz.prog w=.ok (.iface 180 (.agg #[.pointer (some ⟨10,38,none⟩)])) w:=by kernel_rfl
theorem tP (w : World) : (ReflectliteType.method (fun t => do Rtype.noPackHeld "Comparable" t; Functor.map (fun a : Go.TypeInfo => Value.bool a.comparable) (Go.typeInfo t)) #[.agg #[.pointer (some ⟨10, 38, none⟩)]]).run Tryz.prog w = .ok (.bool true) w := by kernel_rfl
theorem tQ (w : World) : (ReflectliteType.relation "AssignableTo" ReflectliteType.assignableTo #[.agg #[.pointer (some ⟨10, 55, none⟩)], .iface 180 (.agg #[.pointer (some ⟨10, 55, none⟩)])]).run Tryz.prog w = .ok (.bool true) w := by kernel_rfl
theorem valueOfE (c p:Int) (w:World):(ReflectliteValue.unpack (.iface 55 (.agg #[.int .i64 c,.int .i64 p]))).run Tryz.prog w=.ok (.agg #[.pointer (some ⟨10,55,none⟩),.pointer (some ⟨w.heap.size,0,none⟩),.int .u64 153]) (w.alloc (.cells #[.int .i64 c,.int .i64 p] 55)):=by kernel_rfl
theorem elemOfP (w:World):(Rtype.elem? 104).run Tryz.prog w=.ok (some 55) w:=by kernel_rfl
theorem mkE (a:Addr) (w:World):(ReflectliteValue.mk 55 a ReflectliteValue.flagAddr).run Tryz.prog w=.ok (.agg #[.pointer (some ⟨10,55,none⟩),.pointer (some a),.int .u64 409]) w:=by kernel_rfl
theorem elemVP (a p:Addr) (W:World) (ha:W.cell? a=some (.pointer (some p))) :
  (ReflectliteValue.method (ReflectliteValue.valueError "reflectlite.Value.Elem" 0) ReflectliteValue.elem #[.agg #[.pointer (some ⟨10, 104, none⟩), .pointer (some a), .int .u64 150]]).run Tryz.prog W = .ok (.agg #[.pointer (some ⟨10, 55, none⟩), .pointer (some p), .int .u64 409]) W := by
 rw [rlm]
 simp only [Sem.run_bind,partsP,Result.andThen]
 simp [ReflectliteValue.elem,loadVar,isAgg,underlying,Tryz.underlying104,ha,Result.andThen,elemOfP,mkE]
theorem partsEa (a:Addr) (w:World):(ReflectliteValue.parts (.agg #[.pointer (some ⟨10,55,none⟩),.pointer (some a),.int .u64 409])).run Tryz.prog w=.ok (some (55,a,409)) w:=by kernel_rfl
theorem partsE (a:Addr) (w:World):(ReflectliteValue.parts (.agg #[.pointer (some ⟨10,55,none⟩),.pointer (some a),.int .u64 153])).run Tryz.prog w=.ok (some (55,a,153)) w:=by kernel_rfl
theorem directE (w:World):(Rtype.directlyAssignable 55 55).run Tryz.prog w=.ok true w:=by kernel_rfl
theorem aggE:cF Tryz.prog 55=some true:=by kernel_rfl
theorem szE:szB Tryz.prog 55=some 2:=by kernel_rfl
theorem loadE (k:Nat) (c p:Int) (W:World) (hk:W.heap[k]? = some (.cells #[.int .i64 c,.int .i64 p] 55 (0,0))):(loadVar 55 ⟨k,0,none⟩).run Tryz.prog W=.ok (.agg #[.int .i64 c,.int .i64 p]) W:=by
 have h:=run_loadCells_list (P:=Tryz.prog) W ⟨k,0,none⟩ [.int .i64 c,.int .i64 p] (mO (cs:=[.int .i64 c,.int .i64 p]) (o:=0) (z:=2) hk rfl)
 simp only [List.length_cons,List.length_nil] at h
 simp [loadVar,ez aggE,dq szE,h]
theorem storeE (b:Nat) (c p:Int) (x y:Value) (W:World) (hb:W.heap[b]? = some (.cells #[x,y] 55 (0,0))):(storeVar 55 ⟨b,0,none⟩ (.agg #[.int .i64 c,.int .i64 p])).run Tryz.prog W=.ok () (W.setRow b #[.int .i64 c,.int .i64 p]):=by
 have hst:=run_storeCells_at Tryz.prog b 0 55 [.int .i64 c,.int .i64 p] 0 #[x,y] W hb (by simp) (by intro u hu; simp at hu; rcases hu with rfl | rfl<;>rfl)
 simp at hst
 simp [storeVar,dq szE,Value.cells,hst]
theorem setE (b k:Nat) (c p:Int) (x y:Value) (W:World) (hk:W.heap[k]? = some (.cells #[.int .i64 c,.int .i64 p] 55 (0,0))) (hb:W.heap[b]? = some (.cells #[x,y] 55 (0,0))) :
  (ReflectliteValue.set #[.agg #[.pointer (some ⟨10,55,none⟩),.pointer (some ⟨b,0,none⟩),.int .u64 409],.agg #[.pointer (some ⟨10,55,none⟩),.pointer (some ⟨k,0,none⟩),.int .u64 153]]).run Tryz.prog W=.ok (.tuple #[]) (W.setRow b #[.int .i64 c,.int .i64 p]):=by
 show (ReflectliteValue.parts (.agg #[.pointer (some ⟨10,55,none⟩),.pointer (some ⟨b,0,none⟩),.int .u64 409]) >>= fun q => ReflectliteValue.parts (.agg #[.pointer (some ⟨10,55,none⟩),.pointer (some ⟨k,0,none⟩),.int .u64 153]) >>= fun q2 => _).run _ _ = _
 simp only [Sem.run_bind,partsEa,partsE,Result.andThen]
 simp [ReflectliteValue.flagAddr,loadE k c p W hk,storeE b c p x y W hb,Result.andThen,directE]
theorem gN {w:World} {o:Obj} {k:Nat} (h:k < w.heap.size):(w.alloc o).heap[k]? = w.heap[k]?:=by
 show (w.heap.push o)[k]? = w.heap[k]?
 rw [Array.getElem?_push,if_neg (Nat.ne_of_lt h)]
theorem pS (w:World) (o:Obj):(w.alloc o).heap[w.heap.size]? = some o:=by
 show (w.heap.push o)[w.heap.size]? = some o
 rw [Array.getElem?_push,if_pos rfl]
set_option maxRecDepth 100000 in
set_option maxHeartbeats 4000000 in
theorem as_hit (c p:Int) (b:Nat) (x y:Value) (w:World) (hg:w.cell? ⟨0,0,none⟩=some (.iface 180 (.agg #[.pointer (some ⟨10,46,none⟩)]))) (hb:w.heap[b]? = some (.cells #[x,y] 55 (0,0))) :
  Calls Tryz.prog 52 #[.iface 55 (.agg #[.int .i64 c,.int .i64 p]),.iface 104 (.pointer (some ⟨b,0,none⟩))] w fun ev w'=>ev=.returned (.bool true)∧w'=((((w.alloc (.cells #[.pointer (some ⟨b,0,none⟩)] 104)).alloc (.cells #[.pointer (some ⟨10,104,none⟩),.pointer (some ⟨w.heap.size,0,none⟩),.int .u64 150] 145)).alloc (.cells #[.pointer (some ⟨10,104,none⟩),.pointer (some ⟨w.heap.size,0,none⟩),.int .u64 150] 145)).alloc (.cells #[.int .i64 c,.int .i64 p] 55)).setRow b #[.int .i64 c,.int .i64 p]:=by
 have hVO:=@run_callFunc_extern Tryz.prog 104 _ (fun args=>ReflectliteValue.unpack (args.getD 0 (.tuple #[]))) Tryz.func104 (by kernel_rfl) (by kernel_rfl) (by kernel_rfl) (by kernel_rfl)
 have hTy := @run_callFunc_extern Tryz.prog 105 _ (ReflectliteValue.methodAny (ReflectliteValue.valueError "reflectlite.Value.Type" 0) (fun t _ _ _ => ReflectliteType.toType t)) Tryz.func105 (by kernel_rfl) (by kernel_rfl) (by kernel_rfl) (by kernel_rfl)
 have hNil := @run_callFunc_extern Tryz.prog 106 _ (ReflectliteValue.method (ReflectliteValue.valueError "reflectlite.Value.IsNil" 0) ReflectliteValue.isNil) Tryz.func106 (by kernel_rfl) (by kernel_rfl) (by kernel_rfl) (by kernel_rfl)
 have hK:=@run_callFunc_extern Tryz.prog 226 _ (ReflectliteType.abiMethod fun t=>do pure (.int .u8 (← Rtype.kind t))) Tryz.func226 (by kernel_rfl) (by kernel_rfl) (by kernel_rfl) (by kernel_rfl)
 have hrE:=@run_callFunc_extern Tryz.prog 239 _ (ReflectliteType.method ReflectliteType.elem) Tryz.func239 (by kernel_rfl) (by kernel_rfl) (by kernel_rfl) (by kernel_rfl)
 have hrI := @run_callFunc_extern Tryz.prog 240 _ (ReflectliteType.relation "Implements" ReflectliteType.implements_) Tryz.func240 (by kernel_rfl) (by kernel_rfl) (by kernel_rfl) (by kernel_rfl)
 have hTO:=@run_callFunc_extern Tryz.prog 108 _ ReflectliteType.typeOf Tryz.func108 (by kernel_rfl) (by kernel_rfl) (by kernel_rfl) (by kernel_rfl)
 have hrA := @run_callFunc_extern Tryz.prog 237 _ (ReflectliteType.relation "AssignableTo" ReflectliteType.assignableTo) Tryz.func237 (by kernel_rfl) (by kernel_rfl) (by kernel_rfl) (by kernel_rfl)
 have hEl := @run_callFunc_extern Tryz.prog 146 _ (ReflectliteValue.method (ReflectliteValue.valueError "reflectlite.Value.Elem" 0) ReflectliteValue.elem) Tryz.func146 (by kernel_rfl) (by kernel_rfl) (by kernel_rfl) (by kernel_rfl)
 have hSe:=@run_callFunc_extern Tryz.prog 147 _ ReflectliteValue.set Tryz.func147 (by kernel_rfl) (by kernel_rfl) (by kernel_rfl) (by kernel_rfl)
 have q1:=typeOfE
 have q2:=ma
 have q3:=tQ
 have q4:=valueOfE
 have q5:=valueOfP
 have q6:=typeP
 have q7:=ve
 have q8:=vf
 have q9:=ng
 have q10:=kindP
 have q11:=kindE
 have q12:=elemP
 have q13:=tO
 have hlt:0 < w.heap.size:=World.block_lt_of_cell? _ _ hg
 have hbl:b < w.heap.size:=by
  rcases Nat.lt_or_ge b w.heap.size with h | h
  · exact h
  · rw [Array.getElem?_eq_none h] at hb; cases hb
 have n8:=isNilP ⟨w.heap.size,0,none⟩ ⟨b,0,none⟩ ((w.alloc (.cells #[.pointer (some ⟨b,0,none⟩)] 104)).alloc (.cells #[.pointer (some ⟨10,104,none⟩),.pointer (some ⟨w.heap.size,0,none⟩),.int .u64 150] 145)) (by simp)
 have hg2:((w.alloc (.cells #[.pointer (some ⟨b,0,none⟩)] 104)).alloc (.cells #[.pointer (some ⟨10,104,none⟩),.pointer (some ⟨w.heap.size,0,none⟩),.int .u64 150] 145)).cell? ⟨0,0,none⟩=some (.iface 180 (.agg #[.pointer (some ⟨10,46,none⟩)])):=by
  rw [World.cell?_alloc_lt _ _ ⟨0,0,none⟩ (by simp),World.cell?_alloc_lt _ _ ⟨0,0,none⟩ hlt]; exact hg
 have el:=elemVP ⟨w.heap.size,0,none⟩ ⟨b,0,none⟩ (((w.alloc (.cells #[.pointer (some ⟨b,0,none⟩)] 104)).alloc (.cells #[.pointer (some ⟨10,104,none⟩),.pointer (some ⟨w.heap.size,0,none⟩),.int .u64 150] 145)).alloc (.cells #[.pointer (some ⟨10,104,none⟩),.pointer (some ⟨w.heap.size,0,none⟩),.int .u64 150] 145)) (by rw [World.cell?_alloc_lt _ _ ⟨w.heap.size,0,none⟩ (by simp; omega)]; simp)
 have st:=setE b (w.heap.size+1+1+1) c p x y ((((w.alloc (.cells #[.pointer (some ⟨b,0,none⟩)] 104)).alloc (.cells #[.pointer (some ⟨10,104,none⟩),.pointer (some ⟨w.heap.size,0,none⟩),.int .u64 150] 145)).alloc (.cells #[.pointer (some ⟨10,104,none⟩),.pointer (some ⟨w.heap.size,0,none⟩),.int .u64 150] 145)).alloc (.cells #[.int .i64 c,.int .i64 p] 55))
  (by have:=pS (((w.alloc (.cells #[.pointer (some ⟨b,0,none⟩)] 104)).alloc (.cells #[.pointer (some ⟨10,104,none⟩),.pointer (some ⟨w.heap.size,0,none⟩),.int .u64 150] 145)).alloc (.cells #[.pointer (some ⟨10,104,none⟩),.pointer (some ⟨w.heap.size,0,none⟩),.int .u64 150] 145)) (.cells #[.int .i64 c,.int .i64 p] 55); simpa using this)
  (by rw [gN (by simp; omega),gN (by simp; omega),gN (by simp; omega),gN hbl]; exact hb)
 go_enter Tryz.func52,Tryz.ntmps52
 go_wp2
 refine wp_loop_rounds 1 ?_
 rw [rounds_succ]
 go_wp2
 go_ret
 exact ⟨rfl,rfl⟩
theorem noIs (v:Value) (xT:TypeId) (w:World):(Instr.typeAssert (.iface 55 v) xT 192 true).run Tryz.prog w=.ok (.tuple #[.nilIface,.bool false]) w:=run_typeAssert_lacksB Tryz.underlying192 (by kernel_rfl) (by kernel_rfl) v xT w
theorem hasUn (v:Value) (xT:TypeId) (w:World):(Instr.typeAssert (.iface 55 v) xT 187 true).run Tryz.prog w=.ok (.tuple #[.iface 55 v,.bool true]) w:=run_typeAssert_hasB Tryz.underlying187 (by kernel_rfl) v xT w
theorem eqFC (v u:Value) (w:World):(binOp .eql 46 (.iface 55 v) (.iface 38 u)).run Tryz.prog w=.ok (.bool false) w:=run_eql_iface_types 55 38 v u Tryz.underlying46 (by decide) w
theorem eqCC (c:Int) (w:World):(binOp .eql 46 (.iface 38 (.int .i64 c)) (.iface 38 (.int .i64 c))).run Tryz.prog w=.ok (.bool true) w:=by
 simp only [binOp]
 have hc:Tryz.t38.comparable=true:=by kernel_rfl
 have h:∀ d:Nat,(Op.equalIn (d+1+1) 46 (.iface 38 (.int .i64 c)) (.iface 38 (.int .i64 c))).run Tryz.prog w=.ok true w:=fun d=>by simp [Op.equalIn,run_underlying Tryz.underlying46,run_underlying Tryz.underlying38,hc]
 simp [Op.equal,Op.maxDepth,h 9998]
set_option maxRecDepth 100000 in
set_option maxHeartbeats 4000000 in
theorem is_code (c p:Int) (w:World):Calls Tryz.prog 53 #[.iface 55 (.agg #[.int .i64 c,.int .i64 p]),.iface 38 (.int .i64 c)] w fun ev w'=>ev=.returned (.bool true)∧w'=w.alloc (.cells #[.int .i64 c,.int .i64 p] 55):=by
 have hTO:=@run_callFunc_extern Tryz.prog 108 _ ReflectliteType.typeOf Tryz.func108 (by kernel_rfl) (by kernel_rfl) (by kernel_rfl) (by kernel_rfl)
 have hrC := @run_callFunc_extern Tryz.prog 238 _ (ReflectliteType.method (fun t => do Rtype.noPackHeld "Comparable" t; pure (.bool (← Go.typeInfo t).comparable))) Tryz.func238 (by kernel_rfl) (by kernel_rfl) (by kernel_rfl) (by kernel_rfl)
 have q1:=typeOfC
 have q2:=nh
 have q3:=tP
 have q4:=noIs
 have q5:=hasUn
 have q6:=eqFC
 have q7:=eqCC
 have q8:=rU
 go_enter Tryz.func53,Tryz.ntmps53
 go_wp2
 refine wp_loop_rounds 2 ?_
 rw [rounds_succ]
 go_wp2
 rw [rounds_succ]
 go_wp2
 go_ret
 exact ⟨rfl,rfl⟩
end Go.Proofs.YtjbpkcbefmpfgaaGreatDoor
namespace Go.Proofs.YtjbpkcbefmpfgaaGreatDoor
open Go.WK Go.RowKit 
theorem zero55:(Tryz.prog.info? 55).map (·.zero)=some (some (.agg #[.int .i64 0,.int .i64 0])):=by kernel_rfl
theorem built55  : Tryz.prog.built 55 []=some ([.int .i64 0,.int .i64 0]:List Value).toArray:=by kernel_rfl
theorem sz55:szB Tryz.prog 55=some 2:=by kernel_rfl
theorem agg55:cF Tryz.prog 55=some true:=by kernel_rfl
theorem fo55_0:bo Tryz.prog 55 0=some 0:=by kernel_rfl
theorem agg38:cF Tryz.prog 38=some false:=by kernel_rfl
structure LX (w:World):Prop where
 c:w.cell? ⟨0,0,none⟩=some (.iface 180 (.agg #[.pointer (some ⟨10,46,none⟩)]))
theorem LX.chg {w w':World} (h:LX w) (hc:Chg [] w w'):LX w':=⟨by rw [hc.below.cell (p:=⟨0,0,none⟩) (World.block_lt_of_cell? _ _ h.c)]; exact h.c⟩
theorem asK (c p:Int) (b:Nat) (w:World) (hs:Sat ⟨default,0,[],w,[b]⟩ [box b 55 [.int .i64 0,.int .i64 0]] w) (hX:LX w) :
  Calls Tryz.prog 52 #[.iface 55 (.agg #[.int .i64 c,.int .i64 p]),.iface 104 (.pointer (some ⟨b,0,none⟩))] w (Turn w [b] (fun _:Unit=>.bool true) (fun _=>[box b 55 [.int .i64 c,.int .i64 p]]) (fun _=>True)):=by
 have hb:w.heap[b]? = some (.cells #[.int .i64 0,.int .i64 0] 55 (0,0)):=hs.holds _ List.mem_cons_self
 refine (as_hit c p b _ _ w hX.c hb).mono fun e w' ⟨he,hw⟩=>⟨(),trivial,he, ?_⟩
 subst hw
 have h4:Sat ⟨default,0,[],w,[b]⟩ [box b 55 [.int .i64 0,.int .i64 0]] ((((w.alloc (.cells #[.pointer (some ⟨b,0,none⟩)] 104)).alloc (.cells #[.pointer (some ⟨10,104,none⟩),.pointer (some ⟨w.heap.size,0,none⟩),.int .u64 150] 145)).alloc (.cells #[.pointer (some ⟨10,104,none⟩),.pointer (some ⟨w.heap.size,0,none⟩),.int .u64 150] 145)).alloc (.cells #[.int .i64 c,.int .i64 p] 55)):=(((hs.ext (Chg.alloc [] _ _)).ext (Chg.alloc [] _ _)).ext (Chg.alloc [] _ _)).ext (Chg.alloc [] _ _)
 have hb4:(((((w.alloc (.cells #[.pointer (some ⟨b,0,none⟩)] 104)).alloc (.cells #[.pointer (some ⟨10,104,none⟩),.pointer (some ⟨w.heap.size,0,none⟩),.int .u64 150] 145)).alloc (.cells #[.pointer (some ⟨10,104,none⟩),.pointer (some ⟨w.heap.size,0,none⟩),.int .u64 150] 145)).alloc (.cells #[.int .i64 c,.int .i64 p] 55))).heap[b]? = some (.cells #[.int .i64 0,.int .i64 0] 55 (0,0)):=h4.holds _ List.mem_cons_self
 exact h4.change Nth.z (box b 55 [.int .i64 c,.int .i64 p]) (gE _ hb4) rfl rfl rfl (by simp) (fun k _ hk=>fP _ (fun e=>hk e)) (fun k hk=>.inl hk)
theorem isK (c p:Int) (w:World):Calls Tryz.prog 53 #[.iface 55 (.agg #[.int .i64 c,.int .i64 p]),.iface 38 (.int .i64 c)] w (cG w (.bool true)) :=
 (is_code c p w).mono fun e w' ⟨he,hw⟩=>⟨he,by rw [hw]; exact Chg.alloc [] _ _⟩
theorem faultK (r:Res) (w:World) (hX:LX w):Calls Tryz.prog 18 #[errR 55 r] w (cG w (.agg #[.int .i64 (fc r).1,.int .i64 (fc r).2])):=by
 refine az (args:=[errR 55 r]) (lent:=[]) (H:=[]) Tryz.func18 rfl Tryz.ntmps18 rfl (Sat.start _ _ _ _) ((show Tri _ [(0,_)] _ _ _ from ae (aa (aQ _ rfl zero55 rfl (fun b2=>triL_nilN (ae (ae (aa (ai rfl rfl (ow ifE (errIs _ _) rfl rfl (triL_nilN (aG rfl (fun h0=>?_) (fun h0=>?_)))))))))))))
 · skip
   obtain ⟨ts,rfl⟩:=okR_ok h0
   refine ae (aa (aT built55 rfl rfl (aC sz55 N0 rfl rfl rfl rfl rfl (Nat.le_of_ble_eq_true rfl) rfl (triL_nilN (aq (an (cS rfl agg55 sz55 N0 rfl rfl ?_))))))); exact fun w1 hw1=>⟨rfl,hw1.chg⟩
 · skip
   obtain ⟨e,rfl⟩:=vM h0
   refine ao (ag (ae (aa (aQ _ rfl zero55 rfl (fun b3=>triL_nilN (ae (ae (aa (ai rfl rfl (jW Tryz.underlying104 rfl rfl rfl (gK (first:=[]) (cap:=[]) [] [_] _ [b3] rfl rfl rfl rfl Tryz.call52 aw ar (fun w1 h1 h2=>asK e.1 e.2 b3 w1 h2.cx (hX.chg h1.chg)) (fun _ _=>ai rfl rfl ?_))))))))))))
   refine' aJ [_,_,_,_,_] [(3,_),(2,_)] (dj:=10) (dr:=15) rfl rfl (fun g1=>?_) ⟨_,rfl,rfl,rfl,(.cons rfl (.cons rfl (.nil _)))⟩ rfl ?_
   rotate_left
   · skip
     exact ai rfl rfl (aj fo55_0 rfl rfl (ak agg38 N0 rfl rfl rfl (jW Tryz.underlying38 rfl rfl rfl (aF (first:=[]) (cap:=[]) rfl rfl rfl Tryz.call53 (fun w1 h1=>isK e.1 e.2 w1) (ab (Piece.mk rfl rfl (.cons rfl (.cons rfl (.nil _))) (fun _ h=>h)))))))
   refine triL_nilN (cn rfl (ae (aa (aS agg55 sz55 N0 rfl rfl rfl rfl (aC sz55 N1 rfl rfl rfl rfl rfl (Nat.le_of_ble_eq_true rfl) rfl (triL_nilN (aq (an (cS rfl agg55 sz55 N1 rfl rfl ?_))))))))); exact fun w1 hw1=>⟨rfl,hw1.chg⟩
end Go.Proofs.YtjbpkcbefmpfgaaGreatDoor
namespace Go.Proofs.YtjbpkcbefmpfgaaGreatDoor
open Go.WK Go.RowKit 
theorem fo62_2:bo Tryz.prog 62 2=some 2:=by kernel_rfl
end Go.Proofs.YtjbpkcbefmpfgaaGreatDoor
namespace Go.Proofs.YtjbpkcbefmpfgaaGreatDoor
open Go.WK Go.RowKit 
theorem dE:bo Tryz.prog 96 0=some 0:=by kernel_rfl
theorem hG:cF Tryz.prog 58=some false:=by kernel_rfl
theorem sz58:szB Tryz.prog 58=some 1:=by kernel_rfl
theorem qQ (x0_0:Int) (x0_1:Int):Tryz.prog.built 92 [(0,.agg (([.int .i64 x0_0,.int .i64 x0_1]:List Value)).toArray)]=some ([.int .i64 x0_0,.int .i64 x0_1]:List Value).toArray:=by kernel_rfl
theorem kl:bo Tryz.prog 96 1=some 1:=by kernel_rfl
theorem nameRk (s:List UInt8) (w:World) (hs:s.length≤140737488355328):Calls Tryz.prog 68 #[.string (B s)] w (cG w (.bool (il s))):=by
 refine az (args:=[.string (B s)]) (lent:=[]) (H:=[]) Tryz.func68 rfl Tryz.ntmps68 rfl (Sat.start _ _ _ _) ((show Tri _ [(0,_)] _ _ _ from ?_))
 rw [nameR_eq]
 have e24:decide ((24:Int) < (s.length:Int))=decide (24 < s.length):=decide_eq_decide.2 (by omega)
 refine ae (aa (o_assignN rfl rfl (ae (ae (aa (ai rfl rfl (bE rfl rfl rfl (ai rfl rfl ?_))))))))
 refine' bv [_,_,_] [(0,_)] (dj:=7) (dr:=10) rfl rfl (fun g1=>?_) ⟨_,rfl,rfl,rfl,(.cons rfl (.nil _))⟩ rfl ?_
 rotate_left
 · skip
   exact ai rfl rfl (hZ Tryz.underlying9 rfl rfl (i8 rfl rfl rfl (ab (Piece.mk rfl rfl (.cons rfl (.nil _)) (fun _ h=>h)))))
 refine triL_nilN (aG rfl (fun h0=>?_) (fun h0=>?_))
 · skip
   rw [e24] at h0
   refine ae (aa (o_assignN rfl rfl (aq (an (ba rfl rfl ?_))))); exact fun w1 hw1=>⟨congrArg (fun b=>Ending.returned (.bool b)) (by rw [h0]; rfl),hw1.chg⟩
 · skip
   rw [e24] at h0
   refine ao (ag (ae (ae (aa (ai rfl rfl (hZ Tryz.underlying9 rfl rfl (ai rfl rfl (triL_nilN (ay (bI (ι:=Nat) (F:=fun i=>[(0,.string (B s)),(13,.int .i64 (s.length:Int)),(14,.int .i64 (i:Int))]) (HH:=fun i=>[]) (Pu:=fun i=>i≤s.length∧nmL true s=nmL (decide (i=0)) (s.drop i)) (μ:=fun i=>s.length - i) (0) (.cons rfl (.cons rfl (.cons rfl (.nil _)))) (fun _ h=>h) (⟨by omega,by simp⟩) (fun i hi=>ae (aa (cR rfl rfl rfl (triL_nilN (ae (av rfl (fun h1=>?_) (fun h1=>?_)))))))))))))))))
   · skip
     refine ao (ag (ae (ay (ae (aa (ai rfl rfl (o_assignN rfl rfl (ae (aa (ai rfl rfl (ai rfl rfl (jl Tryz.underlying9 rfl rfl rfl (by omega) (by omega) (o_assignN rfl rfl (ay (ae (tri_slo [(4,_),(3,_),(0,_),(13,_),(14,_)] rfl (aa (ai rfl rfl (mh rfl rfl rfl (ai rfl rfl ?_))))))))))))))))))))
     refine' aJ [_,_] [(4,_),(3,_),(0,_),(13,_),(14,_)] (dj:=23) (dr:=25) rfl rfl (fun g2=>?_) ⟨_,rfl,rfl,rfl,(.cons rfl (.cons rfl (.cons rfl (.cons rfl (.cons rfl (.nil _))))))⟩ rfl ?_
     rotate_left
     · skip
       exact ai rfl rfl (lH rfl rfl rfl (ab (Piece.mk rfl rfl (.cons rfl (.cons rfl (.cons rfl (.cons rfl (.cons rfl (.nil _)))))) (fun _ h=>h))))
     refine o_assignN rfl rfl (aG rfl (fun h2=>?_) (fun h2=>?_))
     · skip
       have h2:(decide ((97:Int)≤((s.getD i 0).toNat:Int)) && decide (((s.getD i 0).toNat:Int)≤122))=true:=h2
       exact ao (am (am (ag (tri_slo [(0,_),(13,_),(14,_)] rfl (aa (bJ rfl rfl rfl (by omega) (ai rfl rfl (triL_nilN (⟨i+1,(.cons rfl (.cons rfl (.cons rfl (.nil _)))),fun _ h=>h,⟨by omega,by rw [hi.2,oJ _ (by omega),nm_yes _ h2]; simp⟩,by omega⟩)))))))))
     · skip
       have h2:(decide ((97:Int)≤((s.getD i 0).toNat:Int)) && decide (((s.getD i 0).toNat:Int)≤122))=false:=h2
       refine ae (aa (ai rfl rfl (i8 rfl rfl rfl (ai rfl rfl ?_))))
       refine' aJ [_,_,_,_,_,_,_,_,_,_] [(0,_),(13,_),(14,_)] (dj:=30) (dr:=40) rfl rfl (fun g3=>?_) ⟨_,rfl,rfl,rfl,(.cons rfl (.cons rfl (.cons rfl (.nil _))))⟩ rfl ?_
       rotate_left
       · skip
         refine ai rfl rfl (mh rfl rfl rfl (ai rfl rfl ?_))
         refine' aJ [_,_] [(30,_),(4,_),(0,_),(13,_),(14,_)] (dj:=33) (dr:=35) rfl rfl (fun g4=>?_) ⟨_,rfl,rfl,rfl,(.cons rfl (.cons rfl (.cons rfl (.cons rfl (.cons rfl (.nil _))))))⟩ rfl ?_
         rotate_left
         · skip
           exact ai rfl rfl (lH rfl rfl rfl (ab (Piece.mk rfl rfl (.cons rfl (.cons rfl (.cons rfl (.cons rfl (.cons rfl (.nil _)))))) (fun _ h=>h))))
         refine ai rfl rfl ?_
         refine' bv [_,_] [(30,_),(0,_),(13,_),(14,_)] (dj:=37) (dr:=39) rfl rfl (fun g5=>?_) ⟨_,rfl,rfl,rfl,(.cons rfl (.cons rfl (.cons rfl (.cons rfl (.nil _)))))⟩ rfl ?_
         rotate_left
         · skip
           exact ai rfl rfl (aD rfl rfl rfl (ab (Piece.mk rfl rfl (.cons rfl (.cons rfl (.cons rfl (.cons rfl (.nil _))))) (fun _ h=>h))))
         exact ab (Piece.mk rfl rfl (.cons rfl (.cons rfl (.cons rfl (.nil _)))) (fun _ h=>h))
       refine o_assignN rfl rfl (aG rfl (fun h3=>?_) (fun h3=>?_))
       · skip
         exact ao (am (am (ag (aa (bJ rfl rfl rfl (by omega) (ai rfl rfl (triL_nilN (⟨i+1,(.cons rfl (.cons rfl (.cons rfl (.nil _)))),fun _ h=>h,⟨by omega,by rw [hi.2,oJ _ (by omega),vU h2 h3]; simp⟩,by omega⟩))))))))
       · skip
         refine ae (au [] (.nil _) (aa (o_assignN rfl rfl (aq (ap (ap (an (an (ap (an (ba rfl rfl ?_))))))))))); exact fun w1 hw1=>⟨congrArg (fun b=>Ending.returned (.bool b)) (by rw [hi.2,oJ _ (by omega),vU h2 h3]; simp),hw1.chg⟩
   · skip
     refine bu (ax (ax (aP (ag (ae (au [] (.nil _) (aa (o_assignN rfl rfl (aq (ba rfl rfl ?_)))))))))); exact fun w1 hw1=>⟨congrArg (fun b=>Ending.returned (.bool b)) (by rw [hi.2,List.drop_eq_nil_of_le (by omega),h0]; rfl),hw1.chg⟩
theorem nextK (k:Int) (t:List UInt8) (pb:Nat) (a:Addr) (k0:Nat) (T ts:List Tok) (d:Nat) (w:World) (hA:At w pb a k0 T ts d) (hk:k≠5):Calls Tryz.prog 103 #[.pointer (some ⟨pb,0,none⟩),.int .i64 k,.string (B t)] w (dz w [pb] (fun _:Unit=>.bool (atT k t ts)) (fun _=>[pC pb a k0 T (if atT k t ts=true then ts.drop 1 else ts) (d)]) (fun _=>True) (fun _=>False)):=by
 refine az (args:=[.pointer (some ⟨pb,0,none⟩),.int .i64 k,.string (B t)]) (lent:=[pb]) (H:=[pC pb a k0 T ts d]) Tryz.func103 rfl Tryz.ntmps103 rfl hA.sat.cx ((show Tri _ [(0,_),(1,_),(2,_)] _ _ _ from ?_))
 have hto:=ep hA.env hA.suf hA.good
 have hR:=hA.env.rds ts hA.suf
 have hl:=hA.good.ne
 have hle:=hA.suf.length_le
 have hlk:=hA.env.len
 have hbn:=hA.env.bnd
 have hdp:=hA.dep
 refine ae (aa (o_assignN rfl rfl (ae (ae (aa (ai rfl rfl (aE rfl rfl (aj dE rfl rfl (ak hG N0 rfl rfl rfl (aU Tryz.underlying58 fj rfl rfl rfl (hR _ _ rfl rfl) (by omega) (by omega) (bY _) (by decide) (aV iU rfl rfl (hR _ _ rfl rfl) (hd_k hA.good) (aL bR rfl rfl (hR _ _ rfl rfl) (hd_k hA.good) (ai rfl rfl (cX rfl rfl rfl (ai rfl rfl ?_)))))))))))))))
 refine' bv [_,_,_,_,_,_,_,_,_] [(0,_)] (dj:=16) (dr:=25) rfl rfl (fun g1=>?_) ⟨_,rfl,rfl,rfl,(.cons rfl (.nil _))⟩ rfl ?_
 rotate_left
 · skip
   exact ai rfl rfl (aE rfl rfl (aj dE rfl rfl (ak hG N0 rfl rfl rfl (aU Tryz.underlying58 fj rfl rfl rfl (hR _ _ rfl rfl) (by omega) (by omega) (bY _) (by decide) (aV gt rfl rfl (hR _ _ rfl rfl) (hd_k hA.good) (aL bB rfl rfl (hR _ _ rfl rfl) (hd_t hA.good) (ai rfl rfl (dX rfl rfl rfl (ab (Piece.mk rfl rfl (.cons rfl (.nil _)) (fun _ h=>h)))))))))))
 refine triL_nilN (aG rfl (fun h0=>?_) (fun h0=>?_))
 · skip
   have h0:=at_no h0
   exact ae (aa (o_assignN rfl rfl (aq (an (ba rfl rfl (aK () (by rw [h0]) trivial (fun w2 hw2=>by rw [h0]; exact hw2.sel [0] (by decide))))))))
 · skip
   have h0:=at_yes h0
   have hg:=hA.good.next hk h0
   have hl2:=hg.ne
   rw [List.length_drop] at hl2
   exact ao (ag (ae (aa (ai rfl rfl (ai rfl rfl (aE rfl rfl (aj dE rfl rfl (ak hG N0 rfl rfl rfl (jz Tryz.underlying58 fj rfl rfl rfl (by omega) (by omega) (by omega) (ey (v':=pSl a k0 T (ts.drop 1)) (oI a k0 hA.suf hA.env.len (by omega)) (aE rfl rfl (aj dE rfl rfl (aC sz58 N0 rfl rfl rfl rfl rfl (Nat.le_of_ble_eq_true rfl) rfl (triL_nilN (ae (au [] (.nil _) (aa (o_assignN rfl rfl (aq (ba rfl rfl (aK () (by rw [h0]) trivial (fun w2 hw2=>by rw [h0]; exact hw2.sel [0] (by decide)))))))))))))))))))))))
theorem kw (e:Int) (pb:Nat) (a:Addr) (k0:Nat) (T ts:List Tok) (d:Nat) (w:World) (hA:At w pb a k0 T ts d):Calls Tryz.prog 47 #[.pointer (some ⟨pb,0,none⟩),.int .i64 e] w (dz w [pb] (fun _:Unit=>.tuple #[]) (fun _=>[pC pb a k0 T (ts) (d)]) (fun _=>False) (fun ch=>ch=dl (e,(hd ts).a))):=by
 refine az (args:=[.pointer (some ⟨pb,0,none⟩),.int .i64 e]) (lent:=[pb]) (H:=[pC pb a k0 T ts d]) Tryz.func47 rfl Tryz.ntmps47 rfl hA.sat.cx ((show Tri _ [(0,_),(1,_)] _ _ _ from ?_))
 have hto:=ep hA.env hA.suf hA.good
 have hR:=hA.env.rds ts hA.suf
 have hl:=hA.good.ne
 have hle:=hA.suf.length_le
 have hlk:=hA.env.len
 have hbn:=hA.env.bnd
 have hdp:=hA.dep
 exact aa (ai rfl rfl (ai rfl rfl (aE rfl rfl (aj dE rfl rfl (ak hG N0 rfl rfl rfl (aU Tryz.underlying58 fj rfl rfl rfl (hR _ _ rfl rfl) (by omega) (by omega) (bY _) (by decide) (aV fo62_2 rfl rfl (hR _ _ rfl rfl) (hd_k hA.good) (aL bR rfl rfl (hR _ _ rfl rfl) (hd_a hA.good) (aT (jh _ _) rfl rfl (aT (qQ _ _) rfl rfl (jW Tryz.underlying92 rfl rfl rfl (vT rfl rfl (aA rfl)))))))))))))
theorem dp (t:List UInt8) (pb:Nat) (a:Addr) (k0:Nat) (T ts:List Tok) (d:Nat) (w:World) (hA:At w pb a k0 T ts d):Calls Tryz.prog 90 #[.pointer (some ⟨pb,0,none⟩),.string (B t)] w (dz w [pb] (fun _:Unit=>.bool (atT 1 t ts)) (fun _=>[pC pb a k0 T (if atT 1 t ts=true then ts.drop 1 else ts) (d)]) (fun _=>True) (fun _=>False)):=by
 refine az (args:=[.pointer (some ⟨pb,0,none⟩),.string (B t)]) (lent:=[pb]) (H:=[pC pb a k0 T ts d]) Tryz.func90 rfl Tryz.ntmps90 rfl hA.sat.cx ((show Tri _ [(0,_),(1,_)] _ _ _ from ?_))
 have hto:=ep hA.env hA.suf hA.good
 have hR:=hA.env.rds ts hA.suf
 have hl:=hA.good.ne
 have hle:=hA.suf.length_le
 have hlk:=hA.env.len
 have hbn:=hA.env.bnd
 have hdp:=hA.dep
 exact ae (aa (o_assignN rfl rfl (ae (aa (ai rfl rfl (ai rfl rfl (aB (first:=[]) (cap:=[]) [pb] N0 rfl rfl rfl Tryz.call103 aw ar (fun w1 h1 h2=>nextK 1 t pb a k0 T ts d w1 (hA.sub h1.chg (Cuts.refl hA.good) hA.dep h2) (by decide)) (fun ch hF=>hF.elim) (fun u_ hu_=>o_assignN rfl rfl (aq (ba rfl rfl (aK () (rfl) (trivial) (fun w2 hw2=>hw2.sel [0] (by decide)))))))))))))
theorem nH (t:List UInt8) (pb:Nat) (a:Addr) (k0:Nat) (T ts:List Tok) (d:Nat) (w:World) (hA:At w pb a k0 T ts d):Calls Tryz.prog 46 #[.pointer (some ⟨pb,0,none⟩),.string (B t)] w (dz w [pb] (fun _:Unit=>.bool (atT 4 t ts)) (fun _=>[pC pb a k0 T (if atT 4 t ts=true then ts.drop 1 else ts) (d)]) (fun _=>True) (fun _=>False)):=by
 refine az (args:=[.pointer (some ⟨pb,0,none⟩),.string (B t)]) (lent:=[pb]) (H:=[pC pb a k0 T ts d]) Tryz.func46 rfl Tryz.ntmps46 rfl hA.sat.cx ((show Tri _ [(0,_),(1,_)] _ _ _ from ?_))
 have hto:=ep hA.env hA.suf hA.good
 have hR:=hA.env.rds ts hA.suf
 have hl:=hA.good.ne
 have hle:=hA.suf.length_le
 have hlk:=hA.env.len
 have hbn:=hA.env.bnd
 have hdp:=hA.dep
 exact ae (aa (o_assignN rfl rfl (ae (aa (ai rfl rfl (ai rfl rfl (aB (first:=[]) (cap:=[]) [pb] N0 rfl rfl rfl Tryz.call103 aw ar (fun w1 h1 h2=>nextK 4 t pb a k0 T ts d w1 (hA.sub h1.chg (Cuts.refl hA.good) hA.dep h2) (by decide)) (fun ch hF=>hF.elim) (fun u_ hu_=>o_assignN rfl rfl (aq (ba rfl rfl (aK () (rfl) (trivial) (fun w2 hw2=>hw2.sel [0] (by decide)))))))))))))
theorem tR:kept=wds:=by decide
theorem nm_eq (ts:List Tok):((decide ((hd ts).k=1) && !decide ((hd ts).t ∈ wds)) && il (hd ts).t)=nmT ts:=by
 unfold nmT nameOk
 rw [tR]
 cases decide ((hd ts).k=1)<;>cases decide ((hd ts).t ∈ wds)<;>cases il (hd ts).t<;>rfl
theorem lN (t:List UInt8) (pb:Nat) (a:Addr) (k0:Nat) (T ts:List Tok) (d:Nat) (w:World) (hA:At w pb a k0 T ts d):Calls Tryz.prog 99 #[.pointer (some ⟨pb,0,none⟩),.string (B t)] w (dz w [pb] (fun _:Unit=>.tuple #[]) (fun _=>[pC pb a k0 T (ts.drop 1) (d)]) (fun _=>atT 4 t ts=true) (fun ch=>atT 4 t ts=false∧ch=dl (190,(hd ts).a))):=by
 refine az (args:=[.pointer (some ⟨pb,0,none⟩),.string (B t)]) (lent:=[pb]) (H:=[pC pb a k0 T ts d]) Tryz.func99 rfl Tryz.ntmps99 rfl hA.sat.cx ((show Tri _ [(0,_),(1,_)] _ _ _ from ?_))
 have hto:=ep hA.env hA.suf hA.good
 have hR:=hA.env.rds ts hA.suf
 have hl:=hA.good.ne
 have hle:=hA.suf.length_le
 have hlk:=hA.env.len
 have hbn:=hA.env.bnd
 have hdp:=hA.dep
 refine ae (aa (ai rfl rfl (ai rfl rfl (aB (first:=[]) (cap:=[]) [pb] N0 rfl rfl rfl Tryz.call46 aw ar (fun w1 h1 h2=>nH t pb a k0 T ts d w1 (hA.sub h1.chg (Cuts.refl hA.good) hA.dep h2)) (fun ch hF=>hF.elim) (fun u_ hu_=>dV rfl rfl (triL_nilN (aG rfl (fun h0=>?_) (fun h0=>?_))))))))
 · skip
   have h0:=cJ h0
   refine tri_slo [(0,_)] rfl ?_
   rw [if_neg (by rw [h0]; decide)]
   refine aa (ai rfl rfl (aB (first:=[]) (cap:=[]) [pb] N0 rfl rfl rfl Tryz.call47 aw ar (fun w1 h1 h2=>kw 190 pb a k0 T _ _ w1 (hA.sub h1.chg (Cuts.refl hA.good) hA.dep h2)) (fun ch hF=>aA ⟨h0,hF⟩) (fun j hj=>hj.elim)))
 · skip
   have h0:=cp h0
   exact ao (bS rfl (aK () (rfl) (h0) (fun w2 hw2=>by rw [if_pos h0] at hw2; exact hw2.sel [0] (by decide))))
theorem mb (pb:Nat) (a:Addr) (k0:Nat) (T ts:List Tok) (d:Nat) (w:World) (hA:At w pb a k0 T ts d):Calls Tryz.prog 97 #[.pointer (some ⟨pb,0,none⟩)] w (dz w [pb] (fun _:Unit=>.bool (nmT ts)) (fun _=>[pC pb a k0 T (ts) (d)]) (fun _=>True) (fun _=>False)):=by
 refine az (args:=[.pointer (some ⟨pb,0,none⟩)]) (lent:=[pb]) (H:=[pC pb a k0 T ts d]) Tryz.func97 rfl Tryz.ntmps97 rfl hA.sat.cx ((show Tri _ [(0,_)] _ _ _ from ?_))
 have hto:=ep hA.env hA.suf hA.good
 have hR:=hA.env.rds ts hA.suf
 have hl:=hA.good.ne
 have hle:=hA.suf.length_le
 have hlk:=hA.env.len
 have hbn:=hA.env.bnd
 have hdp:=hA.dep
 refine ae (aa (o_assignN rfl rfl (ae (aa (ai rfl rfl (aE rfl rfl (aj dE rfl rfl (ak hG N0 rfl rfl rfl (aU Tryz.underlying58 fj rfl rfl rfl (hR _ _ rfl rfl) (by omega) (by omega) (bY _) (by decide) (iK 0 mE fj rfl rfl (hR _ _ rfl rfl) (by omega) (by omega) (aQ (Tok.cs Tok.zero) rfl nd rfl (fun b3=>ea fj N0 rfl rfl rfl (triL_nilN (ae (tri_slo [(3,_)] rfl (aa (aj iU rfl rfl (ak bR N0 rfl rfl rfl (aD rfl rfl rfl (ai rfl rfl ?_))))))))))))))))))))
 refine' aJ [_,_,_,_] [(3,_)] (dj:=13) (dr:=17) rfl rfl (fun g1=>?_) ⟨_,rfl,rfl,rfl,(.cons rfl (.nil _))⟩ rfl ?_
 rotate_left
 · skip
   exact aj gt rfl rfl (ak bB N0 rfl rfl rfl (aF (first:=[]) (cap:=[]) rfl rfl rfl Tryz.call69 (fun w1 h1=>wordK (hd ts).t w1) (dV rfl rfl (ab (Piece.mk rfl rfl (.cons rfl (.nil _)) (fun _ h=>h))))))
 refine ai rfl rfl ?_
 refine' aJ [_,_,_] [] (dj:=19) (dr:=22) rfl rfl (fun g2=>?_) ⟨_,rfl,rfl,rfl,(.nil _)⟩ rfl ?_
 rotate_left
 · skip
   exact aj gt rfl rfl (ak bB N0 rfl rfl rfl (aF (first:=[]) (cap:=[]) rfl rfl rfl Tryz.call68 (fun w1 h1=>nameRk (hd ts).t w1 (by have:=hto.len; omega)) (ab (Piece.mk rfl rfl (.nil _) (fun _ h=>h)))))
 exact o_assignN rfl rfl (aq (ba rfl rfl (aK () (by rw [← nm_eq]; rfl) (trivial) (fun w2 hw2=>hw2.sel [1] (by decide)))))
theorem eG (pb:Nat) (a:Addr) (k0:Nat) (T ts:List Tok) (d:Nat) (w:World) (hA:At w pb a k0 T ts d):Calls Tryz.prog 92 #[.pointer (some ⟨pb,0,none⟩)] w (dz w [pb] (fun _:Unit=>.string (B (hd ts).t)) (fun _=>[pC pb a k0 T (ts.drop 1) (d)]) (fun _=>nmT ts=true) (fun ch=>nmT ts=false∧ch=dl (190,(hd ts).a))):=by
 refine az (args:=[.pointer (some ⟨pb,0,none⟩)]) (lent:=[pb]) (H:=[pC pb a k0 T ts d]) Tryz.func92 rfl Tryz.ntmps92 rfl hA.sat.cx ((show Tri _ [(0,_)] _ _ _ from ?_))
 have hto:=ep hA.env hA.suf hA.good
 have hR:=hA.env.rds ts hA.suf
 have hl:=hA.good.ne
 have hle:=hA.suf.length_le
 have hlk:=hA.env.len
 have hbn:=hA.env.bnd
 have hdp:=hA.dep
 refine ae (aa (o_assignN rfl rfl (ae (ae (aa (ai rfl rfl (aB (first:=[]) (cap:=[]) [pb] N0 rfl rfl rfl Tryz.call97 aw ar (fun w1 h1 h2=>mb pb a k0 T ts d w1 (hA.sub h1.chg (Cuts.refl hA.good) hA.dep h2)) (fun ch hF=>hF.elim) (fun u_ hu_=>dV rfl rfl (triL_nilN (aG rfl (fun h0=>?_) (fun h0=>?_)))))))))))
 · skip
   have h0:=cJ h0
   refine tri_slo [(0,_)] rfl (aa (ai rfl rfl (aB (first:=[]) (cap:=[]) [pb] N0 rfl rfl rfl Tryz.call47 aw ar (fun w1 h1 h2=>kw 190 pb a k0 T _ _ w1 (hA.sub h1.chg (Cuts.refl hA.good) hA.dep h2)) (fun ch hF=>aA ⟨h0,hF⟩) (fun j hj=>hj.elim))))
 · skip
   have h0:=cp h0
   have hg:=hA.good.name h0
   have hl2:=hg.ne
   rw [List.length_drop] at hl2
   exact ao (ag (ae (tri_slo [(0,_)] rfl (aa (ai rfl rfl (aE rfl rfl (aj dE rfl rfl (ak hG N0 rfl rfl rfl (aU Tryz.underlying58 fj rfl rfl rfl (hR _ _ rfl rfl) (by omega) (by omega) (bY _) (by decide) (aV gt rfl rfl (hR _ _ rfl rfl) (hd_k hA.good) (aL bB rfl rfl (hR _ _ rfl rfl) (hd_t hA.good) (o_assignN rfl rfl (ae (tri_slo [(3,_),(0,_)] rfl (aa (ai rfl rfl (ai rfl rfl (aE rfl rfl (aj dE rfl rfl (ak hG N0 rfl rfl rfl (jz Tryz.underlying58 fj rfl rfl rfl (by omega) (by omega) (by omega) (ey (v':=pSl a k0 T (ts.drop 1)) (oI a k0 hA.suf hA.env.len (by omega)) (aE rfl rfl (aj dE rfl rfl (aC sz58 N0 rfl rfl rfl rfl rfl (Nat.le_of_ble_eq_true rfl) rfl (triL_nilN (ae (tri_slo [(3,_)] rfl (aa (ai rfl rfl (o_assignN rfl rfl (aq (ba rfl rfl (aK () (rfl) (h0) (fun w2 hw2=>hw2.sel [0] (by decide))))))))))))))))))))))))))))))))))))
theorem rX (t:Tok) (pb:Nat) (a:Addr) (k0:Nat) (T ts:List Tok) (d:Nat) (w:World) (hA:At w pb a k0 T ts d):Calls Tryz.prog 167 #[.pointer (some ⟨pb,0,none⟩),aggT t] w (dz w [pb] (fun _:Unit=>.tuple #[]) (fun _=>[pC pb a k0 T (ts) (d+1)]) (fun _=>d+1≤24) (fun ch=>24 < d+1∧ch=dl (191,t.a))):=by
 refine az (args:=[.pointer (some ⟨pb,0,none⟩),aggT t]) (lent:=[pb]) (H:=[pC pb a k0 T ts d]) Tryz.func167 rfl Tryz.ntmps167 rfl hA.sat.cx ((show Tri _ [(0,_),(1,_)] _ _ _ from ?_))
 have hto:=ep hA.env hA.suf hA.good
 have hR:=hA.env.rds ts hA.suf
 have hl:=hA.good.ne
 have hle:=hA.suf.length_le
 have hlk:=hA.env.len
 have hbn:=hA.env.bnd
 have hdp:=hA.dep
 refine ae (aa (cD (Tok.cs _) rfl rfl rfl (fun b3=>triL_nilN (ae (aa (ai rfl rfl (aE rfl rfl (aj kl rfl rfl (ak bR N1 rfl rfl rfl (bJ rfl rfl rfl (by omega) (aE rfl rfl (aj kl rfl rfl (aC sz3 N1 rfl rfl rfl rfl rfl (Nat.le_of_ble_eq_true rfl) rfl (triL_nilN (ae (tri_slo [(3,_),(0,_)] rfl (aa (ai rfl rfl (aE rfl rfl (aj kl rfl rfl (ak bR N1 rfl rfl rfl (i8 rfl rfl rfl (triL_nilN (av rfl (fun h0=>?_) (fun h0=>?_)))))))))))))))))))))))))
 · skip
   exact tri_slo [(3,_)] rfl (aa (aj fo62_2 rfl rfl (ak bR N0 rfl rfl rfl (aT (jh _ _) rfl rfl (aT (qQ _ _) rfl rfl (jW Tryz.underlying92 rfl rfl rfl (vT rfl rfl (aA ⟨by omega,rfl⟩))))))))
 · skip
   exact ao (bS rfl (aK () (rfl) (by omega) (fun w2 hw2=>hw2.sel [1] (by decide))))
end Go.Proofs.YtjbpkcbefmpfgaaGreatDoor
namespace Go.Proofs.YtjbpkcbefmpfgaaGreatDoor
open Go.WK Go.RowKit 
theorem dF:(Tryz.prog.info? 30).map (·.zero)=some (some (.agg #[.int .i64 0,.int .i64 0,.int .i64 0,.string .empty,.string .empty,.string .empty,.int .i64 0,.slice none 0 0])):=by kernel_rfl
theorem lO:cF Tryz.prog 27=some true:=by kernel_rfl
theorem nP:szB Tryz.prog 27=some 3:=by kernel_rfl
theorem tS (x0:Int) (x1:Val):Tryz.prog.built 30 [(0,.int .i64 x0),(1,.agg (Val.cs x1).toArray)]=some ([.int .i64 x0,.int .i64 x1.k,.int .i64 x1.n,.string (B x1.s),.string .empty,.string .empty,.int .i64 0,.slice none 0 0]:List Value).toArray:=by kernel_rfl
theorem aY:szB Tryz.prog 30=some 8:=by kernel_rfl
theorem bh:cF Tryz.prog 30=some true:=by kernel_rfl
theorem qR:∀ (x0 x1 x2:Tok),Tryz.prog.built 198 [(0,.agg (Tok.cs x0).toArray),(1,.agg (Tok.cs x1).toArray),(2,.agg (Tok.cs x2).toArray)]=some (toksV [x0,x1,x2]).toArray:=by intros; kernel_rfl
theorem lB:(Tryz.prog.info? 198).map (·.zero)=some (some (.agg #[.int .i64 0,.string .empty,.int .i64 0,.int .i64 0,.string .empty,.int .i64 0,.int .i64 0,.string .empty,.int .i64 0])):=by kernel_rfl
theorem bP (x:Int) (y:List UInt8) (z:Int):Tryz.prog.built 176 [(0,.int .i64 x),(1,.string (B y)),(2,.int .i64 z)]=some (Tok.cs ⟨x,y,z⟩).toArray:=by kernel_rfl
theorem nI:szB Tryz.prog 198=some 9:=by kernel_rfl
theorem agg198:cF Tryz.prog 198=some true:=by kernel_rfl
theorem yK:∀ (x0 x1 x2 x3 x4 x5:Tok),Tryz.prog.built 196 [(0,.agg (Tok.cs x0).toArray),(1,.agg (Tok.cs x1).toArray),(2,.agg (Tok.cs x2).toArray),(3,.agg (Tok.cs x3).toArray),(4,.agg (Tok.cs x4).toArray),(5,.agg (Tok.cs x5).toArray)]=some (toksV [x0,x1,x2,x3,x4,x5]).toArray:=by intros; kernel_rfl
theorem wM:(Tryz.prog.info? 196).map (·.zero)=some (some (.agg #[.int .i64 0,.string .empty,.int .i64 0,.int .i64 0,.string .empty,.int .i64 0,.int .i64 0,.string .empty,.int .i64 0,.int .i64 0,.string .empty,.int .i64 0,.int .i64 0,.string .empty,.int .i64 0,.int .i64 0,.string .empty,.int .i64 0])):=by kernel_rfl
theorem sz196:szB Tryz.prog 196=some 18:=by kernel_rfl
theorem agg196:cF Tryz.prog 196=some true:=by kernel_rfl
theorem zs30:(Tryz.prog.info? 30).map (fun i=>(i.zero,i.size))=some (some (.agg #[.int .i64 0,.int .i64 0,.int .i64 0,.string .empty,.string .empty,.string .empty,.int .i64 0,.slice none 0 0]),8):=by kernel_rfl
theorem jR:szB Tryz.prog 176=some 3:=by kernel_rfl
theorem vg:cF Tryz.prog 176=some true:=by kernel_rfl
theorem rY:(Tryz.prog.info? 176).map (·.zero)=some (some (.agg #[.int .i64 0,.string .empty,.int .i64 0])):=by kernel_rfl
theorem wN:bo Tryz.prog 176 0=some 0:=by kernel_rfl
theorem rZ:bo Tryz.prog 176 1=some 1:=by kernel_rfl
theorem r4:bo Tryz.prog 176 2=some 2:=by kernel_rfl
theorem eH (x0:Int) (A5:Option Addr) (n5 c5:Nat):Tryz.prog.built 30 [(0,.int .i64 x0),(5,.slice A5 n5 c5)]=some ([.int .i64 x0,.int .i64 0,.int .i64 0,.string .empty,.string .empty,.string .empty,.int .i64 0,.slice A5 n5 c5]:List Value).toArray:=by kernel_rfl
theorem ii (t:List UInt8) (X:Option Addr) (c:Nat) (pb:Nat) (a:Addr) (k0:Nat) (T ts:List Tok) (d:Nat) (w:World) (hA:At w pb a k0 T ts d) (hx:Rd w X [.string (B t)]) (hxb:∀ a,X=some a→a.block≠pb):Calls Tryz.prog 93 #[.pointer (some ⟨pb,0,none⟩),.slice X 1 c] w (dz w [pb] (fun _:Unit=>.tuple #[]) (fun _=>[pC pb a k0 T (ts.drop 1) (d)]) (fun _=>atT 1 t ts=true) (fun ch=>atT 1 t ts=false∧ch=dl (190,(hd ts).a))):=by
 refine az (args:=[.pointer (some ⟨pb,0,none⟩),.slice X 1 c]) (lent:=[pb]) (H:=[pC pb a k0 T ts d]) Tryz.func93 rfl Tryz.ntmps93 rfl hA.sat.cx ((show Tri _ [(0,_),(1,_)] _ _ _ from ?_))
 have hto:=ep hA.env hA.suf hA.good
 have hR:=hA.env.rds ts hA.suf
 have hl:=hA.good.ne
 have hle:=hA.suf.length_le
 have hlk:=hA.env.len
 have hbn:=hA.env.bnd
 have hdp:=hA.dep
 have hX:∀ cx H,cx.w0=w→cx.lent=[pb]→RdS cx H X [.string (B t)]:=fun cx H q1 q2=>RdS.lent (by rw [q1]; exact hx) (fun b hb=>by rw [q2]; simpa using hxb b hb)
 refine ae (aa (ai rfl rfl (aX Tryz.underlying23 rfl rfl (ai rfl rfl (triL_nilN (ay (bI (ι:=Nat) (F:=fun i=>[(0,.pointer (some ⟨pb,0,none⟩)),(6,.slice X 1 c),(7,.int .i64 1),(8,.int .i64 (i:Int))]) (HH:=fun i=>[pC pb a k0 T (if i=0 then ts else ts.drop 1) d]) (Pu:=fun i=>i≤1∧(i=1→atT 1 t ts=true)) (μ:=fun i=>1 - i) (0) (.cons rfl (.cons rfl (.cons rfl (.cons rfl (.nil _))))) (fun _ h=>h) (⟨by omega,by intro h; cases h⟩) (fun i hi=>ae (aa (cR rfl rfl rfl (triL_nilN (ae (av rfl (fun h0=>?_) (fun h0=>?_))))))))))))))
 · skip
   refine ao (ag (ae (ay (ae ?_))))
   obtain rfl:i=0:=by omega
   rw [if_pos rfl]
   refine aa (aU Tryz.underlying23 sz9 rfl rfl rfl (hX _ _ rfl rfl) (by omega) (by omega) rfl (by decide) (aL bB rfl rfl (hX _ _ rfl rfl) rfl (o_assignN rfl rfl (ae (aa (ai rfl rfl (ai rfl rfl (aB (first:=[]) (cap:=[]) [pb] N0 rfl rfl rfl Tryz.call90 aw ar (fun w1 h1 h2=>dp t pb a k0 T ts d w1 (hA.sub h1.chg (Cuts.refl hA.good) hA.dep h2)) (fun ch hF=>hF.elim) (fun u_ hu_=>dV rfl rfl (triL_nilN (aG rfl (fun h1=>?_) (fun h1=>?_))))))))))))
   · skip
     have h1:=cJ h1
     refine tri_slo [(0,_),(6,_),(7,_),(8,_)] rfl ?_
     rw [if_neg (by rw [h1]; decide)]
     refine aa (ai rfl rfl (aB (first:=[]) (cap:=[]) [pb] N0 rfl rfl rfl Tryz.call47 aw ar (fun w1 h1 h2=>kw 190 pb a k0 T _ _ w1 (hA.sub h1.chg (Cuts.refl hA.good) hA.dep h2)) (fun ch hF=>aA ⟨h1,hF⟩) (fun j hj=>hj.elim)))
   · skip
     have h1:=cp h1
     exact ao (am (ag (tri_slo [(0,_),(6,_),(7,_),(8,_)] rfl (aa (bJ rfl rfl rfl (by omega) (ai rfl rfl (triL_nilN (⟨1,(.cons rfl (.cons rfl (.cons rfl (.cons rfl (.nil _))))),(fun w2 hw2=>by rw [if_pos h1] at hw2; rw [if_neg (by decide)]; exact hw2),⟨Nat.le_refl _,fun _=>h1⟩,by omega⟩))))))))
 · skip
   exact bu (ax (ax (aP (bS rfl (aK () (rfl) (hi.2 (by omega)) (fun w2 hw2=>by rw [if_neg (by omega)] at hw2; exact hw2.sel [0] (by decide)))))))
theorem px (v:Val) (w:World)  : Calls Tryz.prog 211 #[nK v] w (cG w (.agg ([.int .i64 1,.int .i64 (v).k,.int .i64 (v).n,.string (B (v).s),.string (B []),.string (B []),.int .i64 0,.slice none 0 0]:List Value).toArray)):=by
 refine az (args:=[nK v]) (lent:=[]) (H:=[]) Tryz.func211 rfl Tryz.ntmps211 rfl (Sat.start _ _ _ _) ((show Tri _ [(0,_)] _ _ _ from ae (aa (cD (Val.cs _) rfl rfl rfl (fun b1=>aQ _ rfl dF rfl (fun b2=>triL_nilN (ae (aa (mt lO nP N1 rfl rfl (aT (tS _ _) rfl rfl (aC aY N0 rfl rfl rfl rfl rfl (Nat.le_of_ble_eq_true rfl) rfl (triL_nilN (aq (cS rfl bh aY N0 rfl rfl ?_)))))))))))))); exact fun w1 hw1=>⟨rfl,hw1.chg⟩
theorem sumsP  (w:World)  : Calls Tryz.prog 151 #[] w (cG w (.agg (toksV sumO).toArray)):=by
 refine az (args:=[]) (lent:=[]) (H:=[]) Tryz.func151 rfl Tryz.ntmps151 rfl (Sat.start _ _ _ _) ((show Tri _ [] _ _ _ from ae (aa (aQ _ rfl lB rfl (fun b0=>triL_nilN (ae (aa (aT (bP _ _ _) rfl rfl (aT (bP _ _ _) rfl rfl (aT (bP _ _ _) rfl rfl (aT (qR _ _ _) rfl rfl (aC nI N0 rfl rfl rfl rfl rfl (Nat.le_of_ble_eq_true rfl) rfl (triL_nilN (aq (cS rfl agg198 nI N0 rfl rfl ?_))))))))))))))); exact fun w1 hw1=>⟨rfl,hw1.chg⟩
theorem qS  (w:World)  : Calls Tryz.prog 152 #[] w (cG w (.agg (toksV mulO).toArray)):=by
 refine az (args:=[]) (lent:=[]) (H:=[]) Tryz.func152 rfl Tryz.ntmps152 rfl (Sat.start _ _ _ _) ((show Tri _ [] _ _ _ from ae (aa (aQ _ rfl lB rfl (fun b0=>triL_nilN (ae (aa (aT (bP _ _ _) rfl rfl (aT (bP _ _ _) rfl rfl (aT (bP _ _ _) rfl rfl (aT (qR _ _ _) rfl rfl (aC nI N0 rfl rfl rfl rfl rfl (Nat.le_of_ble_eq_true rfl) rfl (triL_nilN (aq (cS rfl agg198 nI N0 rfl rfl ?_))))))))))))))); exact fun w1 hw1=>⟨rfl,hw1.chg⟩
theorem mF  (w:World)  : Calls Tryz.prog 150 #[] w (cG w (.agg (toksV cmpO).toArray)):=by
 refine az (args:=[]) (lent:=[]) (H:=[]) Tryz.func150 rfl Tryz.ntmps150 rfl (Sat.start _ _ _ _) ((show Tri _ [] _ _ _ from ae (aa (aQ _ rfl wM rfl (fun b0=>triL_nilN (ae (aa (aT (bP _ _ _) rfl rfl (aT (bP _ _ _) rfl rfl (aT (bP _ _ _) rfl rfl (aT (bP _ _ _) rfl rfl (aT (bP _ _ _) rfl rfl (aT (bP _ _ _) rfl rfl (aT (yK _ _ _ _ _ _) rfl rfl (aC sz196 N0 rfl rfl rfl rfl rfl (Nat.le_of_ble_eq_true rfl) rfl (triL_nilN (aq (cS rfl agg196 sz196 N0 rfl rfl ?_)))))))))))))))))); exact fun w1 hw1=>⟨rfl,hw1.chg⟩
theorem rowK (fst cap:List Value) (q:Nat) (one:List Tok→PX Ex) (l:List Opr) (X:Option Addr) (c:Nat) (pb:Nat) (a:Addr) (k0:Nat) (T ts:List Tok) (d:Nat) (w:World) (hA:At w pb a k0 T ts d) (hcf:∀ args w,(callFunc q args).run Tryz.prog w=.ok (.enter q args) w) (hone:∀ us w',Cuts ts us→At w' pb a k0 T us d→Chg [pb] w w'→Calls Tryz.prog q (fst++[]++cap).toArray w' (XT w' pb a k0 T d (one us))) (htk:∀ us,WK.Good us→fG us (one us)) (hx:Rd w X (toksV l)) (hxb:∀ a,X=some a→a.block≠pb) (hl5:∀ o ∈ l,o.k≠5) (hl6:l.length≤6):Calls Tryz.prog 139 #[.pointer (some ⟨pb,0,none⟩),.slice X l.length c,.func (.func q) fst.toArray cap.toArray] w (XT w pb a k0 T d (ib one l ts)):=by
 refine az (args:=[.pointer (some ⟨pb,0,none⟩),.slice X l.length c,.func (.func q) fst.toArray cap.toArray]) (lent:=[pb]) (H:=[pC pb a k0 T ts d]) Tryz.func139 rfl Tryz.ntmps139 rfl hA.sat.cx ((show Tri _ [(0,_),(1,_),(2,_)] _ _ _ from ?_))
 have hto:=ep hA.env hA.suf hA.good
 have hR:=hA.env.rds ts hA.suf
 have hl0:=hA.good.ne
 have hle:=hA.suf.length_le
 have hlk:=hA.env.len
 have hbn:=hA.env.bnd
 have hdp:=hA.dep
 have hX:∀ cx H,cx.w0=w→cx.lent=[pb]→RdS cx H X (toksV l):=fun cx H q1 q2=>RdS.lent (by rw [q1]; exact hx) (fun b hb=>by rw [q2]; simpa using hxb b hb)
 refine ae (aa (aQ _ rfl dF rfl (fun b6=>triL_nilN (uz 0 (ι:=XR × Nat) (fun j=>[(0,.pointer (some ⟨pb,0,none⟩)),(1,.slice X l.length c),(2,.func (.func q) fst.toArray cap.toArray),(6,.pointer (some ⟨b6,0,none⟩)),(7,.pointer (some ⟨j.2,0,none⟩))]) (fun j=>[box j.2 30 j.1.cs,pC pb a k0 T j.1.us d,gB j.1.bl j.1.e j.1.cs,box b6 30 [.int .i64 0,.int .i64 0,.int .i64 0,.string .empty,.string .empty,.string .empty,.int .i64 0,.slice none 0 0]]) (fun j=>ib one l ts=iu one l j.1.us.length j.1.e j.1.us∧Cuts ts j.1.us∧XC j.1.cs) (fun j=>j.1.us.length) rfl ?_ (fun j hj=>?_)))))
 · skip
   exact aa (ai rfl rfl (aB (first:=fst) (cap:=cap) [pb] N1 rfl rfl rfl hcf aw ar (fun w1 h1 h2=>hone ts w1 (Cuts.refl hA.good) (hA.sub h1.chg (Cuts.refl hA.good) hA.dep h2) h1.chg) (fun ch ⟨x,hx1,hx2⟩=>aA ⟨x,by rw [ib,hx1],hx2⟩) (fun j hj=>aQ _ rfl dF rfl (fun b7=>bK rfl hj.2 aY N0 rfl rfl rfl (triL_nilN (⟨(j,b7),(.cons rfl (.cons rfl (.cons rfl (.cons rfl (.cons rfl (.nil _)))))),(fun w2 hw2=>hw2.sel [0,3,1,2] (by decide)),⟨by rw [ib,hj.1],((htk ts hA.good) _ _ hj.1).1,hj.2⟩⟩))))))
 · skip
   obtain ⟨hj1,hj2,hj3⟩:=hj
   refine ae (ae (aa (ai rfl rfl (aX Tryz.underlying177 rfl rfl (ai rfl rfl (triL_nilN (ay (bI (ι:=Nat) (F:=fun i=>[(0,.pointer (some ⟨pb,0,none⟩)),(1,.slice X l.length c),(2,.func (.func q) fst.toArray cap.toArray),(6,.pointer (some ⟨b6,0,none⟩)),(7,.pointer (some ⟨j.2,0,none⟩)),(13,.slice X l.length c),(14,.int .i64 (l.length:Int)),(15,.int .i64 (i:Int))]) (HH:=fun i=>[box j.2 30 j.1.cs,pC pb a k0 T j.1.us d,gB j.1.bl j.1.e j.1.cs,box b6 30 [.int .i64 0,.int .i64 0,.int .i64 0,.string .empty,.string .empty,.string .empty,.int .i64 0,.slice none 0 0]]) (Pu:=fun i=>i≤l.length∧findO l j.1.us=findO (l.drop i) j.1.us) (μ:=fun i=>l.length - i) (0) (.cons rfl (.cons rfl (.cons rfl (.cons rfl (.cons rfl (.cons rfl (.cons rfl (.cons rfl (.nil _))))))))) (fun _ h=>h) (⟨by omega,rfl⟩) (fun i hi=>ae (aa (cR rfl rfl rfl (triL_nilN (ae (av rfl (fun h1=>?_) (fun h1=>?_)))))))))))))))
   · skip
     have hil:i < l.length:=by omega
     refine ao (ag (ae (ay (ae (aa (aU Tryz.underlying177 jR rfl rfl rfl (hX _ _ rfl rfl) (by omega) (by omega) (bY _) (by decide) (iK i vg jR rfl rfl (hX _ _ rfl rfl) (by omega) (by omega) (aQ (Tok.cs Tok.zero) rfl rY rfl (fun b9=>ea jR N0 rfl rfl rfl (triL_nilN (ae (aa (ai rfl rfl (aj wN rfl rfl (ak bR N0 rfl rfl rfl (aj rZ rfl rfl (ak bB N0 rfl rfl rfl (aB (first:=[]) (cap:=[]) [pb] N2 rfl rfl rfl Tryz.call103 aw ar (fun w1 h1 h2=>nextK (l.getD i Tok.zero).k (l.getD i Tok.zero).t pb a k0 T j.1.us d w1 (hA.sub h1.chg hj2 hA.dep h2) (hl5 _ (p6 l i hil))) (fun ch hF=>hF.elim) (fun u_ hu_=>triL_nilN (aG rfl (fun h2=>?_) (fun h2=>?_)))))))))))))))))))))
     · skip
       have hit:=qj hil hi.2 h2
       have hcu:Cuts ts (j.1.us.drop 1):=hj2.trans ⟨List.drop_suffix 1 _,dN hl5 hj2.2 hit⟩
       refine ae (tri_slo [(9,_),(0,_),(1,_),(2,_),(6,_),(7,_)] rfl ?_)
       rw [if_pos h2]
       refine aa (ai rfl rfl (aB (first:=fst) (cap:=cap) [pb] N2 rfl rfl rfl hcf aw ar (fun w1 h1 h2=>hone (j.1.us.drop 1) w1 hcu (hA.sub h1.chg hcu hA.dep h2) h1.chg) (fun ch ⟨x,hx1,hx2⟩=>aA ⟨x,by rw [hj1]; exact sN hj2.2 hit hx1,hx2⟩) (fun g hg=>aQ _ rfl dF rfl (fun b10=>bK rfl hg.2 aY N0 rfl rfl rfl (triL_nilN (ae (aa (aj r4 rfl rfl (ak bR N2 rfl rfl rfl (ej hj3 bh aY N3 rfl rfl (ej hg.2 bh aY N0 rfl rfl (vV hj3 hg.2 Tryz.underlying28 zs30 rfl rfl rfl (fun b31=>aT (eH _ _ _ _) rfl rfl (bK hj3.len ⟨rfl,rfl⟩ aY N4 rfl rfl rfl (triL_nilN (tri_goto (nt (lQ (lQ (nt (lQ (sK ?_))))))))))))))))))))))
       have htq:=htk _ hcu.2 g.e g.us hg.1
       have hlt2:=hj2.2.lt
       exact ⟨(⟨bin (l.getD i Tok.zero).a j.1.e g.e,g.us,_,_⟩,j.2),(.cons rfl (.cons rfl (.cons rfl (.cons rfl (.cons rfl (.nil _)))))),(fun w2 hw2=>(Sat.node2 _ (hw2.sel [0,6,2,4,5,7] (by decide)) (Nat.le_refl 2)).sel [1,2,0,3] (by decide)),⟨by rw [hj1]; exact qi hl5 htk hj2.2 hit hg.1,hcu.trans htq.1,⟨rfl,rfl⟩⟩,(by simp only; omega)⟩
     · skip
       exact ao (am (ag (tri_slo [(0,_),(1,_),(2,_),(6,_),(7,_),(13,_),(14,_),(15,_)] rfl (aa (bJ rfl rfl rfl (by omega) (ai rfl rfl (triL_nilN (⟨i+1,(.cons rfl (.cons rfl (.cons rfl (.cons rfl (.cons rfl (.cons rfl (.cons rfl (.cons rfl (.nil _))))))))),(fun w2 hw2=>by rw [if_neg (by rw [h2]; decide)] at hw2; exact hw2.tail),⟨by omega,oK hil hi.2 h2⟩,by omega⟩))))))))
   · skip
     have hnone:=qk (l:=l) (i:=i) (by omega) hi.2
     exact bu (ax (ax (aP (ag (ae (tri_slo [(6,_),(7,_)] rfl (aa (ej hj3 bh aY N0 rfl rfl (bK rfl hj3 aY N3 rfl rfl rfl (triL_nilN (aq (uA (cS rfl bh aY N3 rfl hj3.len (aK (J:=XR) j.1 rfl ⟨by rw [hj1]; exact mW hnone,hj3⟩ (fun w2 hw2=>hw2.sel [1,2] (by decide))))))))))))))))
end Go.Proofs.YtjbpkcbefmpfgaaGreatDoor
namespace Go.Proofs.YtjbpkcbefmpfgaaGreatDoor
open Go.WK Go.RowKit 
theorem bn:cF Tryz.prog 94=some false:=by kernel_rfl
theorem zs176:(Tryz.prog.info? 176).map (fun i=>(i.zero,i.size))=some (some (.agg #[.int .i64 0,.string .empty,.int .i64 0]),3):=by kernel_rfl
theorem py (x:Int) (y:Int):Tryz.prog.built 27 [(0,.int .i64 x),(1,.int .i64 y)]=some (Val.cs ⟨x,y,[]⟩).toArray:=by kernel_rfl
theorem vh (x:Int) (z:List UInt8):Tryz.prog.built 27 [(0,.int .i64 x),(2,.string (B z))]=some (Val.cs ⟨x,0,z⟩).toArray:=by kernel_rfl
theorem pz  : Tryz.prog.built 27 []=some (Val.cs ⟨0,0,[]⟩).toArray:=by kernel_rfl
theorem bval27_0 (x:Int):Tryz.prog.built 27 [(0,.int .i64 x)]=some (Val.cs ⟨x,0,[]⟩).toArray:=by kernel_rfl
theorem nJ (x0:Int) (x3:ByteArray):Tryz.prog.built 30 [(0,.int .i64 x0),(3,.string x3)]=some ([.int .i64 x0,.int .i64 0,.int .i64 0,.string .empty,.string .empty,.string x3,.int .i64 0,.slice none 0 0]:List Value).toArray:=by kernel_rfl
theorem jt:bo Tryz.prog 30 3=some 5:=by kernel_rfl
theorem ju:bo Tryz.prog 30 2=some 4:=by kernel_rfl
theorem orK (f:Nat) (ih:XAll Tryz.prog f) (pb:Nat) (a:Addr) (k0:Nat) (T ts:List Tok) (d:Nat) (w:World) (hA:At w pb a k0 T ts d) (hf:8 * ts.length+8≤f+1):Calls Tryz.prog 100 #[.pointer (some ⟨pb,0,none⟩)] w (XT w pb a k0 T d (exP (f+1) 1 d ts)):=by
 refine az (args:=[.pointer (some ⟨pb,0,none⟩)]) (lent:=[pb]) (H:=[pC pb a k0 T ts d]) Tryz.func100 rfl Tryz.ntmps100 rfl hA.sat.cx ((show Tri _ [(0,_)] _ _ _ from ?_))
 have hto:=ep hA.env hA.suf hA.good
 have hR:=hA.env.rds ts hA.suf
 have hl:=hA.good.ne
 have hle:=hA.suf.length_le
 have hlk:=hA.env.len
 have hbn:=hA.env.bnd
 have hdp:=hA.dep
 rw [exP1]
 exact ae (aa (cD _ rfl rfl rfl (fun b1=>aQ _ rfl dF rfl (fun b2=>triL_nilN (ae (aa (ak bn N1 rfl rfl rfl (aT (bP _ _ _) rfl rfl (bk Tryz.underlying177 zs176 rfl rfl rfl rfl rfl (by decide) (by decide) (fun b5=>bD rfl rfl rfl (aB (first:=[]) (cap:=[]) [pb] N3 rfl rfl rfl Tryz.call139 aw ar (fun w1 h1 h2=>rowK [] [.pointer (some ⟨b1,0,none⟩)] 140 (exP f 2 d) orO (some ⟨b5,0,none⟩) 1 pb a k0 T ts d w1 (hA.sub h1.chg (Cuts.refl hA.good) hA.dep h2) Tryz.call140 (fun us w' hcu hat hch=>ih.l2 b1 pb a k0 T us d w' hat ((RdS.box (.s (.s .z)) w1 h1).chg hch (by intro a' ha; cases ha; simp only [List.mem_singleton]; exact h1.neB (.s (.s .z)) (.s (.s (.s .z))) (by decide) rfl)) (h1.neB (.s (.s .z)) (.s (.s (.s .z))) (by decide) rfl) (by have:=hcu.1.length_le; omega)) (fun us hu=>cE f 2 d us hu) (RdS.row .z w1 h1) (by intro a' ha; cases ha; exact h1.neB .z (.s (.s (.s .z))) (by decide) rfl) (dD _ (by simp)) (by decide)) (fun ch ⟨x,hx1,hx2⟩=>aA ⟨x,hx1,hx2⟩) (fun j hj=>bK rfl hj.2 aY N2 rfl rfl rfl (triL_nilN (aq (cS rfl bh aY N2 rfl hj.2.len (aK (J:=XR) j rfl ⟨hj.1,hj.2⟩ (fun w2 hw2=>hw2.sel [4,0] (by decide))))))))))))))))))
theorem or1K (f:Nat) (ih:XAll Tryz.prog f) (bc:Nat) (pb:Nat) (a:Addr) (k0:Nat) (T ts:List Tok) (d:Nat) (w:World) (hA:At w pb a k0 T ts d) (hbc:Rd w (some ⟨bc,0,none⟩) [.pointer (some ⟨pb,0,none⟩)]) (hbcn:bc≠pb) (hf:8 * ts.length+7≤f+1):Calls Tryz.prog 140 #[.pointer (some ⟨bc,0,none⟩)] w (XT w pb a k0 T d (exP (f+1) 2 d ts)):=by
 refine az (args:=[.pointer (some ⟨bc,0,none⟩)]) (lent:=[pb]) (H:=[pC pb a k0 T ts d]) Tryz.func140 rfl Tryz.ntmps140 rfl hA.sat.cx ((show Tri _ [(0,_)] _ _ _ from ?_))
 have hto:=ep hA.env hA.suf hA.good
 have hR:=hA.env.rds ts hA.suf
 have hl:=hA.good.ne
 have hle:=hA.suf.length_le
 have hlk:=hA.env.len
 have hbn:=hA.env.bnd
 have hdp:=hA.dep
 have hB:∀ cx H,cx.w0=w→cx.lent=[pb]→RdS cx H (some ⟨bc,0,none⟩) [.pointer (some ⟨pb,0,none⟩)]:=fun cx H q1 q2=>RdS.lent (by rw [q1]; exact hbc) (fun b hb=>by cases hb; rw [q2]; simpa using hbcn)
 rw [exP2]
 exact ae (aa (aQ _ rfl dF rfl (fun b1=>triL_nilN (ae (aa (aL (A:=some ⟨bc,0,none⟩) (kk:=0) bn rfl rfl (hB _ _ rfl rfl) rfl (aT (bP _ _ _) rfl rfl (bk Tryz.underlying177 zs176 rfl rfl rfl rfl rfl (by decide) (by decide) (fun b4=>aL (A:=some ⟨bc,0,none⟩) (kk:=0) bn rfl rfl (hB _ _ rfl rfl) rfl (bD rfl rfl rfl (aB (first:=[]) (cap:=[]) [pb] N2 rfl rfl rfl Tryz.call139 aw ar (fun w1 h1 h2=>rowK [.pointer (some ⟨pb,0,none⟩)] [] 141 (exP f 3 d) andO (some ⟨b4,0,none⟩) 1 pb a k0 T ts d w1 (hA.sub h1.chg (Cuts.refl hA.good) hA.dep h2) Tryz.call141 (fun us w' hcu hat hch=>ih.l3 pb a k0 T us d w' hat (by have:=hcu.1.length_le; omega)) (fun us hu=>cE f 3 d us hu) (RdS.row .z w1 h1) (by intro a' ha; cases ha; exact h1.neB .z (.s (.s .z)) (by decide) rfl) (dD _ (by simp)) (by decide)) (fun ch ⟨x,hx1,hx2⟩=>aA ⟨x,hx1,hx2⟩) (fun j hj=>bK rfl hj.2 aY N2 rfl rfl rfl (triL_nilN (aq (cS rfl bh aY N2 rfl hj.2.len (aK (J:=XR) j rfl ⟨hj.1,hj.2⟩ (fun w2 hw2=>hw2.sel [3,0] (by decide))))))))))))))))))
theorem sumK (f:Nat) (ih:XAll Tryz.prog f) (pb:Nat) (a:Addr) (k0:Nat) (T ts:List Tok) (d:Nat) (w:World) (hA:At w pb a k0 T ts d) (hf:8 * ts.length+4≤f+1):Calls Tryz.prog 186 #[.pointer (some ⟨pb,0,none⟩)] w (XT w pb a k0 T d (exP (f+1) 5 d ts)):=by
 refine az (args:=[.pointer (some ⟨pb,0,none⟩)]) (lent:=[pb]) (H:=[pC pb a k0 T ts d]) Tryz.func186 rfl Tryz.ntmps186 rfl hA.sat.cx ((show Tri _ [(0,_)] _ _ _ from ?_))
 have hto:=ep hA.env hA.suf hA.good
 have hR:=hA.env.rds ts hA.suf
 have hl:=hA.good.ne
 have hle:=hA.suf.length_le
 have hlk:=hA.env.len
 have hbn:=hA.env.bnd
 have hdp:=hA.dep
 rw [exP5]
 exact ae (aa (cD _ rfl rfl rfl (fun b1=>aQ _ rfl dF rfl (fun b2=>triL_nilN (ae (aa (aF (first:=[]) (cap:=[]) rfl rfl rfl Tryz.call151 (fun w1 h1=>sumsP w1) (aQ _ rfl lB rfl (fun b3=>aC nI N0 rfl rfl rfl rfl rfl (Nat.le_of_ble_eq_true rfl) rfl (triL_nilN (ae (MP.bj (_) [(0,true),(1,true),(2,true),(3,false),(4,false)] [3,4] (by kernel_rfl) (by kernel_rfl) (fun _ h=>h) (MP.ah rfl (ak bn N2 rfl rfl rfl (ab ⟨rfl,(MP.ah rfl (gT Tryz.underlying198 jR rfl rfl (ab ⟨rfl,(MP.ah rfl (bD rfl rfl rfl (ab ⟨rfl,(MP.aN rfl (aB (first:=[]) (cap:=[]) [pb] N3 rfl rfl rfl Tryz.call139 aw ar (fun w1 h1 h2=>rowK [] [.pointer (some ⟨b1,0,none⟩)] 202 (exP f 6 d) sumO (some ⟨b3,0,none⟩) 3 pb a k0 T ts d w1 (hA.sub h1.chg (Cuts.refl hA.good) hA.dep h2) Tryz.call202 (fun us w' hcu hat hch=>ih.l6 b1 pb a k0 T us d w' hat ((RdS.box (.s (.s .z)) w1 h1).chg hch (by intro a' ha; cases ha; simp only [List.mem_singleton]; exact h1.neB (.s (.s .z)) (.s (.s (.s .z))) (by decide) rfl)) (h1.neB (.s (.s .z)) (.s (.s (.s .z))) (by decide) rfl) (by have:=hcu.1.length_le; omega)) (fun us hu=>cE f 6 d us hu) (RdS.box .z w1 h1) (by intro a' ha; cases ha; exact h1.neB .z (.s (.s (.s .z))) (by decide) rfl) (dD _ (by simp)) (by decide)) (fun ch ⟨x,hx1,hx2⟩=>aA ⟨x,hx1,hx2⟩) (fun j hj=>ab (show _∧_ from ⟨fun hh=>absurd hh (by decide),(MP.aN rfl (bK rfl hj.2 aY N2 rfl rfl rfl (ab (show _∧_ from ⟨fun hh=>absurd hh (by decide),(MP.cI (ag (aq (cS rfl bh aY N2 rfl hj.2.len (aK (J:=XR) j rfl ⟨hj.1,hj.2⟩ (fun w2 hw2=>hw2.sel [4,0] (by decide)))))))⟩))))⟩))))⟩)))⟩)))⟩)))))))))))))))
theorem sum1K (f:Nat) (ih:XAll Tryz.prog f) (bc:Nat) (pb:Nat) (a:Addr) (k0:Nat) (T ts:List Tok) (d:Nat) (w:World) (hA:At w pb a k0 T ts d) (hbc:Rd w (some ⟨bc,0,none⟩) [.pointer (some ⟨pb,0,none⟩)]) (hbcn:bc≠pb) (hf:8 * ts.length+3≤f+1):Calls Tryz.prog 202 #[.pointer (some ⟨bc,0,none⟩)] w (XT w pb a k0 T d (exP (f+1) 6 d ts)):=by
 refine az (args:=[.pointer (some ⟨bc,0,none⟩)]) (lent:=[pb]) (H:=[pC pb a k0 T ts d]) Tryz.func202 rfl Tryz.ntmps202 rfl hA.sat.cx ((show Tri _ [(0,_)] _ _ _ from ?_))
 have hto:=ep hA.env hA.suf hA.good
 have hR:=hA.env.rds ts hA.suf
 have hl:=hA.good.ne
 have hle:=hA.suf.length_le
 have hlk:=hA.env.len
 have hbn:=hA.env.bnd
 have hdp:=hA.dep
 have hB:∀ cx H,cx.w0=w→cx.lent=[pb]→RdS cx H (some ⟨bc,0,none⟩) [.pointer (some ⟨pb,0,none⟩)]:=fun cx H q1 q2=>RdS.lent (by rw [q1]; exact hbc) (fun b hb=>by cases hb; rw [q2]; simpa using hbcn)
 rw [exP6]
 exact ae (aa (aQ _ rfl dF rfl (fun b1=>triL_nilN (ae (aa (aF (first:=[]) (cap:=[]) rfl rfl rfl Tryz.call152 (fun w1 h1=>qS w1) (aQ _ rfl lB rfl (fun b2=>aC nI N0 rfl rfl rfl rfl rfl (Nat.le_of_ble_eq_true rfl) rfl (triL_nilN (ae (MP.bj (_) [(0,true),(1,true),(2,true),(3,true),(4,false),(5,false)] [4,5] (by kernel_rfl) (by kernel_rfl) (fun _ h=>h) (MP.ah rfl (aL (A:=some ⟨bc,0,none⟩) (kk:=0) bn rfl rfl (hB _ _ rfl rfl) rfl (ab ⟨rfl,(MP.ah rfl (gT Tryz.underlying198 jR rfl rfl (ab ⟨rfl,(MP.ah rfl (aL (A:=some ⟨bc,0,none⟩) (kk:=0) bn rfl rfl (hB _ _ rfl rfl) rfl (ab ⟨rfl,(MP.ah rfl (bD rfl rfl rfl (ab ⟨rfl,(MP.aN rfl (aB (first:=[]) (cap:=[]) [pb] N2 rfl rfl rfl Tryz.call139 aw ar (fun w1 h1 h2=>rowK [.pointer (some ⟨pb,0,none⟩)] [] 203 (exP f 7 d) mulO (some ⟨b2,0,none⟩) 3 pb a k0 T ts d w1 (hA.sub h1.chg (Cuts.refl hA.good) hA.dep h2) Tryz.call203 (fun us w' hcu hat hch=>ih.l7 pb a k0 T us d w' hat (by have:=hcu.1.length_le; omega)) (fun us hu=>cE f 7 d us hu) (RdS.box .z w1 h1) (by intro a' ha; cases ha; exact h1.neB .z (.s (.s .z)) (by decide) rfl) (dD _ (by simp)) (by decide)) (fun ch ⟨x,hx1,hx2⟩=>aA ⟨x,hx1,hx2⟩) (fun j hj=>ab (show _∧_ from ⟨fun hh=>absurd hh (by decide),(MP.aN rfl (bK rfl hj.2 aY N2 rfl rfl rfl (ab (show _∧_ from ⟨fun hh=>absurd hh (by decide),(MP.cI (ag (aq (cS rfl bh aY N2 rfl hj.2.len (aK (J:=XR) j rfl ⟨hj.1,hj.2⟩ (fun w2 hw2=>hw2.sel [3,0] (by decide)))))))⟩))))⟩))))⟩)))⟩)))⟩)))⟩))))))))))))))
theorem notK (f:Nat) (ih:XAll Tryz.prog f) (pb:Nat) (a:Addr) (k0:Nat) (T ts:List Tok) (d:Nat) (w:World) (hA:At w pb a k0 T ts d) (hf:8 * ts.length+6≤f+1):Calls Tryz.prog 141 #[.pointer (some ⟨pb,0,none⟩)] w (XT w pb a k0 T d (exP (f+1) 3 d ts)):=by
 refine az (args:=[.pointer (some ⟨pb,0,none⟩)]) (lent:=[pb]) (H:=[pC pb a k0 T ts d]) Tryz.func141 rfl Tryz.ntmps141 rfl hA.sat.cx ((show Tri _ [(0,_)] _ _ _ from ?_))
 have hto:=ep hA.env hA.suf hA.good
 have hR:=hA.env.rds ts hA.suf
 have hl:=hA.good.ne
 have hle:=hA.suf.length_le
 have hlk:=hA.env.len
 have hbn:=hA.env.bnd
 have hdp:=hA.dep
 rw [exP3]
 refine ae (aa (aQ _ rfl dF rfl (fun b2=>triL_nilN (ae (aa (ai rfl rfl (aE rfl rfl (aj dE rfl rfl (ak hG N1 rfl rfl rfl (aU Tryz.underlying58 fj rfl rfl rfl (hR _ _ rfl rfl) (by omega) (by omega) (bY _) (by decide) (iK 0 mE fj rfl rfl (hR _ _ rfl rfl) (by omega) (by omega) (aQ (Tok.cs Tok.zero) rfl nd rfl (fun b3=>ea fj N0 rfl rfl rfl (triL_nilN (ae (ae (tri_slo [(3,_),(2,_),(0,_)] rfl (aa (ai rfl rfl (aB (first:=[]) (cap:=[]) [pb] N2 rfl rfl rfl Tryz.call90 aw ar (fun w1 h1 h2=>dp eN pb a k0 T ts d w1 (hA.sub h1.chg (Cuts.refl hA.good) hA.dep h2)) (fun ch hF=>hF.elim) (fun u_ hu_=>dV rfl rfl (triL_nilN (aG rfl (fun h0=>?_) (fun h0=>?_))))))))))))))))))))))))
 · skip
   have h0:=cJ h0
   refine ae (tri_slo [(2,_),(0,_)] rfl ?_)
   rw [if_neg (by rw [h0]; decide)]
   exact aa (ai rfl rfl (aB (first:=[]) (cap:=[]) [pb] N2 rfl rfl rfl Tryz.call166 aw ar (fun w1 h1 h2=>ih.l4 pb a k0 T ts d w1 (hA.sub h1.chg (Cuts.refl hA.good) hA.dep h2) (by omega)) (fun ch ⟨x,hx1,hx2⟩=>aA ⟨x,by rw [if_neg (by rw [h0]; decide)]; exact hx1,hx2⟩) (fun j hj=>bK rfl hj.2 aY N2 rfl rfl rfl (triL_nilN (aq (an (cS rfl bh aY N2 rfl hj.2.len (aK (J:=XR) j rfl ⟨by rw [if_neg (by rw [h0]; decide)]; exact hj.1,hj.2⟩ (fun w2 hw2=>hw2.sel [3,0] (by decide))))))))))
 · skip
   have h0:=cp h0
   have hcu:Cuts ts (ts.drop 1):=⟨List.drop_suffix 1 ts,hA.good.next (by decide) h0⟩
   have hlt:=hA.good.lt
   refine ao (ag (ae ?_))
   rw [if_pos h0]
   exact aa (ai rfl rfl (lm mE fj N0 rfl rfl (aB (first:=[]) (cap:=[]) [pb] N2 rfl rfl rfl Tryz.call167 aw ar (fun w1 h1 h2=>rX (hd ts) pb a k0 T (ts.drop 1) d w1 (hA.sub h1.chg hcu hA.dep h2)) (fun ch ⟨hd1,hd2⟩=>aA ⟨(191,(hd ts).a),by rw [if_pos h0,if_pos hd1],hd2⟩) (fun u_ hd1=>triL_nilN (ae (tri_slo [(2,_),(0,_)] rfl (aa (ai rfl rfl (aB (first:=[]) (cap:=[]) [pb] N2 rfl rfl rfl Tryz.call141 aw ar (fun w1 h1 h2=>ih.l3 pb a k0 T (ts.drop 1) (d+1) w1 (hA.sub h1.chg hcu hd1 h2) (by omega)) (fun ch ⟨x,hx1,hx2⟩=>aA ⟨x,by rw [if_pos h0,if_neg (by omega),hx1]; rfl,hx2⟩) (fun j hj=>aQ _ rfl dF rfl (fun b4=>bK rfl hj.2 aY N0 rfl rfl rfl (triL_nilN (ae (aa (ai rfl rfl (aE rfl rfl (aj kl rfl rfl (ak bR N4 rfl rfl rfl (ug rfl rfl rfl (by omega) (ey (v':=.int .i64 (d:Int)) (congrArg (Value.int .i64) (by omega)) (aE rfl rfl (aj kl rfl rfl (aC sz3 N4 rfl rfl rfl rfl rfl (Nat.le_of_ble_eq_true rfl) rfl (triL_nilN (ae (tri_slo [(4,_),(2,_)] rfl (aa (ej hj.2 bh aY N0 rfl rfl (bk (vs:=j.cs) Tryz.underlying28 zs30 rfl rfl rfl rfl hj.2.len (by decide) (by decide) (fun b29=>aT (eH _ _ _ _) rfl rfl (bK rfl ⟨rfl,rfl⟩ aY N4 rfl rfl rfl (triL_nilN (aq (cS rfl bh aY N4 rfl rfl (aK (J:=XR) ⟨un 5 j.e,j.us,_,_⟩ rfl ⟨by rw [if_pos h0,if_neg (by omega),hj.1]; rfl,⟨rfl,rfl⟩⟩ (fun w2 hw2=>(Sat.node1 _ (hw2.sel [0,2,5] (by decide)) (Nat.le_refl 1)).sel [1,0] (by decide)))))))))))))))))))))))))))))))))))))
theorem minusK (f:Nat) (ih:XAll Tryz.prog f) (pb:Nat) (a:Addr) (k0:Nat) (T ts:List Tok) (d:Nat) (w:World) (hA:At w pb a k0 T ts d) (hf:8 * ts.length+2≤f+1):Calls Tryz.prog 203 #[.pointer (some ⟨pb,0,none⟩)] w (XT w pb a k0 T d (exP (f+1) 7 d ts)):=by
 refine az (args:=[.pointer (some ⟨pb,0,none⟩)]) (lent:=[pb]) (H:=[pC pb a k0 T ts d]) Tryz.func203 rfl Tryz.ntmps203 rfl hA.sat.cx ((show Tri _ [(0,_)] _ _ _ from ?_))
 have hto:=ep hA.env hA.suf hA.good
 have hR:=hA.env.rds ts hA.suf
 have hl:=hA.good.ne
 have hle:=hA.suf.length_le
 have hlk:=hA.env.len
 have hbn:=hA.env.bnd
 have hdp:=hA.dep
 rw [exP7]
 refine ae (aa (aQ _ rfl dF rfl (fun b2=>triL_nilN (ae (aa (ai rfl rfl (aE rfl rfl (aj dE rfl rfl (ak hG N1 rfl rfl rfl (aU Tryz.underlying58 fj rfl rfl rfl (hR _ _ rfl rfl) (by omega) (by omega) (bY _) (by decide) (iK 0 mE fj rfl rfl (hR _ _ rfl rfl) (by omega) (by omega) (aQ (Tok.cs Tok.zero) rfl nd rfl (fun b3=>ea fj N0 rfl rfl rfl (triL_nilN (ae (ae (tri_slo [(3,_),(2,_),(0,_)] rfl (aa (ai rfl rfl (aB (first:=[]) (cap:=[]) [pb] N2 rfl rfl rfl Tryz.call46 aw ar (fun w1 h1 h2=>nH [45] pb a k0 T ts d w1 (hA.sub h1.chg (Cuts.refl hA.good) hA.dep h2)) (fun ch hF=>hF.elim) (fun u_ hu_=>dV rfl rfl (triL_nilN (aG rfl (fun h0=>?_) (fun h0=>?_))))))))))))))))))))))))
 · skip
   have h0:=cJ h0
   refine ae (tri_slo [(2,_),(0,_)] rfl ?_)
   rw [if_neg (by rw [h0]; decide)]
   exact aa (ai rfl rfl (aB (first:=[]) (cap:=[]) [pb] N2 rfl rfl rfl Tryz.call209 aw ar (fun w1 h1 h2=>ih.l8 pb a k0 T ts d w1 (hA.sub h1.chg (Cuts.refl hA.good) hA.dep h2) (by omega)) (fun ch ⟨x,hx1,hx2⟩=>aA ⟨x,by rw [if_neg (by rw [h0]; decide)]; exact hx1,hx2⟩) (fun j hj=>bK rfl hj.2 aY N2 rfl rfl rfl (triL_nilN (aq (an (cS rfl bh aY N2 rfl hj.2.len (aK (J:=XR) j rfl ⟨by rw [if_neg (by rw [h0]; decide)]; exact hj.1,hj.2⟩ (fun w2 hw2=>hw2.sel [3,0] (by decide))))))))))
 · skip
   have h0:=cp h0
   have hcu:Cuts ts (ts.drop 1):=⟨List.drop_suffix 1 ts,hA.good.next (by decide) h0⟩
   have hlt:=hA.good.lt
   refine ao (ag (ae ?_))
   rw [if_pos h0]
   exact aa (ai rfl rfl (lm mE fj N0 rfl rfl (aB (first:=[]) (cap:=[]) [pb] N2 rfl rfl rfl Tryz.call167 aw ar (fun w1 h1 h2=>rX (hd ts) pb a k0 T (ts.drop 1) d w1 (hA.sub h1.chg hcu hA.dep h2)) (fun ch ⟨hd1,hd2⟩=>aA ⟨(191,(hd ts).a),by rw [if_pos h0,if_pos hd1],hd2⟩) (fun u_ hd1=>triL_nilN (ae (tri_slo [(2,_),(0,_)] rfl (aa (ai rfl rfl (aB (first:=[]) (cap:=[]) [pb] N2 rfl rfl rfl Tryz.call203 aw ar (fun w1 h1 h2=>ih.l7 pb a k0 T (ts.drop 1) (d+1) w1 (hA.sub h1.chg hcu hd1 h2) (by omega)) (fun ch ⟨x,hx1,hx2⟩=>aA ⟨x,by rw [if_pos h0,if_neg (by omega),hx1]; rfl,hx2⟩) (fun j hj=>aQ _ rfl dF rfl (fun b4=>bK rfl hj.2 aY N0 rfl rfl rfl (triL_nilN (ae (aa (ai rfl rfl (aE rfl rfl (aj kl rfl rfl (ak bR N4 rfl rfl rfl (ug rfl rfl rfl (by omega) (ey (v':=.int .i64 (d:Int)) (congrArg (Value.int .i64) (by omega)) (aE rfl rfl (aj kl rfl rfl (aC sz3 N4 rfl rfl rfl rfl rfl (Nat.le_of_ble_eq_true rfl) rfl (triL_nilN (ae (tri_slo [(4,_),(2,_)] rfl (aa (ej hj.2 bh aY N0 rfl rfl (bk (vs:=j.cs) Tryz.underlying28 zs30 rfl rfl rfl rfl hj.2.len (by decide) (by decide) (fun b29=>aT (eH _ _ _ _) rfl rfl (bK rfl ⟨rfl,rfl⟩ aY N4 rfl rfl rfl (triL_nilN (aq (cS rfl bh aY N4 rfl rfl (aK (J:=XR) ⟨un 4 j.e,j.us,_,_⟩ rfl ⟨by rw [if_pos h0,if_neg (by omega),hj.1]; rfl,⟨rfl,rfl⟩⟩ (fun w2 hw2=>(Sat.node1 _ (hw2.sel [0,2,5] (by decide)) (Nat.le_refl 1)).sel [1,0] (by decide)))))))))))))))))))))))))))))))))))))
theorem cmpK (f:Nat) (ih:XAll Tryz.prog f) (pb:Nat) (a:Addr) (k0:Nat) (T ts:List Tok) (d:Nat) (w:World) (hA:At w pb a k0 T ts d) (hf:8 * ts.length+5≤f+1):Calls Tryz.prog 166 #[.pointer (some ⟨pb,0,none⟩)] w (XT w pb a k0 T d (exP (f+1) 4 d ts)):=by
 refine az (args:=[.pointer (some ⟨pb,0,none⟩)]) (lent:=[pb]) (H:=[pC pb a k0 T ts d]) Tryz.func166 rfl Tryz.ntmps166 rfl hA.sat.cx ((show Tri _ [(0,_)] _ _ _ from ?_))
 have hto:=ep hA.env hA.suf hA.good
 have hR:=hA.env.rds ts hA.suf
 have hl:=hA.good.ne
 have hle:=hA.suf.length_le
 have hlk:=hA.env.len
 have hbn:=hA.env.bnd
 have hdp:=hA.dep
 rw [exP4]
 refine ae (aa (aQ _ rfl dF rfl (fun b2=>triL_nilN (ae (aa (ai rfl rfl (aB (first:=[]) (cap:=[]) [pb] N1 rfl rfl rfl Tryz.call186 aw ar (fun w1 h1 h2=>ih.l5 pb a k0 T ts d w1 (hA.sub h1.chg (Cuts.refl hA.good) hA.dep h2) (by omega)) (fun ch ⟨x,hx1,hx2⟩=>aA ⟨x,by rw [hx1],hx2⟩) (fun j hj=>aQ _ rfl dF rfl (fun b3=>bK rfl hj.2 aY N0 rfl rfl rfl (triL_nilN (ae (ae ?_))))))))))))
 have htj:=cE f 5 d ts hA.good j.e j.us hj.1
 refine aa (aF (first:=[]) (cap:=[]) rfl rfl rfl Tryz.call150 (fun w1 h1=>mF w1) (ai rfl rfl (triL_nilN (ay (bI (ι:=Nat) (F:=fun i=>[(0,.pointer (some ⟨pb,0,none⟩)),(2,.pointer (some ⟨b2,0,none⟩)),(3,.pointer (some ⟨b3,0,none⟩)),(10,.agg (toksV cmpO).toArray),(11,.int .i64 (i:Int))]) (HH:=fun i=>[box b3 30 j.cs,gB j.bl j.e j.cs,box b2 30 [.int .i64 0,.int .i64 0,.int .i64 0,.string .empty,.string .empty,.string .empty,.int .i64 0,.slice none 0 0],pC pb a k0 T j.us d]) (Pu:=fun i=>i≤6∧findO cmpO j.us=findO (cmpO.drop i) j.us) (μ:=fun i=>6 - i) (0) (.cons rfl (.cons rfl (.cons rfl (.cons rfl (.cons rfl (.nil _)))))) (fun _ h=>h) (⟨by omega,rfl⟩) (fun i hi=>ae (aa (cR rfl rfl rfl (triL_nilN (ae (av rfl (fun h1=>?_) (fun h1=>?_))))))))))))
 · skip
   have hil:i < cmpO.length:=by show i < 6; omega
   refine ao (ag (ae (ay (ae (aa (o_idxArr Tryz.underlying196 vg jR rfl rfl rfl (by omega) (by omega) (by rw [bY]; rfl) (xz cmpO i hil) (aQ (Tok.cs Tok.zero) rfl rY rfl (fun b5=>ea jR N0 rfl rfl rfl (triL_nilN (ae (aa (ai rfl rfl (aj wN rfl rfl (ak bR N0 rfl rfl rfl (aj rZ rfl rfl (ak bB N0 rfl rfl rfl (aB (first:=[]) (cap:=[]) [pb] N4 rfl rfl rfl Tryz.call103 aw ar (fun w1 h1 h2=>nextK (cmpO.getD i Tok.zero).k (cmpO.getD i Tok.zero).t pb a k0 T j.us d w1 (hA.sub h1.chg htj.1 hA.dep h2) (dD cmpO (by simp) _ (p6 cmpO i hil))) (fun ch hF=>hF.elim) (fun u_ hu_=>triL_nilN (aG rfl (fun h2=>?_) (fun h2=>?_))))))))))))))))))))
   · skip
     have hit:=qj hil hi.2 h2
     have hcu:Cuts ts (j.us.drop 1):=htj.1.trans ⟨List.drop_suffix 1 _,dN (dD cmpO (by simp)) htj.1.2 hit⟩
     refine ae (tri_slo [(5,_),(0,_),(2,_),(3,_)] rfl ?_)
     rw [if_pos h2]
     exact aa (ai rfl rfl (aB (first:=[]) (cap:=[]) [pb] N4 rfl rfl rfl Tryz.call186 aw ar (fun w1 h1 h2=>ih.l5 pb a k0 T (j.us.drop 1) d w1 (hA.sub h1.chg hcu hA.dep h2) (by have:=htj.2; have:=htj.1.2.lt; omega)) (fun ch ⟨x,hx1,hx2⟩=>aA ⟨x,by rw [hj.1]; exact cmp_err hit hx1,hx2⟩) (fun g hg=>aQ _ rfl dF rfl (fun b6=>bK rfl hg.2 aY N0 rfl rfl rfl (triL_nilN (ae (aa (aj r4 rfl rfl (ak bR N2 rfl rfl rfl (ej hj.2 bh aY N3 rfl rfl (ej hg.2 bh aY N0 rfl rfl (vV hj.2 hg.2 Tryz.underlying28 zs30 rfl rfl rfl (fun b31=>aT (eH _ _ _ _) rfl rfl (bK rfl ⟨rfl,rfl⟩ aY N6 rfl rfl rfl (triL_nilN (aq (ap (an (an (ap (an (cS rfl bh aY N6 rfl rfl (aK (J:=XR) ⟨bin _ j.e g.e,g.us,_,_⟩ rfl ⟨by rw [hj.1]; exact cmp_hit hit hg.1,⟨rfl,rfl⟩⟩ (fun w2 hw2=>(Sat.node2 _ (hw2.sel [0,5,2,7] (by decide)) (Nat.le_refl 2)).sel [1,0] (by decide)))))))))))))))))))))))))
   · skip
     exact ao (am (ag (tri_slo [(0,_),(2,_),(3,_),(10,_),(11,_)] rfl (aa (bJ rfl rfl rfl (by omega) (ai rfl rfl (triL_nilN (⟨i+1,(.cons rfl (.cons rfl (.cons rfl (.cons rfl (.cons rfl (.nil _)))))),(fun w2 hw2=>by rw [if_neg (by rw [h2]; decide)] at hw2; exact hw2.tail),⟨by omega,oK hil hi.2 h2⟩,by omega⟩))))))))
 · skip
   have hnone:=qk (l:=cmpO) (i:=i) (by show ¬ i < 6; omega) hi.2
   refine bu (ax (ax (aP (ag (ae (ae (aa (ai rfl rfl (aB (first:=[]) (cap:=[]) [pb] N3 rfl rfl rfl Tryz.call90 aw ar (fun w1 h1 h2=>dp isB pb a k0 T j.us d w1 (hA.sub h1.chg htj.1 hA.dep h2)) (fun ch hF=>hF.elim) (fun u_ hu_=>triL_nilN (aG rfl (fun h3=>?_) (fun h3=>?_))))))))))))
   · skip
     have hc3:=aH htj.1 (by decide) h3
     refine ae (tri_slo [(0,_),(2,_),(3,_)] rfl (aa (o_assignN rfl rfl (ae (ae ?_)))))
     rw [if_pos h3]
     refine aa (ai rfl rfl (aB (first:=[]) (cap:=[]) [pb] N3 rfl rfl rfl Tryz.call90 aw ar (fun w1 h1 h2=>dp eN pb a k0 T (j.us.drop 1) d w1 (hA.sub h1.chg hc3 hA.dep h2)) (fun ch hF=>hF.elim) (fun u_ hu_=>triL_nilN (aG rfl (fun h4=>?_) (fun h4=>?_)))))
     · skip
       rw [if_pos h4]
       have hcv:=aH hc3 (by decide) h4
       have hbg:=cmp_bad7 (one:=exP f 5 d) (e:=j.e) hnone h3 h4
       exact aa (o_assignN rfl rfl (ae (aa (ai rfl rfl (bk Tryz.underlying23 zs9 rfl rfl rfl rfl rfl (by decide) (by decide) (fun b34=>aB (first:=[]) (cap:=[]) [pb] N4 rfl rfl rfl Tryz.call93 aw ar (fun w1 h1 h2=>ii dc (some ⟨b34,0,none⟩) 1 pb a k0 T _ d w1 (hA.sub h1.chg hcv hA.dep h2) (RdS.row .z w1 h1) (by intro a' ha; cases ha; exact h1.neB .z (.s (.s (.s (.s .z)))) (by decide) rfl)) (fun ch ⟨hb1,hb2⟩=>aA ⟨_,by rw [hj.1]; exact hbg.1 hb1,hb2⟩) (fun u_ hok=>triL_nilN (ae (tri_slo [(7,_),(2,_),(3,_)] rfl (aa (ai rfl rfl (ej hj.2 bh aY N1 rfl rfl (bk (vs:=j.cs) Tryz.underlying28 zs30 rfl rfl rfl rfl hj.2.len (by decide) (by decide) (fun b38=>aT (eH _ _ _ _) rfl rfl (bK rfl ⟨rfl,rfl⟩ aY N4 rfl rfl rfl (triL_nilN (aq (an (cS rfl bh aY N4 rfl rfl (aK (J:=XR) ⟨un 7 j.e,_,_,_⟩ rfl ⟨by rw [hj.1]; exact hbg.2 hok,⟨rfl,rfl⟩⟩ (fun w2 hw2=>(Sat.node1 _ (hw2.sel [0,3,5] (by decide)) (Nat.le_refl 1)).sel [1,0] (by decide))))))))))))))))))))))
     · skip
       rw [if_neg (by rw [h4]; decide)]
       have hcv:=hc3
       have hbg:=cmp_bad6 (one:=exP f 5 d) (e:=j.e) hnone h3 h4
       exact ao (ag (ae (aa (ai rfl rfl (bk Tryz.underlying23 zs9 rfl rfl rfl rfl rfl (by decide) (by decide) (fun b34=>aB (first:=[]) (cap:=[]) [pb] N4 rfl rfl rfl Tryz.call93 aw ar (fun w1 h1 h2=>ii dc (some ⟨b34,0,none⟩) 1 pb a k0 T _ d w1 (hA.sub h1.chg hcv hA.dep h2) (RdS.row .z w1 h1) (by intro a' ha; cases ha; exact h1.neB .z (.s (.s (.s (.s .z)))) (by decide) rfl)) (fun ch ⟨hb1,hb2⟩=>aA ⟨_,by rw [hj.1]; exact hbg.1 hb1,hb2⟩) (fun u_ hok=>triL_nilN (ae (tri_slo [(7,_),(2,_),(3,_)] rfl (aa (ai rfl rfl (ej hj.2 bh aY N1 rfl rfl (bk (vs:=j.cs) Tryz.underlying28 zs30 rfl rfl rfl rfl hj.2.len (by decide) (by decide) (fun b38=>aT (eH _ _ _ _) rfl rfl (bK rfl ⟨rfl,rfl⟩ aY N4 rfl rfl rfl (triL_nilN (aq (an (cS rfl bh aY N4 rfl rfl (aK (J:=XR) ⟨un 6 j.e,_,_,_⟩ rfl ⟨by rw [hj.1]; exact hbg.2 hok,⟨rfl,rfl⟩⟩ (fun w2 hw2=>(Sat.node1 _ (hw2.sel [0,3,5] (by decide)) (Nat.le_refl 1)).sel [1,0] (by decide))))))))))))))))))))))
   · skip
     rw [if_neg (by rw [h3]; decide)]
     exact ao (ag (ae (tri_slo [(2,_),(3,_)] rfl (aa (ej hj.2 bh aY N0 rfl rfl (bK rfl hj.2 aY N2 rfl rfl rfl (triL_nilN (aq (cS rfl bh aY N2 rfl hj.2.len (aK (J:=XR) j rfl ⟨by rw [hj.1]; exact cmp_none hnone h3,hj.2⟩ (fun w2 hw2=>hw2.sel [3,1] (by decide))))))))))))
theorem vi {t:Tok} (h:TokOk t) (hk:t.k=2) (w:World):Calls Tryz.prog 133 #[.string (B t.t),.int .i64 10,.int .i64 64] w (cG w (.tuple #[.int .i64 (decZ t.t),.nilIface])) :=
 qP t.t (decZ t.t) w (by have:=h.len; omega) (h.num hk)
theorem thingK (f:Nat) (ih:XAll Tryz.prog f) (pb:Nat) (a:Addr) (k0:Nat) (T ts:List Tok) (d:Nat) (w:World) (hA:At w pb a k0 T ts d) (hf:8 * ts.length+1≤f+1):Calls Tryz.prog 209 #[.pointer (some ⟨pb,0,none⟩)] w (XT w pb a k0 T d (exP (f+1) 8 d ts)):=by
 refine az (args:=[.pointer (some ⟨pb,0,none⟩)]) (lent:=[pb]) (H:=[pC pb a k0 T ts d]) Tryz.func209 rfl Tryz.ntmps209 rfl hA.sat.cx ((show Tri _ [(0,_)] _ _ _ from ?_))
 have hto:=ep hA.env hA.suf hA.good
 have hR:=hA.env.rds ts hA.suf
 have hl:=hA.good.ne
 have hle:=hA.suf.length_le
 have hlk:=hA.env.len
 have hbn:=hA.env.bnd
 have hdp:=hA.dep
 rw [exP8]
 refine ae (aa (aQ _ rfl dF rfl (fun b2=>triL_nilN (ae (aa (ai rfl rfl (aE rfl rfl (aj dE rfl rfl (ak hG N1 rfl rfl rfl (aU Tryz.underlying58 fj rfl rfl rfl (hR _ _ rfl rfl) (by omega) (by omega) (bY _) (by decide) (iK 0 mE fj rfl rfl (hR _ _ rfl rfl) (by omega) (by omega) (aQ (Tok.cs Tok.zero) rfl nd rfl (fun b3=>ea fj N0 rfl rfl rfl (triL_nilN (ae (ay (ae (tri_slo [(3,_),(2,_),(0,_)] rfl (aa (aj iU rfl rfl (ak bR N0 rfl rfl rfl (aD rfl rfl rfl (o_assignN rfl rfl (av rfl (fun h0=>?_) (fun h0=>?_)))))))))))))))))))))))))
 · skip
   have h0:(hd ts).k=2:=h0
   have hg:=hA.good.drop (by rw [h0]; decide)
   have hl2:=hg.ne
   rw [List.length_drop] at hl2
   exact ae (tri_slo [(3,_),(2,_),(0,_)] rfl (aa (aj gt rfl rfl (ak bB N0 rfl rfl rfl (aF (first:=[]) (cap:=[]) rfl rfl rfl Tryz.call133 (fun w1 h1=>vi hto h0 w1) (ai rfl rfl (aZ rfl rfl rfl (aZ rfl rfl rfl (aO rfl rfl (o_assignN rfl rfl (ae (tri_slo [(4,_),(2,_),(0,_)] rfl (aa (ai rfl rfl (ai rfl rfl (aE rfl rfl (aj dE rfl rfl (ak hG N2 rfl rfl rfl (jz Tryz.underlying58 fj rfl rfl rfl (by omega) (by omega) (by omega) (ey (v':=pSl a k0 T (ts.drop 1)) (oI a k0 hA.suf hA.env.len (by omega)) (aE rfl rfl (aj dE rfl rfl (aC sz58 N2 rfl rfl rfl rfl rfl (Nat.le_of_ble_eq_true rfl) rfl (triL_nilN (ae (tri_slo [(4,_),(2,_)] rfl (aa (ai rfl rfl (aT (py _ _) rfl rfl (aF (first:=[]) (cap:=[]) rfl rfl rfl Tryz.call211 (fun w1 h1=>px ⟨1,decZ (hd ts).t,[]⟩ w1) (bK rfl ⟨rfl,rfl⟩ aY N1 rfl rfl rfl (triL_nilN (aq (ap (an (cS rfl bh aY N1 rfl rfl (aK (J:=XR) ⟨.mk 1 ⟨1,decZ (hd ts).t,[]⟩ [] [] 0 [],ts.drop 1,[],_⟩ rfl ⟨by unfold dy; rw [if_pos h0]; rfl,⟨rfl,rfl⟩⟩ (fun w2 hw2=>(hw2.leaf 1 ⟨1,decZ (hd ts).t,[]⟩ [] [] 0).sel [3,0] (by decide)))))))))))))))))))))))))))))))))))))))
 · skip
   have h0:¬ (hd ts).k=2:=h0
   refine ae (tri_slo [(3,_),(2,_),(0,_)] rfl (aa (aj iU rfl rfl (ak bR N0 rfl rfl rfl (aD rfl rfl rfl (o_assignN rfl rfl (av rfl (fun h1=>?_) (fun h1=>?_))))))))
   · skip
     have h1:(hd ts).k=3:=h1
     have hg:=hA.good.drop (by rw [h1]; decide)
     have hl2:=hg.ne
     rw [List.length_drop] at hl2
     exact ae (tri_slo [(3,_),(2,_),(0,_)] rfl (aa (ai rfl rfl (ai rfl rfl (aE rfl rfl (aj dE rfl rfl (ak hG N2 rfl rfl rfl (jz Tryz.underlying58 fj rfl rfl rfl (by omega) (by omega) (by omega) (ey (v':=pSl a k0 T (ts.drop 1)) (oI a k0 hA.suf hA.env.len (by omega)) (aE rfl rfl (aj dE rfl rfl (aC sz58 N2 rfl rfl rfl rfl rfl (Nat.le_of_ble_eq_true rfl) rfl (triL_nilN (ae (tri_slo [(3,_),(2,_)] rfl (aa (aj gt rfl rfl (ak bB N0 rfl rfl rfl (aT (vh _ _) rfl rfl (aF (first:=[]) (cap:=[]) rfl rfl rfl Tryz.call211 (fun w1 h1=>px ⟨2,0,(hd ts).t⟩ w1) (bK rfl ⟨rfl,rfl⟩ aY N1 rfl rfl rfl (triL_nilN (aq (ap (an (cS rfl bh aY N1 rfl rfl (aK (J:=XR) ⟨.mk 1 ⟨2,0,(hd ts).t⟩ [] [] 0 [],ts.drop 1,[],_⟩ rfl ⟨by unfold dy; rw [if_neg h0,if_pos h1]; rfl,⟨rfl,rfl⟩⟩ (fun w2 hw2=>(hw2.leaf 1 ⟨2,0,(hd ts).t⟩ [] [] 0).sel [3,0] (by decide)))))))))))))))))))))))))))))
   · skip
     have h1:¬ (hd ts).k=3:=h1
     refine ae (tri_slo [(3,_),(2,_),(0,_)] rfl (aa (ai rfl rfl (aB (first:=[]) (cap:=[]) [pb] N2 rfl rfl rfl Tryz.call90 aw ar (fun w1 h1 h2=>dp dc pb a k0 T ts d w1 (hA.sub h1.chg (Cuts.refl hA.good) hA.dep h2)) (fun ch hF=>hF.elim) (fun u_ hu_=>o_assignN rfl rfl (aG rfl (fun h2=>?_) (fun h2=>?_)))))))
     · skip
       refine ae (tri_slo [(2,_)] rfl ?_)
       rw [if_pos h2]
       exact aa (aT pz rfl rfl (aF (first:=[]) (cap:=[]) rfl rfl rfl Tryz.call211 (fun w1 h1=>px Val.zero w1) (bK rfl ⟨rfl,rfl⟩ aY N1 rfl rfl rfl (triL_nilN (aq (ap (an (cS rfl bh aY N1 rfl rfl (aK (J:=XR) ⟨.mk 1 Val.zero [] [] 0 [],ts.drop 1,[],_⟩ rfl ⟨by unfold dy; rw [if_neg h0,if_neg h1,if_pos h2]; rfl,⟨rfl,rfl⟩⟩ (fun w2 hw2=>(hw2.leaf 1 Val.zero [] [] 0).sel [3,0] (by decide)))))))))))
     · skip
       refine ae ?_
       rw [if_neg (cB h2)]
       refine aa (ai rfl rfl (aB (first:=[]) (cap:=[]) [pb] N2 rfl rfl rfl Tryz.call90 aw ar (fun w1 h1 h2=>dp lJ pb a k0 T ts d w1 (hA.sub h1.chg (Cuts.refl hA.good) hA.dep h2)) (fun ch hF=>hF.elim) (fun u_ hu_=>o_assignN rfl rfl (aG rfl (fun h3=>?_) (fun h3=>?_)))))
       · skip
         refine ae (tri_slo [(2,_)] rfl ?_)
         rw [if_pos h3]
         exact aa (aT (py _ _) rfl rfl (aF (first:=[]) (cap:=[]) rfl rfl rfl Tryz.call211 (fun w1 h1=>px ⟨3,1,[]⟩ w1) (bK rfl ⟨rfl,rfl⟩ aY N1 rfl rfl rfl (triL_nilN (aq (ap (an (cS rfl bh aY N1 rfl rfl (aK (J:=XR) ⟨.mk 1 ⟨3,1,[]⟩ [] [] 0 [],ts.drop 1,[],_⟩ rfl ⟨by unfold dy; rw [if_neg h0,if_neg h1,if_neg (by rw [h2]; decide),if_pos h3]; rfl,⟨rfl,rfl⟩⟩ (fun w2 hw2=>(hw2.leaf 1 ⟨3,1,[]⟩ [] [] 0).sel [3,0] (by decide)))))))))))
       · skip
         refine ae (tri_slo [(3,_),(2,_),(0,_)] rfl ?_)
         rw [if_neg (cB h3)]
         refine aa (ai rfl rfl (aB (first:=[]) (cap:=[]) [pb] N2 rfl rfl rfl Tryz.call90 aw ar (fun w1 h1 h2=>dp jo pb a k0 T ts d w1 (hA.sub h1.chg (Cuts.refl hA.good) hA.dep h2)) (fun ch hF=>hF.elim) (fun u_ hu_=>o_assignN rfl rfl (aG rfl (fun h4=>?_) (fun h4=>?_)))))
         · skip
           refine ae (tri_slo [(2,_)] rfl ?_)
           rw [if_pos h4]
           exact aa (aT (bval27_0 _) rfl rfl (aF (first:=[]) (cap:=[]) rfl rfl rfl Tryz.call211 (fun w1 h1=>px ⟨3,0,[]⟩ w1) (bK rfl ⟨rfl,rfl⟩ aY N1 rfl rfl rfl (triL_nilN (aq (ap (an (cS rfl bh aY N1 rfl rfl (aK (J:=XR) ⟨.mk 1 ⟨3,0,[]⟩ [] [] 0 [],ts.drop 1,[],_⟩ rfl ⟨by unfold dy; rw [if_neg h0,if_neg h1,if_neg (by rw [h2]; decide),if_neg (by rw [h3]; decide),if_pos h4]; rfl,⟨rfl,rfl⟩⟩ (fun w2 hw2=>(hw2.leaf 1 ⟨3,0,[]⟩ [] [] 0).sel [3,0] (by decide)))))))))))
         · skip
           refine ae ?_
           rw [if_neg (cB h4)]
           refine aa (ai rfl rfl (aB (first:=[]) (cap:=[]) [pb] N2 rfl rfl rfl Tryz.call46 aw ar (fun w1 h1 h2=>nH [40] pb a k0 T ts d w1 (hA.sub h1.chg (Cuts.refl hA.good) hA.dep h2)) (fun ch hF=>hF.elim) (fun u_ hu_=>o_assignN rfl rfl (aG rfl (fun h5=>?_) (fun h5=>?_)))))
           · skip
             have hcu:=aH (Cuts.refl hA.good) (by decide) h5
             have hlt:=hA.good.lt
             refine ae (tri_slo [(3,_),(2,_),(0,_)] rfl ?_)
             rw [if_pos h5]
             refine aa (ai rfl rfl (lm mE fj N0 rfl rfl (aB (first:=[]) (cap:=[]) [pb] N2 rfl rfl rfl Tryz.call167 aw ar (fun w1 h1 h2=>rX (hd ts) pb a k0 T (ts.drop 1) d w1 (hA.sub h1.chg hcu hA.dep h2)) (fun ch ⟨hd1,hd2⟩=>aA ⟨(191,(hd ts).a),by unfold dy; rw [if_neg h0,if_neg h1,if_neg (by rw [h2]; decide),if_neg (by rw [h3]; decide),if_neg (by rw [h4]; decide),if_pos h5,if_pos hd1],hd2⟩) (fun u_ hd1=>triL_nilN (ae (tri_slo [(2,_),(0,_)] rfl (aa (ai rfl rfl (aB (first:=[]) (cap:=[]) [pb] N2 rfl rfl rfl Tryz.call100 aw ar (fun w1 h1 h2=>ih.l1 pb a k0 T (ts.drop 1) (d+1) w1 (hA.sub h1.chg hcu hd1 h2) (by omega)) (fun ch ⟨x,hx1,hx2⟩=>aA ⟨x,by unfold dy; rw [if_neg h0,if_neg h1,if_neg (by rw [h2]; decide),if_neg (by rw [h3]; decide),if_neg (by rw [h4]; decide),if_pos h5,if_neg (by omega),hx1]; rfl,hx2⟩) (fun j hj=>aQ _ rfl dF rfl (fun b6=>bK rfl hj.2 aY N0 rfl rfl rfl (triL_nilN (ae ?_)))))))))))))
             have htj:=cE f 1 (d+1) _ hcu.2 j.e j.us hj.1
             exact aa (ai rfl rfl (aB (first:=[]) (cap:=[]) [pb] N4 rfl rfl rfl Tryz.call99 aw ar (fun w1 h1 h2=>lN [41] pb a k0 T j.us (d+1) w1 (hA.sub h1.chg (hcu.trans htj.1) hd1 h2)) (fun ch ⟨hm1,hm2⟩=>aA ⟨_,by unfold dy; rw [if_neg h0,if_neg h1,if_neg (by rw [h2]; decide),if_neg (by rw [h3]; decide),if_neg (by rw [h4]; decide),if_pos h5,if_neg (by omega),hj.1]; exact if_neg (by rw [hm1]; decide),hm2⟩) (fun u_ hm=>triL_nilN (ae (tri_slo [(6,_),(2,_),(0,_)] rfl (aa (ai rfl rfl (aE rfl rfl (aj kl rfl rfl (ak bR N4 rfl rfl rfl (ug rfl rfl rfl (by omega) (ey (v':=.int .i64 (d:Int)) (congrArg (Value.int .i64) (by omega)) (aE rfl rfl (aj kl rfl rfl (aC sz3 N4 rfl rfl rfl rfl rfl (Nat.le_of_ble_eq_true rfl) rfl (triL_nilN (ae (tri_slo [(6,_),(2,_)] rfl (aa (ej hj.2 bh aY N0 rfl rfl (bK rfl hj.2 aY N3 rfl rfl rfl (triL_nilN (aq (ap (an (cS rfl bh aY N3 rfl hj.2.len (aK (J:=XR) ⟨j.e,j.us.drop 1,_,_⟩ rfl ⟨by unfold dy; rw [if_neg h0,if_neg h1,if_neg (by rw [h2]; decide),if_neg (by rw [h3]; decide),if_neg (by rw [h4]; decide),if_pos h5,if_neg (by omega),hj.1]; exact if_pos hm,hj.2⟩ (fun w2 hw2=>hw2.sel [4,1] (by decide)))))))))))))))))))))))))))))
           · skip
             refine ao (am (ag (ae (tri_slo [(2,_),(0,_)] rfl ?_))))
             rw [if_neg (cB h5)]
             refine aa (ai rfl rfl (aB (first:=[]) (cap:=[]) [pb] N2 rfl rfl rfl Tryz.call92 aw ar (fun w1 h1 h2=>eG pb a k0 T ts d w1 (hA.sub h1.chg (Cuts.refl hA.good) hA.dep h2)) (fun ch ⟨hn1,hn2⟩=>aA ⟨_,by unfold dy; rw [if_neg h0,if_neg h1,if_neg (by rw [h2]; decide),if_neg (by rw [h3]; decide),if_neg (by rw [h4]; decide),if_neg (by rw [h5]; decide)]; exact ref_bad1 hn1,hn2⟩) (fun u_ hn=>aT (nJ _ _) rfl rfl (aQ _ rfl dF rfl (fun b7=>aC aY N0 rfl rfl rfl rfl rfl (Nat.le_of_ble_eq_true rfl) rfl (triL_nilN (ae (ae ?_))))))))
             have hcu:Cuts ts (ts.drop 1):=⟨List.drop_suffix 1 ts,hA.good.name hn⟩
             refine aa (ai rfl rfl (aB (first:=[]) (cap:=[]) [pb] N3 rfl rfl rfl Tryz.call46 aw ar (fun w1 h1 h2=>nH [46] pb a k0 T (ts.drop 1) d w1 (hA.sub h1.chg hcu hA.dep h2)) (fun ch hF=>hF.elim) (fun u_ hu_=>triL_nilN (aG rfl (fun h6=>?_) (fun h6=>?_)))))
             · skip
               refine tri_slo [(7,_),(2,_),(0,_)] rfl ?_
               rw [if_pos h6]
               exact MP.bj ([box b7 30 [.int .i64 2,.int .i64 (Val.zero).k,.int .i64 (Val.zero).n,.string (B (Val.zero).s),.string (B []),.string (B (hd ts).t),.int .i64 0,.slice none 0 0]]) [(0,true),(1,true),(2,true),(4,true),(3,false),(5,false),(6,false),(7,false)] [5,6,7] (by kernel_rfl) (by kernel_rfl) (fun _ h=>h.sel [0] (by decide)) (MP.ah rfl (aj jt rfl rfl (ab ⟨rfl,(MP.ah rfl (ak bB N0 rfl rfl rfl (ab ⟨rfl,(MP.ah rfl (ai rfl rfl (ab ⟨rfl,(MP.ah rfl (aj ju rfl rfl (ab ⟨rfl,(MP.aN rfl (aB (first:=[]) (cap:=[]) [pb] N3 rfl rfl rfl Tryz.call92 aw ar (fun w1 h1 h2=>eG pb a k0 T ((ts.drop 1).drop 1) d w1 (hA.sub h1.chg (aH hcu (by decide) h6) hA.dep h2)) (fun ch ⟨hm1,hm2⟩=>aA ⟨_,by unfold dy; rw [if_neg h0,if_neg h1,if_neg (by rw [h2]; decide),if_neg (by rw [h3]; decide),if_neg (by rw [h4]; decide),if_neg (by rw [h5]; decide)]; exact ref_bad2 hn h6 hm1,hm2⟩) (fun u_ hm=>ab (show _∧_ from ⟨fun _ _ h=>h.sel [0] (by decide),(MP.aN rfl (aC sz9 N0 rfl rfl rfl rfl rfl (Nat.le_of_ble_eq_true rfl) rfl (ab (show _∧_ from ⟨fun hh=>absurd hh (by decide),(MP.aN rfl (aj jt rfl rfl (ab (show _∧_ from ⟨fun hh=>absurd hh (by decide),(MP.aN rfl (aC sz9 N0 rfl rfl rfl rfl rfl (Nat.le_of_ble_eq_true rfl) rfl (ab (show _∧_ from ⟨fun hh=>absurd hh (by decide),(MP.cI (ag (ae (tri_slo [(7,_),(2,_)] rfl (aa (ej ⟨rfl,rfl⟩ bh aY N0 rfl rfl (bK rfl ⟨rfl,rfl⟩ aY N2 rfl rfl rfl (triL_nilN (aq (cS rfl bh aY N2 rfl rfl (aK (J:=XR) ⟨.mk 2 Val.zero (hd ts).t (hd ((ts.drop 1).drop 1)).t 0 [],((ts.drop 1).drop 1).drop 1,[],_⟩ rfl ⟨by unfold dy; rw [if_neg h0,if_neg h1,if_neg (by rw [h2]; decide),if_neg (by rw [h3]; decide),if_neg (by rw [h4]; decide),if_neg (by rw [h5]; decide)]; exact ref_two hn h6 hm,⟨rfl,rfl⟩⟩ (fun w2 hw2=>(hw2.leaf 2 Val.zero (hd ts).t (hd ((ts.drop 1).drop 1)).t 0).sel [4,0] (by decide)))))))))))))⟩))))⟩))))⟩))))⟩))))⟩)))⟩)))⟩)))⟩)))
             · skip
               rw [if_neg (cB h6)]
               exact ao (ag (ae (tri_slo [(7,_),(2,_)] rfl (aa (ej ⟨rfl,rfl⟩ bh aY N0 rfl rfl (bK rfl ⟨rfl,rfl⟩ aY N2 rfl rfl rfl (triL_nilN (aq (cS rfl bh aY N2 rfl rfl (aK (J:=XR) ⟨.mk 2 Val.zero [] (hd ts).t 0 [],ts.drop 1,[],_⟩ rfl ⟨by unfold dy; rw [if_neg h0,if_neg h1,if_neg (by rw [h2]; decide),if_neg (by rw [h3]; decide),if_neg (by rw [h4]; decide),if_neg (by rw [h5]; decide)]; exact ref_one hn h6,⟨rfl,rfl⟩⟩ (fun w2 hw2=>(hw2.leaf 2 Val.zero [] (hd ts).t 0).sel [4,0] (by decide))))))))))))
theorem mG:∀ f,XAll Tryz.prog f
 | 0=>⟨fun _ _ _ _ _ _ _ _ h=>absurd h (by omega),fun _ _ _ _ _ _ _ _ _ _ _ h=>absurd h (by omega),fun _ _ _ _ _ _ _ _ h=>absurd h (by omega),fun _ _ _ _ _ _ _ _ h=>absurd h (by omega),fun _ _ _ _ _ _ _ _ h=>absurd h (by omega),fun _ _ _ _ _ _ _ _ _ _ _ h=>absurd h (by omega),fun _ _ _ _ _ _ _ _ h=>absurd h (by omega),fun _ _ _ _ _ _ _ _ h=>absurd h (by omega)⟩
 | f+1=>⟨orK f (mG f),or1K f (mG f),notK f (mG f),cmpK f (mG f),sumK f (mG f),sum1K f (mG f),minusK f (mG f),thingK f (mG f)⟩
end Go.Proofs.YtjbpkcbefmpfgaaGreatDoor
namespace Go.Proofs.YtjbpkcbefmpfgaaGreatDoor
open Go.WK Go.RowKit 
theorem built30  : Tryz.prog.built 30 []=some ([.int .i64 0,.int .i64 0,.int .i64 0,.string .empty,.string .empty,.string .empty,.int .i64 0,.slice none 0 0]:List Value).toArray:=by kernel_rfl
theorem pA:(Tryz.prog.info? 87).map (·.zero)=some (some (.agg #[.string .empty,.string .empty,.int .i64 0,.int .i64 0,.int .i64 0,.string .empty,.string .empty,.string .empty,.int .i64 0,.slice none 0 0])):=by kernel_rfl
theorem qT (x0:ByteArray):Tryz.prog.built 87 [(0,.string x0)]=some ([.string x0,.string .empty,.int .i64 0,.int .i64 0,.int .i64 0,.string .empty,.string .empty,.string .empty,.int .i64 0,.slice none 0 0]:List Value).toArray:=by kernel_rfl
theorem gH:szB Tryz.prog 87=some 10:=by kernel_rfl
theorem la:bo Tryz.prog 87 1=some 1:=by kernel_rfl
theorem pB:cF Tryz.prog 87=some true:=by kernel_rfl
theorem eY:cF Tryz.prog 140=some false:=by kernel_rfl
theorem qU (x0_0:Int) (x0_1:Int) (x0_2:Int) (x0_3:ByteArray) (x0_4:ByteArray) (x0_5:ByteArray) (x0_6:Int) (A0_7:Option Addr) (n0_7 c0_7:Nat):Tryz.prog.built 53 [(0,.agg (([.int .i64 x0_0,.int .i64 x0_1,.int .i64 x0_2,.string x0_3,.string x0_4,.string x0_5,.int .i64 x0_6,.slice A0_7 n0_7 c0_7]:List Value)).toArray)]=some ([.int .i64 x0_0,.int .i64 x0_1,.int .i64 x0_2,.string x0_3,.string x0_4,.string x0_5,.int .i64 x0_6,.slice A0_7 n0_7 c0_7,.string .empty]:List Value).toArray:=by kernel_rfl
theorem zero53:(Tryz.prog.info? 53).map (·.zero)=some (some (.agg #[.int .i64 0,.int .i64 0,.int .i64 0,.string .empty,.string .empty,.string .empty,.int .i64 0,.slice none 0 0,.string .empty])):=by kernel_rfl
theorem mH:szB Tryz.prog 53=some 9:=by kernel_rfl
theorem lc:bo Tryz.prog 53 1=some 8:=by kernel_rfl
theorem dO:bo Tryz.prog 35 2=some 2:=by kernel_rfl
theorem gu:cF Tryz.prog 31=some false:=by kernel_rfl
theorem agg53:cF Tryz.prog 53=some true:=by kernel_rfl
theorem zs53:(Tryz.prog.info? 53).map (fun i=>(i.zero,i.size))=some (some (.agg #[.int .i64 0,.int .i64 0,.int .i64 0,.string .empty,.string .empty,.string .empty,.int .i64 0,.slice none 0 0,.string .empty]),9):=by kernel_rfl
theorem zsb53:(Tryz.prog.info? 53).map (fun i=>(i.zero,i.size,i.bytes))=some (some (.agg #[.int .i64 0,.int .i64 0,.int .i64 0,.string .empty,.string .empty,.string .empty,.int .i64 0,.slice none 0 0,.string .empty]),9,120):=by kernel_rfl
theorem sz31:szB Tryz.prog 31=some 1:=by kernel_rfl
theorem vj (x0:ByteArray):Tryz.prog.built 121 [(0,.string x0)]=some ([.string x0,.bool false]:List Value).toArray:=by kernel_rfl
theorem wO:(Tryz.prog.info? 121).map (·.zero)=some (some (.agg #[.string .empty,.bool false])):=by kernel_rfl
theorem ld:szB Tryz.prog 121=some 2:=by kernel_rfl
theorem wP:bo Tryz.prog 121 1=some 1:=by kernel_rfl
theorem sz4:szB Tryz.prog 4=some 1:=by kernel_rfl
theorem fB:bo Tryz.prog 35 5=some 12:=by kernel_rfl
theorem ji:cF Tryz.prog 33=some false:=by kernel_rfl
theorem r5:cF Tryz.prog 121=some true:=by kernel_rfl
theorem zs121:(Tryz.prog.info? 121).map (fun i=>(i.zero,i.size))=some (some (.agg #[.string .empty,.bool false]),2):=by kernel_rfl
theorem zsb121:(Tryz.prog.info? 121).map (fun i=>(i.zero,i.size,i.bytes))=some (some (.agg #[.string .empty,.bool false]),2,24):=by kernel_rfl
theorem sz33:szB Tryz.prog 33=some 1:=by kernel_rfl
theorem vk (f:Nat) (pb:Nat) (a:Addr) (k0:Nat) (T ts:List Tok) (d:Nat) (w:World) (hA:At w pb a k0 T ts d) (hf:8 * ts.length≤f):Calls Tryz.prog 95 #[.pointer (some ⟨pb,0,none⟩)] w (XT w pb a k0 T d (cN f d ts)):=by
 refine az (args:=[.pointer (some ⟨pb,0,none⟩)]) (lent:=[pb]) (H:=[pC pb a k0 T ts d]) Tryz.func95 rfl Tryz.ntmps95 rfl hA.sat.cx ((show Tri _ [(0,_)] _ _ _ from ?_))
 have hto:=ep hA.env hA.suf hA.good
 have hR:=hA.env.rds ts hA.suf
 have hl:=hA.good.ne
 have hle:=hA.suf.length_le
 have hlk:=hA.env.len
 have hbn:=hA.env.bnd
 have hdp:=hA.dep
 refine ae (aa (aQ _ rfl dF rfl (fun b2=>triL_nilN (ae (ae (aa (ai rfl rfl (aB (first:=[]) (cap:=[]) [pb] N1 rfl rfl rfl Tryz.call90 aw ar (fun w1 h1 h2=>dp j6 pb a k0 T ts d w1 (hA.sub h1.chg (Cuts.refl hA.good) hA.dep h2)) (fun ch hF=>hF.elim) (fun u_ hu_=>triL_nilN (aG rfl (fun h0=>?_) (fun h0=>?_)))))))))))
 · skip
   have hcu:=aH (Cuts.refl hA.good) (by decide) h0
   have hlt:=hA.good.lt
   rw [if_pos h0]
   exact ae (aa (ai rfl rfl (aB (first:=[]) (cap:=[]) [pb] N1 rfl rfl rfl Tryz.call100 aw ar (fun w1 h1 h2=>(mG f).l1 pb a k0 T (ts.drop 1) d w1 (hA.sub h1.chg hcu hA.dep h2) (by omega)) (fun ch ⟨x,hx1,hx2⟩=>aA ⟨x,by rw [cN,if_pos h0]; exact hx1,hx2⟩) (fun j hj=>bK rfl hj.2 aY N1 rfl rfl rfl (triL_nilN (aq (an (cS rfl bh aY N1 rfl hj.2.len (aK (J:=XR) j rfl ⟨by rw [cN,if_pos h0]; exact hj.1,hj.2⟩ (fun w2 hw2=>hw2.sel [2,0] (by decide)))))))))))
 · skip
   rw [if_neg (cB h0)]
   exact ao (ag (ae (aa (aT built30 rfl rfl (bK rfl ⟨rfl,rfl⟩ aY N0 rfl rfl rfl (triL_nilN (aq (cS rfl bh aY N0 rfl rfl (aK (J:=XR) ⟨Ex.zero,ts,[],_⟩ rfl ⟨by rw [cN,if_neg (by rw [h0]; decide)],⟨rfl,rfl⟩⟩ (fun w2 hw2=>(hw2.leaf 0 Val.zero [] [] 0).sel [2,0] (by decide)))))))))))
theorem r6 (pb:Nat) (a:Addr) (k0:Nat) (T ts:List Tok) (d:Nat) (w:World) (hA:At w pb a k0 T ts d):Calls Tryz.prog 137 #[.pointer (some ⟨pb,0,none⟩)] w (dz w [pb] (fun _:Unit=>.bool (gU ts)) (fun _=>[pC pb a k0 T (ts) (d)]) (fun _=>True) (fun _=>False)):=by
 refine az (args:=[.pointer (some ⟨pb,0,none⟩)]) (lent:=[pb]) (H:=[pC pb a k0 T ts d]) Tryz.func137 rfl Tryz.ntmps137 rfl hA.sat.cx ((show Tri _ [(0,_)] _ _ _ from ?_))
 have hto:=ep hA.env hA.suf hA.good
 have hR:=hA.env.rds ts hA.suf
 have hl:=hA.good.ne
 have hle:=hA.suf.length_le
 have hlk:=hA.env.len
 have hbn:=hA.env.bnd
 have hdp:=hA.dep
 refine ae (aa (o_assignN rfl rfl (ae (aa (ai rfl rfl (aE rfl rfl (aj dE rfl rfl (ak hG N0 rfl rfl rfl (aU Tryz.underlying58 fj rfl rfl rfl (hR _ _ rfl rfl) (by omega) (by omega) (bY _) (by decide) (iK 0 mE fj rfl rfl (hR _ _ rfl rfl) (by omega) (by omega) (aQ (Tok.cs Tok.zero) rfl nd rfl (fun b3=>ea fj N0 rfl rfl rfl (triL_nilN (ae (ae (tri_slo [(3,_),(0,_)] rfl (aa (aj iU rfl rfl (ak bR N0 rfl rfl rfl (triL_nilN (ay (ae (ae (aa (aD rfl rfl rfl (o_assignN rfl rfl (av rfl (fun h0=>?_) (fun h0=>?_))))))))))))))))))))))))))))
 · skip
   have h0:(hd ts).k=2:=h0
   exact ao (ag (cn (congrArg (fun b=>some (Value.bool b)) (decide_eq_true h0)) (ae (au [] (.nil _) (aa (o_assignN rfl rfl (aq (ap (an (ba rfl rfl (aK () (by rw [begT_1 (.inl h0)]) (trivial) (fun w2 hw2=>hw2.sel [1] (by decide)))))))))))))
 · skip
   have h0:¬ (hd ts).k=2:=h0
   refine aa (aD rfl rfl rfl (o_assignN rfl rfl (av rfl (fun h2=>?_) (fun h2=>?_))))
   · skip
     have h2:(hd ts).k=3:=h2
     exact ae (au [] (.nil _) (aa (o_assignN rfl rfl (aq (ap (an (ba rfl rfl (aK () (by rw [begT_1 (.inr h2)]) (trivial) (fun w2 hw2=>hw2.sel [1] (by decide))))))))))
   · skip
     have h2:¬ (hd ts).k=3:=h2
     refine ae (tri_slo [(11,_),(3,_),(0,_)] rfl (aa (aD rfl rfl rfl (o_assignN rfl rfl (av rfl (fun h3=>?_) (fun h3=>?_))))))
     · skip
       have h3:(hd ts).k=4:=h3
       refine ae (tri_slo [(3,_)] rfl (aa (aj gt rfl rfl (ak bB N0 rfl rfl rfl (bE rfl rfl rfl (ai rfl rfl ?_))))))
       refine' bv [_,_,_] [] (dj:=20) (dr:=23) rfl rfl (fun g1=>?_) ⟨_,rfl,rfl,rfl,(.nil _)⟩ rfl ?_
       rotate_left
       · skip
         exact aj gt rfl rfl (ak bB N0 rfl rfl rfl (bE rfl rfl rfl (ab (Piece.mk rfl rfl (.nil _) (fun _ h=>h)))))
       exact o_assignN rfl rfl (aq (ap (an (ba rfl rfl (aK () (by rw [begT_2 h3]; rfl) (trivial) (fun w2 hw2=>hw2.sel [1] (by decide)))))))
     · skip
       have h3:¬ (hd ts).k=4:=h3
       refine ae (aa (aD rfl rfl rfl (o_assignN rfl rfl (av rfl (fun h4=>?_) (fun h4=>?_)))))
       · skip
         have h4:(hd ts).k=1:=h4
         refine ae (ae (tri_slo [(3,_),(0,_)] rfl (aa (aj gt rfl rfl (ak bB N0 rfl rfl rfl (triL_nilN (ay (ae (ae (aa (bE rfl rfl rfl (o_assignN rfl rfl (av rfl (fun h5=>?_) (fun h5=>?_))))))))))))))
         · skip
           have h5:(hd ts).t=dc:=h5
           exact ao (ag (cn (congrArg (fun b=>some (Value.bool b)) (decide_eq_true h5)) (ae (au [] (.nil _) (aa (o_assignN rfl rfl (aq (ap (an (ap (an (ba rfl rfl (aK () (by rw [ro h4 (.inl h5)]) (trivial) (fun w2 hw2=>hw2.sel [1] (by decide)))))))))))))))
         · skip
           have h5:¬ (hd ts).t=dc:=h5
           refine ae (tri_slo [(28,_),(0,_)] rfl (aa (bE rfl rfl rfl (o_assignN rfl rfl (av rfl (fun h7=>?_) (fun h7=>?_))))))
           · skip
             have h7:(hd ts).t=lJ:=h7
             exact ao (ag (cn (congrArg (fun b=>some (Value.bool b)) (decide_eq_true h7)) (ae (au [] (.nil _) (aa (o_assignN rfl rfl (aq (ap (an (ap (an (ba rfl rfl (aK () (by rw [ro h4 (.inr (.inl h7))]) (trivial) (fun w2 hw2=>hw2.sel [1] (by decide)))))))))))))))
           · skip
             have h7:¬ (hd ts).t=lJ:=h7
             refine ae (aa (bE rfl rfl rfl (o_assignN rfl rfl (av rfl (fun h9=>?_) (fun h9=>?_)))))
             · skip
               have h9:(hd ts).t=jo:=h9
               exact ao (ag (cn (congrArg (fun b=>some (Value.bool b)) (decide_eq_true h9)) (ae (au [] (.nil _) (aa (o_assignN rfl rfl (aq (ap (an (ap (an (ba rfl rfl (aK () (by rw [ro h4 (.inr (.inr (.inl h9)))]) (trivial) (fun w2 hw2=>hw2.sel [1] (by decide)))))))))))))))
             · skip
               have h9:¬ (hd ts).t=jo:=h9
               refine aa (bE rfl rfl rfl (o_assignN rfl rfl (av rfl (fun h11=>?_) (fun h11=>?_))))
               · skip
                 have h11:(hd ts).t=eN:=h11
                 exact ae (au [] (.nil _) (aa (o_assignN rfl rfl (aq (ap (an (ap (an (ba rfl rfl (aK () (by rw [ro h4 (.inr (.inr (.inr h11)))]) (trivial) (fun w2 hw2=>hw2.sel [1] (by decide))))))))))))
               · skip
                 have h11:¬ (hd ts).t=eN:=h11
                 exact ao (am (ag (ae (tri_slo [(0,_)] rfl (aa (ai rfl rfl (aB (first:=[]) (cap:=[]) [pb] N1 rfl rfl rfl Tryz.call97 aw ar (fun w1 h1 h2=>mb pb a k0 T ts d w1 (hA.sub h1.chg (Cuts.refl hA.good) hA.dep h2)) (fun ch hF=>hF.elim) (fun u_ hu_=>o_assignN rfl rfl (aq (ap (an (ba rfl rfl (aK () (by rw [begT_4 h4 (by rintro (e | e | e | e); exact h5 e; exact h7 e; exact h9 e; exact h11 e)]) (trivial) (fun w2 hw2=>hw2.sel [1] (by decide)))))))))))))))
       · skip
         have h4:¬ (hd ts).k=1:=h4
         exact ao (am (ag (ae (au [] (.nil _) (aa (o_assignN rfl rfl (aq (ba rfl rfl (aK () (by rw [begT_5 h0 h2 h3 h4]) (trivial) (fun w2 hw2=>hw2.sel [1] (by decide)))))))))))
theorem wQ (pb:Nat) (a:Addr) (k0:Nat) (T ts:List Tok) (d:Nat) (w:World) (hA:At w pb a k0 T ts d):Calls Tryz.prog 143 #[.pointer (some ⟨pb,0,none⟩)] w (dz w [pb] (fun j:(List UInt8 × List UInt8) × List Tok=>.agg ([.string (B j.1.1),.string (B j.1.2),.int .i64 0,.int .i64 0,.int .i64 0,.string .empty,.string .empty,.string .empty,.int .i64 0,.slice none 0 0]:List Value).toArray) (fun j=>[pC pb a k0 T j.2 d]) (fun j=>gb ts=.ok j) (fun ch=>∃ x,gb ts=.error x∧ch=dl x)):=by
 refine az (args:=[.pointer (some ⟨pb,0,none⟩)]) (lent:=[pb]) (H:=[pC pb a k0 T ts d]) Tryz.func143 rfl Tryz.ntmps143 rfl hA.sat.cx ((show Tri _ [(0,_)] _ _ _ from ?_))
 have hto:=ep hA.env hA.suf hA.good
 have hR:=hA.env.rds ts hA.suf
 have hl:=hA.good.ne
 have hle:=hA.suf.length_le
 have hlk:=hA.env.len
 have hbn:=hA.env.bnd
 have hdp:=hA.dep
 refine ae (aa (aQ _ rfl pA rfl (fun b2=>triL_nilN (ae (aa (ai rfl rfl (aB (first:=[]) (cap:=[]) [pb] N1 rfl rfl rfl Tryz.call92 aw ar (fun w1 h1 h2=>eG pb a k0 T ts d w1 (hA.sub h1.chg (Cuts.refl hA.good) hA.dep h2)) (fun ch ⟨hn1,hn2⟩=>aA ⟨_,vZ hn1,hn2⟩) (fun u_ hn=>aT (qT _) rfl rfl (aQ _ rfl pA rfl (fun b3=>aC gH N0 rfl rfl rfl rfl rfl (Nat.le_of_ble_eq_true rfl) rfl (triL_nilN (ae (ae ?_)))))))))))))
 have hcu:Cuts ts (ts.drop 1):=⟨List.drop_suffix 1 ts,hA.good.name hn⟩
 refine aa (ai rfl rfl (aB (first:=[]) (cap:=[]) [pb] N2 rfl rfl rfl Tryz.call90 aw ar (fun w1 h1 h2=>dp asB pb a k0 T (ts.drop 1) d w1 (hA.sub h1.chg hcu hA.dep h2)) (fun ch hF=>hF.elim) (fun u_ hu_=>triL_nilN (aG rfl (fun h0=>?_) (fun h0=>?_)))))
 · skip
   refine tri_slo [(3,_),(2,_),(0,_)] rfl ?_
   rw [if_pos h0]
   exact aa (ai rfl rfl (aB (first:=[]) (cap:=[]) [pb] N2 rfl rfl rfl Tryz.call92 aw ar (fun w1 h1 h2=>eG pb a k0 T ((ts.drop 1).drop 1) d w1 (hA.sub h1.chg (aH hcu (by decide) h0) hA.dep h2)) (fun ch ⟨hm1,hm2⟩=>aA ⟨_,src_bad2 hn h0 hm1,hm2⟩) (fun u_ hm=>aj la rfl rfl (aC sz9 N0 rfl rfl rfl rfl rfl (Nat.le_of_ble_eq_true rfl) rfl (triL_nilN (ae (tri_slo [(3,_),(2,_)] rfl (aa (aS pB gH N0 rfl rfl rfl rfl (aC gH N1 rfl rfl rfl rfl rfl (Nat.le_of_ble_eq_true rfl) rfl (triL_nilN (aq (cS rfl pB gH N1 rfl rfl (aK (J:=(List UInt8 × List UInt8) × List Tok) (((hd ts).t,(hd ((ts.drop 1).drop 1)).t),((ts.drop 1).drop 1).drop 1) rfl (src_two hn h0 hm) (fun w2 hw2=>hw2.sel [2] (by decide))))))))))))))))
 · skip
   rw [if_neg (cB h0)]
   exact ao (ag (ae (tri_slo [(3,_),(2,_)] rfl (aa (aS pB gH N0 rfl rfl rfl rfl (aC gH N1 rfl rfl rfl rfl rfl (Nat.le_of_ble_eq_true rfl) rfl (triL_nilN (aq (cS rfl pB gH N1 rfl rfl (aK (J:=(List UInt8 × List UInt8) × List Tok) (((hd ts).t,[]),ts.drop 1) rfl (src_one hn h0) (fun w2 hw2=>hw2.sel [2] (by decide))))))))))))
theorem ew {τ σ:Type} (abs:σ→τ) (D:σ→List Chunk) (L:σ→List Nat) (I:σ→Nat→Prop) (can:List Tok→Bool) (one:τ→List Tok→PT τ) (qc qf:Nat) (cap:List Value) (s0:σ) (pb:Nat) (a:Addr) (k0:Nat) (T ts:List Tok) (d:Nat) (w:World) (hA:At w pb a k0 T ts d) (hS:Sat ⟨default,0,[],w,pb::L s0⟩ (pC pb a k0 T ts d::D s0) w) (hna:a.block ∉ pb::L s0) (hI0:I s0 0) (hDL:∀ s,(∀ c ∈ D s,∀ k,c.fp k→k ∈ L s)∧(∀ k ∈ L s, ∃ c ∈ D s,c.fp k)) (hcc:∀ args w,(callFunc qc args).run Tryz.prog w=.ok (.enter qc args) w) (hcf:∀ args w,(callFunc qf args).run Tryz.prog w=.ok (.enter qf args) w)
  (hcan:∀ us w,At w pb a k0 T us d→Calls Tryz.prog qc #[.pointer (some ⟨pb,0,none⟩)] w (dz w [pb] (fun _:Unit=>.bool (can us)) (fun _=>[pC pb a k0 T (us) (d)]) (fun _=>True) (fun _=>False)))
  (hone:∀ s n us w',Cuts ts us→I s n→n < 16→At w' pb a k0 T us d→Chg (pb::L s0) w w'→Sat ⟨default,0,[],w',pb::L s⟩ (pC pb a k0 T us d::D s) w'→(∀ k,k < w.heap.size→k ∉ pb::L s0→k ∉ pb::L s)→Calls Tryz.prog qf cap.toArray w' (dz w' (pb::L s) (fun _:σ × List Tok=>.tuple #[]) (fun j=>pC pb a k0 T j.2 d::D j.1) (fun j=>one (abs s) us=.ok (abs j.1,j.2)∧I j.1 (n+1)) (fun ch=>∃ x,one (abs s) us=.error x∧ch=dl x)))
  (htk:∀ s us s' us',WK.Good us→one s us=.ok (s',us')→Cuts us us'):Calls Tryz.prog 96 #[.pointer (some ⟨pb,0,none⟩),.int .i64 16,.func (.func qc) #[.pointer (some ⟨pb,0,none⟩)] #[],.func (.func qf) #[] cap.toArray] w (dz w (pb::L s0) (fun _:σ × List Tok=>.tuple #[]) (fun j=>pC pb a k0 T j.2 d::D j.1) (fun j=>cM can one 17 0 (abs s0) ts=.ok (abs j.1,j.2)) (fun ch=>∃ x,cM can one 17 0 (abs s0) ts=.error x∧ch=dl x)):=by
 refine az (args:=[.pointer (some ⟨pb,0,none⟩),.int .i64 16,.func (.func qc) #[.pointer (some ⟨pb,0,none⟩)] #[],.func (.func qf) #[] cap.toArray]) (lent:=pb::L s0) (H:=pC pb a k0 T ts d::D s0) Tryz.func96 rfl Tryz.ntmps96 rfl hS.cx ((show Tri _ [(0,_),(1,_),(2,_),(3,_)] _ _ _ from ae (aa (o_assignN rfl rfl (ay (bI (ι:=σ × List Tok × Nat) (F:=fun q=>[(0,.pointer (some ⟨pb,0,none⟩)),(1,.int .i64 16),(2,.func (.func qc) #[.pointer (some ⟨pb,0,none⟩)] #[]),(3,.func (.func qf) #[] cap.toArray),(8,.int .i64 (q.2.2:Int))]) (HH:=fun q=>pC pb a k0 T q.2.1 d::D q.1) (Pu:=fun q=>Cuts ts q.2.1∧I q.1 q.2.2∧q.2.2≤16∧cM can one 17 0 (abs s0) ts=cM can one (17 - q.2.2) q.2.2 (abs q.1) q.2.1) (μ:=fun q=>17 - q.2.2) ((s0,ts,0)) (.cons rfl (.cons rfl (.cons rfl (.cons rfl (.cons rfl (.nil _)))))) (fun _ h=>h) (⟨Cuts.refl hA.good,hI0,Nat.zero_le _,rfl⟩) (fun q hi=>ae (ae ?_))))))))
 obtain ⟨m,hm⟩:∃ m,17 - q.2.2=m+1:=⟨16 - q.2.2,by omega⟩
 have hi4:=hi.2.2.2
 rw [hm] at hi4
 by_cases hn:q.2.2=0
 · skip
   obtain ⟨V,hV⟩:∃ V,V=q.2.1:=⟨_,rfl⟩
   have hcv:Cuts ts V:=hV ▸ hi.1
   have hL:cM can one 17 0 (abs s0) ts=ku can one m q.2.2 (abs q.1) V:=hi4.trans (by rw [hV,hn]; exact vW can one m _ _)
   rw [← hV]
   have hb:decide ((q.2.2:Int)=0)=true:=decide_eq_true (by omega)
   refine aa (ai rfl rfl (aD rfl rfl rfl ?_))
   rw [hb]
   refine ai rfl rfl (jw rfl rfl (jw rfl rfl (fq rfl rfl rfl rfl (triL_nilN (cn rfl (ao (ag (ae (ay (ae (ae (tri_slo [(0,_),(1,_),(2,_),(3,_),(8,_)] rfl (aa (ai rfl rfl (aB (first:=[.pointer (some ⟨pb,0,none⟩)]) (cap:=[]) [pb] .z rfl rfl rfl hcc aw ar (fun w1 h1 h2=>hcan V w1 (hA.subL h1.chg hna hcv hA.dep h2)) (fun ch hF=>hF.elim) (fun u_ hu_=>dV rfl rfl (triL_nilN (aG rfl (fun hc=>?_) (fun hc=>?_)))))))))))))))))))
   · skip
     have hc:=cJ hc
     refine aa (ai rfl rfl (aB (first:=[]) (cap:=[]) [pb] .z rfl rfl rfl Tryz.call47 aw ar (fun w1 h1 h2=>kw 190 pb a k0 T V d w1 (hA.subL h1.chg hna hcv hA.dep h2)) (fun ch hF=>aA ⟨_,hL.trans (sP hc),hF⟩) (fun j hj=>hj.elim)))
   · skip
     have hc:=cp hc
     refine ao (ag (ae (ae (aa (ai rfl rfl (ai rfl rfl (aD rfl rfl rfl (triL_nilN (av rfl (fun h16=>?_) (fun h16=>?_))))))))))
     · skip
       have h16:q.2.2=16:=by omega
       refine tri_slo [(0,_),(1,_),(2,_),(3,_),(8,_)] rfl (aa (ai rfl rfl (aB (first:=[]) (cap:=[]) [pb] .z rfl rfl rfl Tryz.call47 aw ar (fun w1 h1 h2=>kw 3 pb a k0 T V d w1 (hA.subL h1.chg hna hcv hA.dep h2)) (fun ch hF=>aA ⟨_,hL.trans (qm hc h16),hF⟩) (fun j hj=>hj.elim))))
     · skip
       have h16:¬ q.2.2=16:=by omega
       exact ao (ag (tri_slo [(0,_),(1,_),(2,_),(3,_),(8,_)] rfl (aa (ai rfl rfl (df (first:=[]) (cap:=cap) [] (pC pb a k0 T V d::D q.1) [] (pb::L q.1) (by simp [iE]) rfl rfl rfl hcf (ge (hDL q.1).1) (gf (hDL q.1).2) (fun w1 h1 h2=>hone q.1 q.2.2 V w1 hcv hi.2.1 (by omega) (hA.subL h1.chg hna hcv hA.dep (by exact (h2.sel1))) h1.chg h2 (eP h1 (hDL q.1).2)) (fun ch ⟨x,hx1,hx2⟩=>aA ⟨x,hL.trans (sQ hc h16 hx1),hx2⟩) (fun j hj=>ab (am (ag (aa (ai rfl rfl (bJ rfl rfl rfl (by omega) (o_assignN rfl rfl (⟨(j.1,j.2,q.2.2+1),(.cons rfl (.cons rfl (.cons rfl (.cons rfl (.cons rfl (.nil _)))))),(fun w2 hw2=>by simpa using hw2),⟨hcv.trans (htk _ _ _ _ hcv.2 hj.1),hj.2,by simp only; omega,by rw [hL,nW hc h16 hj.1,show 17 - (q.2.2+1)=m by omega]⟩,(by simp only; omega)⟩)))))))))))))
 · skip
   have hb:decide ((q.2.2:Int)=0)=false:=decide_eq_false (by omega)
   refine aa (ai rfl rfl (aD rfl rfl rfl ?_))
   rw [hb]
   refine ai rfl rfl (ai rfl rfl (aB (first:=[]) (cap:=[]) [pb] .z rfl rfl rfl Tryz.call46 aw ar (fun w1 h1 h2=>nH [44] pb a k0 T q.2.1 d w1 (hA.subL h1.chg hna hi.1 hA.dep h2)) (fun ch hF=>hF.elim) (fun u_ hu_=>jc rfl rfl rfl rfl (triL_nilN (aG rfl (fun h0=>?_) (fun h0=>?_))))))
   · skip
     rw [if_pos h0]
     obtain ⟨V,hV⟩:∃ V,V=q.2.1.drop 1:=⟨_,rfl⟩
     have hcv:Cuts ts V:=hV ▸ aH hi.1 (by decide) h0
     have hL:cM can one 17 0 (abs s0) ts=ku can one m q.2.2 (abs q.1) V:=hi4.trans (by rw [hV]; exact vX can one m q.2.2 (abs q.1) q.2.1 hn h0)
     rw [← hV]
     refine ao (ag (ae (ay (ae (ae (tri_slo [(0,_),(1,_),(2,_),(3,_),(8,_)] rfl (aa (ai rfl rfl (aB (first:=[.pointer (some ⟨pb,0,none⟩)]) (cap:=[]) [pb] .z rfl rfl rfl hcc aw ar (fun w1 h1 h2=>hcan V w1 (hA.subL h1.chg hna hcv hA.dep h2)) (fun ch hF=>hF.elim) (fun u_ hu_=>dV rfl rfl (triL_nilN (aG rfl (fun hc=>?_) (fun hc=>?_)))))))))))))
     · skip
       have hc:=cJ hc
       refine aa (ai rfl rfl (aB (first:=[]) (cap:=[]) [pb] .z rfl rfl rfl Tryz.call47 aw ar (fun w1 h1 h2=>kw 190 pb a k0 T V d w1 (hA.subL h1.chg hna hcv hA.dep h2)) (fun ch hF=>aA ⟨_,hL.trans (sP hc),hF⟩) (fun j hj=>hj.elim)))
     · skip
       have hc:=cp hc
       refine ao (ag (ae (ae (aa (ai rfl rfl (ai rfl rfl (aD rfl rfl rfl (triL_nilN (av rfl (fun h16=>?_) (fun h16=>?_))))))))))
       · skip
         have h16:q.2.2=16:=by omega
         refine tri_slo [(0,_),(1,_),(2,_),(3,_),(8,_)] rfl (aa (ai rfl rfl (aB (first:=[]) (cap:=[]) [pb] .z rfl rfl rfl Tryz.call47 aw ar (fun w1 h1 h2=>kw 3 pb a k0 T V d w1 (hA.subL h1.chg hna hcv hA.dep h2)) (fun ch hF=>aA ⟨_,hL.trans (qm hc h16),hF⟩) (fun j hj=>hj.elim))))
       · skip
         have h16:¬ q.2.2=16:=by omega
         exact ao (ag (tri_slo [(0,_),(1,_),(2,_),(3,_),(8,_)] rfl (aa (ai rfl rfl (df (first:=[]) (cap:=cap) [] (pC pb a k0 T V d::D q.1) [] (pb::L q.1) (by simp [iE]) rfl rfl rfl hcf (ge (hDL q.1).1) (gf (hDL q.1).2) (fun w1 h1 h2=>hone q.1 q.2.2 V w1 hcv hi.2.1 (by omega) (hA.subL h1.chg hna hcv hA.dep (by exact (h2.sel1))) h1.chg h2 (eP h1 (hDL q.1).2)) (fun ch ⟨x,hx1,hx2⟩=>aA ⟨x,hL.trans (sQ hc h16 hx1),hx2⟩) (fun j hj=>ab (am (ag (aa (ai rfl rfl (bJ rfl rfl rfl (by omega) (o_assignN rfl rfl (⟨(j.1,j.2,q.2.2+1),(.cons rfl (.cons rfl (.cons rfl (.cons rfl (.cons rfl (.nil _)))))),(fun w2 hw2=>by simpa using hw2),⟨hcv.trans (htk _ _ _ _ hcv.2 hj.1),hj.2,by simp only; omega,by rw [hL,nW hc h16 hj.1,show 17 - (q.2.2+1)=m by omega]⟩,(by simp only; omega)⟩)))))))))))))
   · skip
     rw [if_neg (cB h0)]
     exact bu (ax (ax (aP (bS rfl (aK (J:=σ × List Tok) (q.1,q.2.1) rfl (hi4.trans (vY can one m q.2.2 (abs q.1) q.2.1 hn h0)) (fun w2 hw2=>hw2))))))
theorem item1K (f bc bq sb:Nat) (X:Nat→Value) (s:LS ItemX) (n:Nat) (pb:Nat) (a:Addr) (k0:Nat) (T ts:List Tok) (d:Nat) (w:World) (hA:At w pb a k0 T ts d) (hS:Sat ⟨default,0,[],w,pb::lsL sb s⟩ (pC pb a k0 T ts d::lsD itemKd sb 53 (fun s=>[X 0,X 1,X 2,X 3,X 4,X 5,X 6,X 7,X 8,X 9,X 10,X 11,X 12,X 13,X 14,X 15,X 16,X 17,.slice s.A s.l.length s.c,X 19,X 20,X 21,X 22,X 23,X 24,X 25,X 26,X 27,X 28,X 29,X 30]) s) w) (hna:a.block ∉ pb::lsL sb s) (hbc:Rd w (some ⟨bc,0,none⟩) [.pointer (some ⟨pb,0,none⟩)]) (hbcn:bc ∉ pb::lsL sb s) (hbq:Rd w (some ⟨bq,0,none⟩) [.pointer (some ⟨sb,16,none⟩)]) (hbqn:bq ∉ pb::lsL sb s) (hI:s.l.length=n) (hn16:n < 16) (hf:8 * ts.length+8≤f):Calls Tryz.prog 142 #[.pointer (some ⟨bc,0,none⟩),.pointer (some ⟨bq,0,none⟩)] w (dz w (pb::lsL sb s) (fun _:LS ItemX × List Tok=>.tuple #[]) (fun j=>pC pb a k0 T j.2 d::lsD itemKd sb 53 (fun s=>[X 0,X 1,X 2,X 3,X 4,X 5,X 6,X 7,X 8,X 9,X 10,X 11,X 12,X 13,X 14,X 15,X 16,X 17,.slice s.A s.l.length s.c,X 19,X 20,X 21,X 22,X 23,X 24,X 25,X 26,X 27,X 28,X 29,X 30]) j.1) (fun j=>gC f d s.l ts=.ok (j.1.l,j.2)∧j.1.l.length=n+1) (fun ch=>∃ x,gC f d s.l ts=.error x∧ch=dl x)):=by
 refine az (args:=[.pointer (some ⟨bc,0,none⟩),.pointer (some ⟨bq,0,none⟩)]) (lent:=pb::lsL sb s) (H:=pC pb a k0 T ts d::lsD itemKd sb 53 (fun s=>[X 0,X 1,X 2,X 3,X 4,X 5,X 6,X 7,X 8,X 9,X 10,X 11,X 12,X 13,X 14,X 15,X 16,X 17,.slice s.A s.l.length s.c,X 19,X 20,X 21,X 22,X 23,X 24,X 25,X 26,X 27,X 28,X 29,X 30]) s) Tryz.func142 rfl Tryz.ntmps142 rfl hS.cx ((show Tri _ [(0,_),(1,_)] _ _ _ from ?_))
 have hdp:=hA.dep
 have hB:∀ cx H,cx.w0=w→cx.lent=pb::lsL sb s→RdS cx H (some ⟨bc,0,none⟩) [.pointer (some ⟨pb,0,none⟩)]:=fun cx H q1 q2=>RdS.lent (by rw [q1]; exact hbc) (fun b hb=>by cases hb; rw [q2]; exact hbcn)
 have hQ:∀ cx H,cx.w0=w→cx.lent=pb::lsL sb s→RdS cx H (some ⟨bq,0,none⟩) [.pointer (some ⟨sb,16,none⟩)]:=fun cx H q1 q2=>RdS.lent (by rw [q1]; exact hbq) (fun b hb=>by cases hb; rw [q2]; exact hbqn)
 show Tri _ _ [pC pb a k0 T ts d,box sb 37 [X 0,X 1,X 2,X 3,X 4,X 5,X 6,X 7,X 8,X 9,X 10,X 11,X 12,X 13,X 14,X 15,X 16,X 17,.slice s.A s.l.length s.c,X 19,X 20,X 21,X 22,X 23,X 24,X 25,X 26,X 27,X 28,X 29,X 30],row (.slice s.A s.l.length s.c) 53 itemKd.z s.l.length s.xs,du itemKd s.bl s.l s.xs] _ _
 refine ae (aa (aL (A:=some ⟨bc,0,none⟩) (kk:=0) bn rfl rfl (hB _ _ rfl rfl) rfl (aB (first:=[]) (cap:=[]) [pb] N0 rfl rfl rfl Tryz.call100 aw ar (fun w1 h1 h2=>(mG f).l1 pb a k0 T ts d w1 (hA.subL h1.chg hna (Cuts.refl hA.good) hA.dep h2) (by omega)) (fun ch ⟨x,hx1,hx2⟩=>aA ⟨x,item_err hx1,hx2⟩) (fun j hj=>TriX.know (fun w2 hw2=>iD (hw2.holds _ (Nth.mem (i:=0) .z))) (fun ⟨z1,z2,z3,z7,z4,z5,z6,z8,z9,z0,hcs⟩=>?_)))))
 rw [hcs]
 refine aT (qU _ _ _ _ _ _ _ _ _ _) rfl rfl (aQ _ rfl zero53 rfl (fun b2=>aC mH N0 rfl rfl rfl rfl rfl (Nat.le_of_ble_eq_true rfl) rfl (triL_nilN (ae (ae ?_)))))
 have htj:=cE f 1 d ts hA.good j.e j.us hj.1
 refine aa (aL (A:=some ⟨bc,0,none⟩) (kk:=0) bn rfl rfl (hB _ _ rfl rfl) rfl (aB (first:=[]) (cap:=[]) [pb] N2 rfl rfl rfl Tryz.call90 aw ar (fun w1 h1 h2=>dp asB pb a k0 T j.us d w1 (hA.subL h1.chg hna htj.1 hA.dep h2)) (fun ch hF=>hF.elim) (fun u_ hu_=>triL_nilN (aG rfl (fun h0=>?_) (fun h0=>?_)))))
 · skip
   rw [if_pos h0]
   refine tri_slo [(2,_),(0,_),(1,_)] rfl (aa (aL (A:=some ⟨bc,0,none⟩) (kk:=0) bn rfl rfl (hB _ _ rfl rfl) rfl (aB (first:=[]) (cap:=[]) [pb] N2 rfl rfl rfl Tryz.call92 aw ar (fun w1 h1 h2=>eG pb a k0 T (j.us.drop 1) d w1 (hA.subL h1.chg hna (aH htj.1 (by decide) h0) hA.dep h2)) (fun ch ⟨hn1,hn2⟩=>aA ⟨_,item_bad hj.1 h0 hn1,hn2⟩) (fun u_ hn=>aj lc rfl rfl (aC sz9 N0 rfl rfl rfl rfl rfl (Nat.le_of_ble_eq_true rfl) rfl (triL_nilN (tri_slo [(2,_),(1,_)] rfl (MP.bj ([box b2 53 [.int .i64 z1,.int .i64 z2,.int .i64 z3,.string z4,.string z5,.string z6,.int .i64 z7,.slice z8 z9 z0,.string (B (hd (j.us.drop 1)).t)],box sb 37 [X 0,X 1,X 2,X 3,X 4,X 5,X 6,X 7,X 8,X 9,X 10,X 11,X 12,X 13,X 14,X 15,X 16,X 17,.slice s.A s.l.length s.c,X 19,X 20,X 21,X 22,X 23,X 24,X 25,X 26,X 27,X 28,X 29,X 30]]) [(0,true),(1,true),(2,true),(3,true),(4,true),(5,true),(6,false),(7,false),(8,false),(9,false),(10,false)] [8,9,10] (by kernel_rfl) (by kernel_rfl) (fun _ h=>h.sel [0,3] (by decide)) (MP.ah rfl (aL (A:=some ⟨bq,0,none⟩) (kk:=0) eY rfl rfl (hQ _ _ rfl rfl) rfl (ab ⟨rfl,(MP.ah rfl (aL (A:=some ⟨bq,0,none⟩) (kk:=0) eY rfl rfl (hQ _ _ rfl rfl) rfl (ab ⟨rfl,(MP.ah rfl (aE rfl rfl (ab ⟨rfl,(MP.ah rfl (aj dO rfl rfl (ab ⟨rfl,(MP.ah rfl (ak gu N1 rfl rfl rfl (ab ⟨rfl,(MP.ah rfl (aS agg53 mH N0 rfl rfl rfl rfl (ab ⟨rfl,(MP.aN rfl (bk Tryz.underlying31 zs53 rfl rfl rfl rfl rfl (by decide) (by decide) (fun b17=>ab (show _∧_ from ⟨fun _ _ h=>h.sel [1,4] (by decide),(MP.aN rfl (cH Tryz.underlying31 zsb53 rfl (by decide) N5 rfl rfl rfl (RdS.row .z) rfl (cj rfl) (by unfold maxLen; omega) (by omega) (fun A18 c18=>ab (show _∧_ from ⟨fun _ _ h=>h.sel [1,4] (by decide),(MP.aN rfl (aE rfl rfl (ab (show _∧_ from ⟨fun hh=>absurd hh (by decide),(MP.aN rfl (aj dO rfl rfl (ab (show _∧_ from ⟨fun hh=>absurd hh (by decide),(MP.aN rfl ?_)⟩))))⟩))))⟩))))⟩))))⟩)))⟩)))⟩)))⟩)))⟩)))⟩))))))))))); refine aC sz31 N4 rfl rfl rfl rfl rfl (Nat.le_of_ble_eq_true rfl) rfl (ab (show _∧_ from ⟨fun hh=>absurd hh (by decide),(MP.cI (bS rfl ?_))⟩))
   exact aK (J:=LS ItemX × List Tok) (⟨s.l++[⟨j.e,(hd (j.us.drop 1)).t⟩],A18,c18,s.xs++_,_⟩,(j.us.drop 1).drop 1) rfl ⟨item_two hj.1 h0 hn,by simp [hI]⟩ (fun w2 hw2=>by
    have e1:=Sat.moreSeq itemKd (a:=⟨j.e,(hd (j.us.drop 1)).t⟩) (hw2.sel [6,2,3,4,5] (by decide)) (fun w h=>wb h)
    simp only [lsD,List.length_append,List.length_singleton]
    exact e1.sel [1,2,3,0] (by decide))
 · skip
   rw [if_neg (cB h0)]
   refine ao (ag (tri_slo [(2,_),(1,_)] rfl (MP.bj ([box b2 53 [.int .i64 z1,.int .i64 z2,.int .i64 z3,.string z4,.string z5,.string z6,.int .i64 z7,.slice z8 z9 z0,.string .empty],box sb 37 [X 0,X 1,X 2,X 3,X 4,X 5,X 6,X 7,X 8,X 9,X 10,X 11,X 12,X 13,X 14,X 15,X 16,X 17,.slice s.A s.l.length s.c,X 19,X 20,X 21,X 22,X 23,X 24,X 25,X 26,X 27,X 28,X 29,X 30]]) [(0,true),(1,true),(2,true),(3,true),(4,true),(5,true),(6,false),(7,false),(8,false),(9,false),(10,false)] [8,9,10] (by kernel_rfl) (by kernel_rfl) (fun _ h=>h.sel [0,3] (by decide)) (MP.ah rfl (aL (A:=some ⟨bq,0,none⟩) (kk:=0) eY rfl rfl (hQ _ _ rfl rfl) rfl (ab ⟨rfl,(MP.ah rfl (aL (A:=some ⟨bq,0,none⟩) (kk:=0) eY rfl rfl (hQ _ _ rfl rfl) rfl (ab ⟨rfl,(MP.ah rfl (aE rfl rfl (ab ⟨rfl,(MP.ah rfl (aj dO rfl rfl (ab ⟨rfl,(MP.ah rfl (ak gu N1 rfl rfl rfl (ab ⟨rfl,(MP.ah rfl (aS agg53 mH N0 rfl rfl rfl rfl (ab ⟨rfl,(MP.aN rfl (bk Tryz.underlying31 zs53 rfl rfl rfl rfl rfl (by decide) (by decide) (fun b17=>ab (show _∧_ from ⟨fun _ _ h=>h.sel [1,4] (by decide),(MP.aN rfl (cH Tryz.underlying31 zsb53 rfl (by decide) N5 rfl rfl rfl (RdS.row .z) rfl (cj rfl) (by unfold maxLen; omega) (by omega) (fun A18 c18=>ab (show _∧_ from ⟨fun _ _ h=>h.sel [1,4] (by decide),(MP.aN rfl (aE rfl rfl (ab (show _∧_ from ⟨fun hh=>absurd hh (by decide),(MP.aN rfl (aj dO rfl rfl (ab (show _∧_ from ⟨fun hh=>absurd hh (by decide),(MP.aN rfl (aC sz31 N4 rfl rfl rfl rfl rfl (Nat.le_of_ble_eq_true rfl) rfl (ab (show _∧_ from ⟨fun hh=>absurd hh (by decide),(MP.cI (bS rfl ?_))⟩))))⟩))))⟩))))⟩))))⟩))))⟩)))⟩)))⟩)))⟩)))⟩)))⟩))))))
   exact aK (J:=LS ItemX × List Tok) (⟨s.l++[⟨j.e,[]⟩],A18,c18,s.xs++_,_⟩,j.us) rfl ⟨item_one hj.1 h0,by simp [hI]⟩ (fun w2 hw2=>by
    have e1:=Sat.moreSeq itemKd (a:=⟨j.e,[]⟩) (hw2.sel [6,2,3,4,5] (by decide)) (fun w h=>wb h)
    simp only [lsD,List.length_append,List.length_singleton]
    exact e1.sel [1,2,3,0] (by decide))
theorem ord1K (f bc bq sb:Nat) (X:Nat→Value) (s:LS OrdX) (n:Nat) (pb:Nat) (a:Addr) (k0:Nat) (T ts:List Tok) (d:Nat) (w:World) (hA:At w pb a k0 T ts d) (hS:Sat ⟨default,0,[],w,pb::lsL sb s⟩ (pC pb a k0 T ts d::lsD ordKd sb 121 (fun s=>[X 0,X 1,X 2,X 3,X 4,X 5,X 6,X 7,X 8,X 9,X 10,X 11,X 12,X 13,X 14,X 15,X 16,X 17,X 18,X 19,X 20,X 21,X 22,X 23,X 24,X 25,X 26,X 27,.slice s.A s.l.length s.c,X 29,X 30]) s) w) (hna:a.block ∉ pb::lsL sb s) (hbc:Rd w (some ⟨bc,0,none⟩) [.pointer (some ⟨pb,0,none⟩)]) (hbcn:bc ∉ pb::lsL sb s) (hbq:Rd w (some ⟨bq,0,none⟩) [.pointer (some ⟨sb,16,none⟩)]) (hbqn:bq ∉ pb::lsL sb s) (hI:s.l.length=n) (hn16:n < 16) (_:8 * ts.length+8≤f):Calls Tryz.prog 144 #[.pointer (some ⟨bc,0,none⟩),.pointer (some ⟨bq,0,none⟩)] w (dz w (pb::lsL sb s) (fun _:LS OrdX × List Tok=>.tuple #[]) (fun j=>pC pb a k0 T j.2 d::lsD ordKd sb 121 (fun s=>[X 0,X 1,X 2,X 3,X 4,X 5,X 6,X 7,X 8,X 9,X 10,X 11,X 12,X 13,X 14,X 15,X 16,X 17,X 18,X 19,X 20,X 21,X 22,X 23,X 24,X 25,X 26,X 27,.slice s.A s.l.length s.c,X 29,X 30]) j.1) (fun j=>lU s.l ts=.ok (j.1.l,j.2)∧j.1.l.length=n+1) (fun ch=>∃ x,lU s.l ts=.error x∧ch=dl x)):=by
 refine az (args:=[.pointer (some ⟨bc,0,none⟩),.pointer (some ⟨bq,0,none⟩)]) (lent:=pb::lsL sb s) (H:=pC pb a k0 T ts d::lsD ordKd sb 121 (fun s=>[X 0,X 1,X 2,X 3,X 4,X 5,X 6,X 7,X 8,X 9,X 10,X 11,X 12,X 13,X 14,X 15,X 16,X 17,X 18,X 19,X 20,X 21,X 22,X 23,X 24,X 25,X 26,X 27,.slice s.A s.l.length s.c,X 29,X 30]) s) Tryz.func144 rfl Tryz.ntmps144 rfl hS.cx ((show Tri _ [(0,_),(1,_)] _ _ _ from ?_))
 have hdp:=hA.dep
 have hB:∀ cx H,cx.w0=w→cx.lent=pb::lsL sb s→RdS cx H (some ⟨bc,0,none⟩) [.pointer (some ⟨pb,0,none⟩)]:=fun cx H q1 q2=>RdS.lent (by rw [q1]; exact hbc) (fun b hb=>by cases hb; rw [q2]; exact hbcn)
 have hQ:∀ cx H,cx.w0=w→cx.lent=pb::lsL sb s→RdS cx H (some ⟨bq,0,none⟩) [.pointer (some ⟨sb,16,none⟩)]:=fun cx H q1 q2=>RdS.lent (by rw [q1]; exact hbq) (fun b hb=>by cases hb; rw [q2]; exact hbqn)
 show Tri _ _ [pC pb a k0 T ts d,box sb 37 [X 0,X 1,X 2,X 3,X 4,X 5,X 6,X 7,X 8,X 9,X 10,X 11,X 12,X 13,X 14,X 15,X 16,X 17,X 18,X 19,X 20,X 21,X 22,X 23,X 24,X 25,X 26,X 27,.slice s.A s.l.length s.c,X 29,X 30],row (.slice s.A s.l.length s.c) 121 ordKd.z s.l.length s.xs,du ordKd s.bl s.l s.xs] _ _
 refine ae (aa (aL (A:=some ⟨bc,0,none⟩) (kk:=0) bn rfl rfl (hB _ _ rfl rfl) rfl (aB (first:=[]) (cap:=[]) [pb] N0 rfl rfl rfl Tryz.call92 aw ar (fun w1 h1 h2=>eG pb a k0 T ts d w1 (hA.subL h1.chg hna (Cuts.refl hA.good) hA.dep h2)) (fun ch ⟨hn1,hn2⟩=>aA ⟨_,ord_bad hn1,hn2⟩) (fun u_ hn=>aT (vj _) rfl rfl (aQ _ rfl wO rfl (fun b2=>aC ld N0 rfl rfl rfl rfl rfl (Nat.le_of_ble_eq_true rfl) rfl (triL_nilN (ae ?_))))))))
 have hcu:Cuts ts (ts.drop 1):=⟨List.drop_suffix 1 ts,hA.good.name hn⟩
 refine aa (aL (A:=some ⟨bc,0,none⟩) (kk:=0) bn rfl rfl (hB _ _ rfl rfl) rfl (aB (first:=[]) (cap:=[]) [pb] N1 rfl rfl rfl Tryz.call90 aw ar (fun w1 h1 h2=>dp jG pb a k0 T (ts.drop 1) d w1 (hA.subL h1.chg hna hcu hA.dep h2)) (fun ch hF=>hF.elim) (fun u_ hu_=>aj wP rfl rfl (aC sz4 N0 rfl rfl rfl rfl rfl (Nat.le_of_ble_eq_true rfl) rfl (triL_nilN (tri_slo [(2,_),(1,_)] rfl (MP.bj ([box b2 121 [.string (B (hd ts).t),.bool (atT 1 jG (ts.drop 1))],box sb 37 [X 0,X 1,X 2,X 3,X 4,X 5,X 6,X 7,X 8,X 9,X 10,X 11,X 12,X 13,X 14,X 15,X 16,X 17,X 18,X 19,X 20,X 21,X 22,X 23,X 24,X 25,X 26,X 27,.slice s.A s.l.length s.c,X 29,X 30]]) [(0,true),(1,true),(2,true),(3,true),(4,true),(5,true),(6,false),(7,false),(8,false),(9,false),(10,false)] [8,9,10] (by kernel_rfl) (by kernel_rfl) (fun _ h=>h.sel [0,2] (by decide)) (MP.ah rfl (aL (A:=some ⟨bq,0,none⟩) (kk:=0) eY rfl rfl (hQ _ _ rfl rfl) rfl (ab ⟨rfl,(MP.ah rfl (aL (A:=some ⟨bq,0,none⟩) (kk:=0) eY rfl rfl (hQ _ _ rfl rfl) rfl (ab ⟨rfl,(MP.ah rfl (aE rfl rfl (ab ⟨rfl,(MP.ah rfl (aj fB rfl rfl (ab ⟨rfl,(MP.ah rfl (ak ji N1 rfl rfl rfl (ab ⟨rfl,(MP.ah rfl (aS r5 ld N0 rfl rfl rfl rfl (ab ⟨rfl,(MP.aN rfl (bk Tryz.underlying33 zs121 rfl rfl rfl rfl rfl (by decide) (by decide) (fun b15=>ab (show _∧_ from ⟨fun _ _ h=>h.sel [1,3] (by decide),(MP.aN rfl (cH Tryz.underlying33 zsb121 rfl (by decide) N4 rfl rfl rfl (RdS.row .z) rfl (cj rfl) (by unfold maxLen; omega) (by omega) (fun A16 c16=>ab (show _∧_ from ⟨fun _ _ h=>h.sel [1,3] (by decide),(MP.aN rfl (aE rfl rfl (ab (show _∧_ from ⟨fun hh=>absurd hh (by decide),(MP.aN rfl (aj fB rfl rfl (ab (show _∧_ from ⟨fun hh=>absurd hh (by decide),(MP.aN rfl (aC sz33 N3 rfl rfl rfl rfl rfl (Nat.le_of_ble_eq_true rfl) rfl ?_))⟩))))⟩))))⟩))))⟩))))⟩)))⟩)))⟩)))⟩)))⟩)))⟩)))))))))); refine ab (show _∧_ from ⟨fun hh=>absurd hh (by decide),(MP.cI (bS rfl ?_))⟩)
 exact aK (J:=LS OrdX × List Tok) (⟨s.l++[⟨(hd ts).t,atT 1 jG (ts.drop 1)⟩],A16,c16,s.xs++OrdX.cs ⟨(hd ts).t,atT 1 jG (ts.drop 1)⟩,s.bl⟩,_) rfl ⟨ord_ok hn,by simp [hI]⟩ (fun w2 hw2=>by
  have e1:=Sat.moreSeq0 ordKd (a:=⟨(hd ts).t,atT 1 jG (ts.drop 1)⟩) (ys:=OrdX.cs ⟨(hd ts).t,atT 1 jG (ts.drop 1)⟩) (hw2.sel [5,2,3,4] (by decide)) (fun w=>rfl)
  simp only [lsD,List.length_append,List.length_singleton]
  exact e1.sel [1,2,3,0] (by decide))
end Go.Proofs.YtjbpkcbefmpfgaaGreatDoor
namespace Go.Proofs.YtjbpkcbefmpfgaaGreatDoor
open Go.WK Go.RowKit
structure LV (w:World):Prop where
 m:∃ m,w.cell? ⟨3,0,none⟩=some (.int .i64 m)
 tab : Lib.TabIs Tryz.prog w "internal/strconv.uint64pow10" .u64 Lib.pow10Tab
theorem gTab : Tryz.prog.globalNamed "internal/strconv.uint64pow10" = some 2 := by kernel_rfl
theorem LV.chgL {w w':World} {L:List Nat} (h:LV w) (hc:Chg L w w') (hn:∀ k,k < 10→k ∉ L):LV w':=by
 obtain ⟨⟨m,hm⟩,ht⟩:=h
 refine ⟨⟨m, ?_⟩, ?_⟩
 · rw [← hm]; exact World.cell?_of_block (hc.block 3 (World.block_lt_of_cell? _ _ hm) (hn 3 (by decide)))
 · unfold Lib.TabIs World.var? at ht ⊢
   rw [gTab] at ht ⊢
   simp only [Option.bind_some] at ht ⊢
   have hlt:2 < w.heap.size:=by
    rcases Nat.lt_or_ge 2 w.heap.size with h | h
    · exact h
    · rw [Array.getElem?_eq_none h] at ht; cases ht
   rw [hc.block 2 hlt (hn 2 (by decide))]; exact ht
theorem LV.chg {w w':World} (h:LV w) (hc:Chg [] w w'):LV w':=h.chgL hc (by simp)
theorem vl (n:Int) (w:World) (h:inR n=true) (hL:LV w):Calls Tryz.prog 115 #[.int .i64 n,.int .i64 10] w (cG w (.string (B (Lib.itoa n)))):=by
 obtain ⟨h1,h2⟩:=gL.1 h
 have h:Calls Tryz.prog 115 #[.int .i64 n,.int .i64 10] w fun e w'=>e=.returned (.string ⟨(Lib.itoa n).toArray⟩)∧∃ k os,w'=Sort.grow (w.drewN k) os:=Any.strconv_FormatInt_10 Tryz.laysM173 n h1 h2 w hL.tab
 refine h.mono fun e w' ⟨he,k,os,hw⟩=>⟨he, ?_⟩
 subst hw
 exact Chg.of_below (Lib.below_grow _ w (Nat.le_refl _) k os)
theorem tT (s old new:List UInt8) (w:World) (hs:s.length < 4294967281) (h1:1≤old.length) (hne:old≠new) (hn:new.length≤2) (hL:LV w) :
  Calls Tryz.prog 116 #[.string (B s),.string (B old),.string (B new)] w (cG w (.string (B (nL old new s)))):=by
 obtain ⟨m,hm⟩:=hL.m
 have hcount:Lib.countB (B s) (B old) * (B new).size≤2 * s.length+2:=by
  have a1:=Lib.countB_mul_le (B old) (by rw [dC]; exact h1) s.length (B s) (by rw [dC]; exact Nat.le_refl _)
  rw [dC,dC] at a1
  have a2:Lib.countB (B s) (B old) * 1≤Lib.countB (B s) (B old) * old.length:=Nat.mul_le_mul_left _ h1
  have a3:Lib.countB (B s) (B old) * (B new).size≤Lib.countB (B s) (B old) * 2:=Nat.mul_le_mul_left _ (by rw [dC]; exact hn)
  omega
 have h:Calls Tryz.prog 116 #[.string (B s),.string (B old),.string (B new)] w fun e w'=>e=.returned (.string ⟨(Lib.replaceAll (B s).data.toList (B old).data.toList (B new).data.toList).toArray⟩)∧Below w.heap.size w w' :=
  Any.strings_ReplaceAll Tryz.lays155 Tryz.Builder_Extra_155 (B s) (B old) (B new) m w (by rw [dC]; exact hs) hm (by rw [dC]; exact h1) (by rw [dC s]; omega)
 refine h.mono fun e w' ⟨he,hw⟩=>⟨?_,Chg.of_below hw⟩
 rw [he,ig,ig,ig]
 unfold Lib.replaceAll
 rw [pP hne]
theorem lib_dbl (s:List UInt8) (w:World) (hs:s.length < 4294967281) (hL:LV w):Calls Tryz.prog 116 #[.string (B s),.string (B [39]),.string (B [39,39])] w (cG w (.string (B (dbl s)))):=by
 rw [← oD]
 exact tT s [39] [39,39] w hs (by simp) (by simp) (by simp) hL
theorem lib_itoa (n:Int) (w:World) (h:inR n=true) (hL:LV w):Calls Tryz.prog 121 #[.int .i64 n] w (cG w (.string (B (Lib.itoa n)))):=by
 obtain ⟨h1,h2⟩:=gL.1 h
 have h:Calls Tryz.prog 121 #[.int .i64 n] w fun e w'=>e=.returned (.string ⟨(Lib.itoa n).toArray⟩)∧∃ k os,w'=Sort.grow (w.drewN k) os:=Any.strconv_Itoa Tryz.laysM171 n h1 h2 w hL.tab
 refine h.mono fun e w' ⟨he,k,os,hw⟩=>⟨he, ?_⟩
 subst hw
 exact Chg.of_below (Lib.below_grow _ w (Nat.le_refl _) k os)
theorem tU {t:Tok} (h:TokOk t) (hk:t.k=2) (w:World):Calls Tryz.prog 145 #[.string (B t.t)] w (cG w (.tuple #[.int .i64 (decZ t.t),.nilIface])):=by
 have hn:=h.num hk
 have hl:=h.len
 have h2:Calls Tryz.prog 145 #[.string (B t.t)] w fun e w'=>e=.returned (.tuple #[.int .i64 (decZ t.t),.nilIface])∧(w'=w∨∃ t,w'=Lib.bytesWorld w 5 t) :=
  Any.strconv_Atoi_ok Tryz.laysC172 (B t.t) (by rw [dC]; omega) (decZ t.t) (by rw [ig, ← Lib.parseIntB_64]; exact hn) w
 refine h2.mono fun e w' ⟨he,hw⟩=>⟨he, ?_⟩
 rcases hw with rfl | ⟨t,rfl⟩
 · exact Chg.refl _ _
 · exact Chg.of_below (Lib.bytesWorld_below _ _ _)
end Go.Proofs.YtjbpkcbefmpfgaaGreatDoor
namespace Go.Proofs.YtjbpkcbefmpfgaaGreatDoor
open Go.WK Go.RowKit 
theorem nj:bo Tryz.prog 35 0=some 0:=by kernel_rfl
theorem mc:bo Tryz.prog 35 1=some 1:=by kernel_rfl
theorem cZ:bo Tryz.prog 35 3=some 3:=by kernel_rfl
theorem eI:cF Tryz.prog 32=some false:=by kernel_rfl
theorem zs87:(Tryz.prog.info? 87).map (fun i=>(i.zero,i.size))=some (some (.agg #[.string .empty,.string .empty,.int .i64 0,.int .i64 0,.int .i64 0,.string .empty,.string .empty,.string .empty,.int .i64 0,.slice none 0 0]),10):=by kernel_rfl
theorem zsb87:(Tryz.prog.info? 87).map (fun i=>(i.zero,i.size,i.bytes))=some (some (.agg #[.string .empty,.string .empty,.int .i64 0,.int .i64 0,.int .i64 0,.string .empty,.string .empty,.string .empty,.int .i64 0,.slice none 0 0]),10,136):=by kernel_rfl
theorem sz32:szB Tryz.prog 32=some 1:=by kernel_rfl
theorem nk:bo Tryz.prog 87 2=some 2:=by kernel_rfl
theorem km:bo Tryz.prog 35 4=some 4:=by kernel_rfl
theorem me:bo Tryz.prog 35 6=some 13:=by kernel_rfl
theorem le:bo Tryz.prog 35 7=some 14:=by kernel_rfl
set_option maxHeartbeats 4000000 in
theorem queryK (f sb : Nat) (X : Nat → Value) (pb : Nat) (a : Addr) (k0 : Nat) (T ts : List Tok) (d : Nat) (w : World) (hA : At w pb a k0 T ts d) (hS : Sat ⟨default,0,[],w,[pb,sb]⟩ [pC pb a k0 T ts d,box sb 37 [X 0,X 1,X 2,X 3,X 4,X 5,X 6,X 7,X 8,X 9,X 10,X 11,X 12,X 13,X 14,X 15,.bool false,.bool false,.slice none 0 0,.slice none 0 0,.int .i64 0,.int .i64 0,.int .i64 0,.string .empty,.string .empty,.string .empty,.int .i64 0,.slice none 0 0,.slice none 0 0,.bool false,.int .i64 0]] w) (hna : a.block ∉ [pb,sb]) (hf : 8 * ts.length + 8 ≤ f) : Calls Tryz.prog 101 #[.pointer (some ⟨pb,0,none⟩),.pointer (some ⟨sb,16,none⟩)] w (dz w [pb,sb] (fun _ : QR => .tuple #[]) (fun j => [pC pb a k0 T j.us d,box sb 37 ([X 0,X 1,X 2,X 3,X 4,X 5,X 6,X 7,X 8,X 9,X 10,X 11,X 12,X 13,X 14,X 15] ++ qCs j.q j.vI j.vF j.vO j.ec),qryC j.bl j.q j.vI j.vF j.vO j.ec]) (fun j => cP f d ts = .ok (j.q,j.us) ∧ XC j.ec) (fun ch => ∃ x,cP f d ts = .error x ∧ ch = dl x)) := by
  refine az (args := [.pointer (some ⟨pb,0,none⟩),.pointer (some ⟨sb,16,none⟩)]) (lent := [pb,sb]) (H := [pC pb a k0 T ts d,box sb 37 [X 0,X 1,X 2,X 3,X 4,X 5,X 6,X 7,X 8,X 9,X 10,X 11,X 12,X 13,X 14,X 15,.bool false,.bool false,.slice none 0 0,.slice none 0 0,.int .i64 0,.int .i64 0,.int .i64 0,.string .empty,.string .empty,.string .empty,.int .i64 0,.slice none 0 0,.slice none 0 0,.bool false,.int .i64 0]]) Tryz.func101 rfl Tryz.ntmps101 rfl hS.cx ((show Tri _ [(0,_),(1,_)] _ _ _ from ?_))
  have hdp := hA.dep
  have hRL := hA.env.rdsL hna
  have hcd := mX hA.good
  refine ae (aa (cD _ rfl rfl rfl (fun b2 => cD _ rfl rfl rfl (fun b3 => triL_nilN (ae (MP.bj ([box b3 140 [.pointer (some ⟨sb,16,none⟩)],box b2 94 [.pointer (some ⟨pb,0,none⟩)]]) [(0,true),(1,true),(2,false),(3,false),(4,false),(5,false)] [3,4,5] (by kernel_rfl) (by kernel_rfl) (fun _ h => h.sel [0,1] (by decide)) (MP.ah rfl (ak eY N0 rfl rfl rfl (ab ⟨rfl,(MP.ah rfl (ak bn N1 rfl rfl rfl (ab ⟨rfl,(MP.aN rfl (aB (first := []) (cap := []) [pb] N2 rfl rfl rfl Tryz.call90 aw ar (fun w1 h1 h2 => dp br pb a k0 T ts d w1 (hA.subL h1.chg hna (Cuts.refl hA.good) hA.dep h2)) (fun ch hF => hF.elim) (fun u_ hu_ => ab (show _ ∧ _ from ⟨fun _ _ h => h.sel [0,1] (by decide),(MP.aN rfl (aE rfl rfl (ab (show _ ∧ _ from ⟨fun hh => absurd hh (by decide),(MP.aN rfl (aj nj rfl rfl (ab (show _ ∧ _ from ⟨fun hh => absurd hh (by decide),(MP.aN rfl (aC sz4 N3 rfl rfl rfl rfl rfl (Nat.le_of_ble_eq_true rfl) rfl (ab (show _ ∧ _ from ⟨fun hh => absurd hh (by decide),(MP.cI (ag (cz (ι := LS ItemX × List Tok) (fun i => [(2,.pointer (some ⟨b2,0,none⟩)),(3,.pointer (some ⟨b3,0,none⟩))]) (fun i => [pC pb a k0 T i.2 d,box sb 37 [X 0,X 1,X 2,X 3,X 4,X 5,X 6,X 7,X 8,X 9,X 10,X 11,X 12,X 13,X 14,X 15,.bool (atT 1 br ts),.bool (atT 4 [42] (cu ts)),.slice i.1.A i.1.l.length i.1.c,.slice none 0 0,.int .i64 0,.int .i64 0,.int .i64 0,.string .empty,.string .empty,.string .empty,.int .i64 0,.slice none 0 0,.slice none 0 0,.bool false,.int .i64 0],row (.slice i.1.A i.1.l.length i.1.c) 53 itemKd.z i.1.l.length i.1.xs,du itemKd i.1.bl i.1.l i.1.xs,box b3 140 [.pointer (some ⟨sb,16,none⟩)],box b2 94 [.pointer (some ⟨pb,0,none⟩)]]) (fun i => gc f d (cu ts) = .ok (i.1.l,i.2) ∧ Cuts ts i.2) ?_ (fun i hj => ?_))))⟩))))⟩))))⟩))))⟩))))⟩)))⟩)))))))))
  · skip
    refine ae (tri_slo [(3,_),(2,_)] rfl ?_)
    rw [show (if atT 1 br ts = true then ts.drop 1 else ts) = cu ts from rfl]
    refine aa (ak bn N1 rfl rfl rfl (aB (first := []) (cap := []) [pb] N2 rfl rfl rfl Tryz.call46 aw ar (fun w1 h1 h2 => nH [42] pb a k0 T (cu ts) d w1 (hA.subL h1.chg hna hcd hA.dep h2)) (fun ch hF => hF.elim) (fun u_ hu_ => triL_nilN (aG rfl (fun h0 => ?_) (fun h0 => ?_)))))
    · skip
      rw [if_pos h0]
      exact aa (ak eY N0 rfl rfl rfl (aE rfl rfl (aj mc rfl rfl (aC sz4 N3 rfl rfl rfl rfl rfl (Nat.le_of_ble_eq_true rfl) rfl (triL_nilN (⟨(⟨[],none,0,[],[]⟩,(cu ts).drop 1),(.cons rfl (.cons rfl (.nil _))),(fun w2 hw2 => by rw [h0]; exact (Sat.nilSeq itemKd (hw2.nilRow 53 9)).sel [4,5,1,0,2,3] (by decide)),⟨by rw [gc,if_pos h0],aH hcd (by decide) h0⟩⟩))))))
    · skip
      rw [if_neg (cB h0)]
      exact aa (ak bn N1 rfl rfl rfl (ak bn N1 rfl rfl rfl (bD rfl rfl rfl (bD rfl rfl rfl (TriX.heap (H' := [pC pb a k0 T (cu ts) d,box sb 37 [X 0,X 1,X 2,X 3,X 4,X 5,X 6,X 7,X 8,X 9,X 10,X 11,X 12,X 13,X 14,X 15,.bool (atT 1 br ts),.bool false,.slice none 0 0,.slice none 0 0,.int .i64 0,.int .i64 0,.int .i64 0,.string .empty,.string .empty,.string .empty,.int .i64 0,.slice none 0 0,.slice none 0 0,.bool false,.int .i64 0],row (.slice none 0 0) 53 9 0 [],du itemKd [] [] [],box b3 140 [.pointer (some ⟨sb,16,none⟩)],box b2 94 [.pointer (some ⟨pb,0,none⟩)]]) (fun w hw => (Sat.nilSeq itemKd (hw.nilRow 53 9)).sel [4,5,1,0,2,3] (by decide)) (df (first := []) (cap := []) [] (pC pb a k0 T (cu ts) d :: (lsD itemKd sb 53 (fun s => [X 0,X 1,X 2,X 3,X 4,X 5,X 6,X 7,X 8,X 9,X 10,X 11,X 12,X 13,X 14,X 15,.bool (atT 1 br ts),.bool false,.slice s.A s.l.length s.c,.slice none 0 0,.int .i64 0,.int .i64 0,.int .i64 0,.string .empty,.string .empty,.string .empty,.int .i64 0,.slice none 0 0,.slice none 0 0,.bool false,.int .i64 0])) (⟨[],none,0,[],[]⟩ : LS ItemX)) [box b3 140 [.pointer (some ⟨sb,16,none⟩)],box b2 94 [.pointer (some ⟨pb,0,none⟩)]] (pb :: lsL sb (⟨[],none,0,[],[]⟩ : LS ItemX)) rfl rfl rfl rfl Tryz.call96 (ge (kN itemKd sb 53 (fun s => [X 0,X 1,X 2,X 3,X 4,X 5,X 6,X 7,X 8,X 9,X 10,X 11,X 12,X 13,X 14,X 15,.bool (atT 1 br ts),.bool false,.slice s.A s.l.length s.c,.slice none 0 0,.int .i64 0,.int .i64 0,.int .i64 0,.string .empty,.string .empty,.string .empty,.int .i64 0,.slice none 0 0,.slice none 0 0,.bool false,.int .i64 0]) (⟨[],none,0,[],[]⟩ : LS ItemX)).1) (gf (kN itemKd sb 53 (fun s => [X 0,X 1,X 2,X 3,X 4,X 5,X 6,X 7,X 8,X 9,X 10,X 11,X 12,X 13,X 14,X 15,.bool (atT 1 br ts),.bool false,.slice s.A s.l.length s.c,.slice none 0 0,.int .i64 0,.int .i64 0,.int .i64 0,.string .empty,.string .empty,.string .empty,.int .i64 0,.slice none 0 0,.slice none 0 0,.bool false,.int .i64 0]) (⟨[],none,0,[],[]⟩ : LS ItemX)).2) (fun w1 h1 h2 => have hna' : a.block ∉ pb :: lsL sb (⟨[],none,0,[],[]⟩ : LS ItemX) := (by simpa [lsL] using hna); have nb_b2 : b2 ∉ pb :: lsL sb (⟨[],none,0,[],[]⟩ : LS ItemX) := (by intro hm; rcases List.mem_cons.1 hm with hm | hm; exact h1.neB (.s (.s (.s (.s (.s .z))))) .z (by decide) rfl hm; have hm : b2 = sb := (by simpa [lsL] using hm); exact h1.neB (.s (.s (.s (.s (.s .z))))) (.s .z) (by decide) rfl hm); have nb_b3 : b3 ∉ pb :: lsL sb (⟨[],none,0,[],[]⟩ : LS ItemX) := (by intro hm; rcases List.mem_cons.1 hm with hm | hm; exact h1.neB (.s (.s (.s (.s .z)))) .z (by decide) rfl hm; have hm : b3 = sb := (by simpa [lsL] using hm); exact h1.neB (.s (.s (.s (.s .z)))) (.s .z) (by decide) rfl hm); ew LS.l (lsD itemKd sb 53 (fun s => [X 0,X 1,X 2,X 3,X 4,X 5,X 6,X 7,X 8,X 9,X 10,X 11,X 12,X 13,X 14,X 15,.bool (atT 1 br ts),.bool false,.slice s.A s.l.length s.c,.slice none 0 0,.int .i64 0,.int .i64 0,.int .i64 0,.string .empty,.string .empty,.string .empty,.int .i64 0,.slice none 0 0,.slice none 0 0,.bool false,.int .i64 0])) (lsL sb) (fun s n => s.l.length = n) gU (gC f d) 137 142 [.pointer (some ⟨b2,0,none⟩),.pointer (some ⟨b3,0,none⟩)] (⟨[],none,0,[],[]⟩ : LS ItemX) pb a k0 T (cu ts) d w1 (hA.subL h1.chg hna hcd hA.dep h2.sel1) h2 hna' rfl (fun s => kN itemKd sb 53 (fun s => [X 0,X 1,X 2,X 3,X 4,X 5,X 6,X 7,X 8,X 9,X 10,X 11,X 12,X 13,X 14,X 15,.bool (atT 1 br ts),.bool false,.slice s.A s.l.length s.c,.slice none 0 0,.int .i64 0,.int .i64 0,.int .i64 0,.string .empty,.string .empty,.string .empty,.int .i64 0,.slice none 0 0,.slice none 0 0,.bool false,.int .i64 0]) s) Tryz.call137 Tryz.call142 (fun us w h => r6 pb a k0 T us d w h) (fun s n us w' hcu hI hn hat hch hs hkp => item1K f b2 b3 sb (ofL [X 0,X 1,X 2,X 3,X 4,X 5,X 6,X 7,X 8,X 9,X 10,X 11,X 12,X 13,X 14,X 15,.bool (atT 1 br ts),.bool false,.slice none 0 0,.slice none 0 0,.int .i64 0,.int .i64 0,.int .i64 0,.string .empty,.string .empty,.string .empty,.int .i64 0,.slice none 0 0,.slice none 0 0,.bool false,.int .i64 0]) s n pb a k0 T us d w' hat hs (hkp a.block (Nat.lt_of_lt_of_le hA.lt h1.chg.size) hna') ((RdS.box (.s (.s (.s (.s (.s .z))))) w1 h1).chg hch (by intro a' ha; cases ha; exact nb_b2)) (hkp b2 (h1.lt (Nth.mem (.s (.s (.s (.s (.s .z)))))) rfl) nb_b2) ((RdS.box (.s (.s (.s (.s .z)))) w1 h1).chg hch (by intro a' ha; cases ha; exact nb_b3)) (hkp b3 (h1.lt (Nth.mem (.s (.s (.s (.s .z))))) rfl) nb_b3) hI hn (by have := hcu.1.length_le; have := hcd.1.length_le; omega)) (fun _ _ _ _ hg h => lr hg h)) (fun ch ⟨x,hx1,hx2⟩ => aA ⟨x,qe1 (by rw [gc,if_neg (by rw [h0]; decide)]; exact hx1),hx2⟩) (fun j hj => triL_nilN (⟨j,(.cons rfl (.cons rfl (.nil _))),(fun w2 hw2 => by rw [h0]; exact hw2),⟨by rw [gc,if_neg (by rw [h0]; decide)]; exact hj,hcd.trans (dG (fun _ _ _ _ hg h => lr hg h) _ _ _ _ _ _ hcd.2 hj)⟩⟩))))))))
  obtain ⟨hi1,hi2⟩ := hj
  refine cz (ι := LS SrcX × List Tok) (fun q => [(2,.pointer (some ⟨b2,0,none⟩)),(3,.pointer (some ⟨b3,0,none⟩))]) (fun q => [pC pb a k0 T q.2 d,box sb 37 [X 0,X 1,X 2,X 3,X 4,X 5,X 6,X 7,X 8,X 9,X 10,X 11,X 12,X 13,X 14,X 15,.bool (atT 1 br ts),.bool (atT 4 [42] (cu ts)),.slice i.1.A i.1.l.length i.1.c,.slice q.1.A q.1.l.length q.1.c,.int .i64 0,.int .i64 0,.int .i64 0,.string .empty,.string .empty,.string .empty,.int .i64 0,.slice none 0 0,.slice none 0 0,.bool false,.int .i64 0],row (.slice q.1.A q.1.l.length q.1.c) 87 srcKd.z q.1.l.length q.1.xs,du srcKd q.1.bl q.1.l q.1.xs,row (.slice i.1.A i.1.l.length i.1.c) 53 itemKd.z i.1.l.length i.1.xs,du itemKd i.1.bl i.1.l i.1.xs,box b3 140 [.pointer (some ⟨sb,16,none⟩)],box b2 94 [.pointer (some ⟨pb,0,none⟩)]]) (fun q => eB f d i.2 = .ok (q.1.l,q.2) ∧ Cuts ts q.2) ?_ (fun q hj => ?_)
  · skip
    refine ae (aa (ak bn N5 rfl rfl rfl (aB (first := []) (cap := []) [pb] N0 rfl rfl rfl Tryz.call90 aw ar (fun w1 h1 h2 => dp eV pb a k0 T i.2 d w1 (hA.subL h1.chg hna hi2 hA.dep h2)) (fun ch hF => hF.elim) (fun u_ hu_ => triL_nilN (aG rfl (fun h1q => ?_) (fun h1q => ?_))))))
    · skip
      rw [if_pos h1q]
      have hc1 := aH hi2 (by decide) h1q
      refine ae (Tri.heap (H' := [row (.slice none 0 0) 87 10 0 [],pC pb a k0 T (i.2.drop 1) d,box sb 37 [X 0,X 1,X 2,X 3,X 4,X 5,X 6,X 7,X 8,X 9,X 10,X 11,X 12,X 13,X 14,X 15,.bool (atT 1 br ts),.bool (atT 4 [42] (cu ts)),.slice i.1.A i.1.l.length i.1.c,.slice none 0 0,.int .i64 0,.int .i64 0,.int .i64 0,.string .empty,.string .empty,.string .empty,.int .i64 0,.slice none 0 0,.slice none 0 0,.bool false,.int .i64 0],row (.slice i.1.A i.1.l.length i.1.c) 53 itemKd.z i.1.l.length i.1.xs,du itemKd i.1.bl i.1.l i.1.xs,box b3 140 [.pointer (some ⟨sb,16,none⟩)],box b2 94 [.pointer (some ⟨pb,0,none⟩)]]) (fun w hw => hw.nilRow 87 10) (MP.bj ([box b3 140 [.pointer (some ⟨sb,16,none⟩)],box b2 94 [.pointer (some ⟨pb,0,none⟩)],box sb 37 [X 0,X 1,X 2,X 3,X 4,X 5,X 6,X 7,X 8,X 9,X 10,X 11,X 12,X 13,X 14,X 15,.bool (atT 1 br ts),.bool (atT 4 [42] (cu ts)),.slice i.1.A i.1.l.length i.1.c,.slice none 0 0,.int .i64 0,.int .i64 0,.int .i64 0,.string .empty,.string .empty,.string .empty,.int .i64 0,.slice none 0 0,.slice none 0 0,.bool false,.int .i64 0]]) [(0,true),(1,true),(2,true),(3,true),(4,true),(5,true),(6,false),(7,false),(8,false),(9,false),(10,false),(11,false)] [9,10,11] (by kernel_rfl) (by kernel_rfl) (fun _ h => h.sel [5,6,2] (by decide)) (MP.ah rfl (ak eY N0 rfl rfl rfl (ab ⟨rfl,(MP.ah rfl (ak eY N0 rfl rfl rfl (ab ⟨rfl,(MP.ah rfl (aE rfl rfl (ab ⟨rfl,(MP.ah rfl (aj cZ rfl rfl (ab ⟨rfl,(MP.ah rfl (ak eI N2 rfl rfl rfl (ab ⟨rfl,(MP.ah rfl (ak bn N1 rfl rfl rfl (ab ⟨rfl,(MP.aN rfl (aB (first := []) (cap := []) [pb] N1 rfl rfl rfl Tryz.call143 aw ar (fun w1 h1 h2 => wQ pb a k0 T (i.2.drop 1) d w1 (hA.subL h1.chg hna hc1 hA.dep h2)) (fun ch ⟨x,hx1,hx2⟩ => aA ⟨x,qe2 hi1 (from_bad h1q hx1),hx2⟩) (fun j hj2 => ab (show _ ∧ _ from ⟨fun _ _ h => h.sel [5,6,2] (by decide),(MP.aN rfl (bk Tryz.underlying32 zs87 rfl rfl rfl rfl rfl (by decide) (by decide) (fun b29 => ab (show _ ∧ _ from ⟨fun _ _ h => h.sel [6,7,3] (by decide),(MP.aN rfl (cH Tryz.underlying32 zsb87 rfl (by decide) N1 rfl rfl rfl (RdS.row .z) rfl (cj rfl) (by unfold maxLen; omega) (by omega) (fun A30 c30 => ab (show _ ∧ _ from ⟨fun _ _ h => h.sel [6,7,3] (by decide),(MP.aN rfl (aE rfl rfl (ab (show _ ∧ _ from ⟨fun hh => absurd hh (by decide),(MP.aN rfl (aj cZ rfl rfl (ab (show _ ∧ _ from ⟨fun hh => absurd hh (by decide),(MP.aN rfl (aC sz32 N3 rfl rfl rfl rfl rfl (Nat.le_of_ble_eq_true rfl) rfl (ab (show _ ∧ _ from ⟨fun hh => absurd hh (by decide),(MP.cI ?_)⟩))))⟩))))⟩))))⟩))))⟩))))⟩))))⟩)))⟩)))⟩)))⟩)))⟩)))⟩))))); refine ag (ay (bI (ι := LS SrcX × List Tok) (F := fun r => [(2,.pointer (some ⟨b2,0,none⟩)),(3,.pointer (some ⟨b3,0,none⟩))]) (HH := fun r => [pC pb a k0 T r.2 d,box sb 37 [X 0,X 1,X 2,X 3,X 4,X 5,X 6,X 7,X 8,X 9,X 10,X 11,X 12,X 13,X 14,X 15,.bool (atT 1 br ts),.bool (atT 4 [42] (cu ts)),.slice i.1.A i.1.l.length i.1.c,.slice r.1.A r.1.l.length r.1.c,.int .i64 0,.int .i64 0,.int .i64 0,.string .empty,.string .empty,.string .empty,.int .i64 0,.slice none 0 0,.slice none 0 0,.bool false,.int .i64 0],row (.slice r.1.A r.1.l.length r.1.c) 87 srcKd.z r.1.l.length r.1.xs,du srcKd r.1.bl r.1.l r.1.xs,row (.slice i.1.A i.1.l.length i.1.c) 53 itemKd.z i.1.l.length i.1.xs,du itemKd i.1.bl i.1.l i.1.xs,box b3 140 [.pointer (some ⟨sb,16,none⟩)],box b2 94 [.pointer (some ⟨pb,0,none⟩)]]) (Pu := fun r => 1 ≤ r.1.l.length ∧ r.1.l.length ≤ 4 ∧ eB f d i.2 = dQ f d (6 - r.1.l.length) r.1.l r.2 ∧ Cuts ts r.2) (μ := fun r => 5 - r.1.l.length) ((⟨[⟨j.1.1,j.1.2,Ex.zero⟩],A30,c30,([.string (B j.1.1),.string (B j.1.2),.int .i64 0,.int .i64 0,.int .i64 0,.string .empty,.string .empty,.string .empty,.int .i64 0,.slice none 0 0] : List Value),[]⟩,j.2)) (.cons rfl (.cons rfl (.nil _))) (fun w2 hw2 => (Sat.moreSeq srcKd (bl := []) (l := []) (xs := []) (a := ⟨j.1.1,j.1.2,Ex.zero⟩) (Sat.nilSeq srcKd (hw2.leaf 0 Val.zero [] [] 0)) (fun w h => srcRel h)).sel [3,4,2,0,5,6,7,8] (by decide)) (⟨Nat.le_refl _,by simp,from_ok h1q hj2,hc1.trans (jH hc1.2 hj2)⟩) (fun r hr => ?_)))
      obtain ⟨m,hm⟩ : ∃ m,6 - r.1.l.length = m + 1 := ⟨5 - r.1.l.length,by have := hr.2.1; omega⟩
      have hr3 := hr.2.2.1
      rw [hm] at hr3
      have hr1 := hr.1
      have hr4 := hr.2.1
      refine ae (ae (aa (ak bn N7 rfl rfl rfl (aB (first := []) (cap := []) [pb] N0 rfl rfl rfl Tryz.call90 aw ar (fun w1 h1 h2 => dp kL pb a k0 T r.2 d w1 (hA.subL h1.chg hna hr.2.2.2 hA.dep h2)) (fun ch hF => hF.elim) (fun u_ hu_ => triL_nilN (aG rfl (fun h2q => ?_) (fun h2q => ?_)))))))
      · skip
        rw [if_pos h2q]
        have hc2 := aH hr.2.2.2 (by decide) h2q
        refine ao (ag (ay (ae (ae (aa (ak bn N7 rfl rfl rfl (aB (first := []) (cap := []) [pb] N0 rfl rfl rfl Tryz.call97 aw ar (fun w1 h1 h2 => mb pb a k0 T (r.2.drop 1) d w1 (hA.subL h1.chg hna hc2 hA.dep h2)) (fun ch hF => hF.elim) (fun u_ hu_ => ai rfl rfl ?_))))))))
        refine' aJ [_,_,_,_,_,_] [(2,_),(3,_)] (dj := 37) (dr := 43) rfl rfl (fun g1 => ?_) ⟨_,rfl,rfl,rfl,(.cons rfl (.cons rfl (.nil _)))⟩ rfl ?_
        rotate_left
        · skip
          exact ak eY N6 rfl rfl rfl (aE rfl rfl (aj cZ rfl rfl (ak eI N1 rfl rfl rfl (aX Tryz.underlying32 rfl rfl (aD rfl rfl rfl (ab (Piece.mk rfl rfl (.cons rfl (.cons rfl (.nil _))) (fun _ h => h))))))))
        refine triL_nilN (aG rfl (fun h3q => ?_) (fun h3q => ?_))
        · skip
          have h3q : nmT (r.2.drop 1) = true ∧ r.1.l.length = 4 := by rw [Bool.and_eq_true,decide_eq_true_eq] at h3q; exact ⟨h3q.1,by have := h3q.2; omega⟩
          refine aa (ak bn N7 rfl rfl rfl (aB (first := []) (cap := []) [pb] N0 rfl rfl rfl Tryz.call47 aw ar (fun w1 h1 h2 => kw 3 pb a k0 T (r.2.drop 1) d w1 (hA.subL h1.chg hna hc2 hA.dep h2)) (fun ch hF => aA ⟨_,qe2 hi1 (hr3.trans (lu h2q (join_e1 h3q))),hF⟩) (fun j hj => hj.elim)))
        · skip
          have h3q : ¬ (nmT (r.2.drop 1) = true ∧ r.1.l.length = 4) := fun e => Bool.eq_false_iff.1 h3q (by rw [Bool.and_eq_true,decide_eq_true_eq]; exact ⟨e.1,by have := e.2; omega⟩)
          have hlt4 : nmT (r.2.drop 1) = true → r.1.l.length < 4 := fun e => Nat.lt_of_le_of_ne hr4 (fun e2 => h3q ⟨e,e2⟩)
          refine ao (ag (ae (aa (ak bn N7 rfl rfl rfl (aB (first := []) (cap := []) [pb] N0 rfl rfl rfl Tryz.call143 aw ar (fun w1 h1 h2 => wQ pb a k0 T (r.2.drop 1) d w1 (hA.subL h1.chg hna hc2 hA.dep h2)) (fun ch ⟨x,hx1,hx2⟩ => aA ⟨x,qe2 hi1 (hr3.trans (lu h2q (join_e2 h3q hx1))),hx2⟩) (fun j2 hj3 => aQ _ rfl pA rfl (fun b4 => aC gH N0 rfl rfl rfl rfl rfl (Nat.le_of_ble_eq_true rfl) rfl (triL_nilN (ae ?_)))))))))
          have hc3 := hc2.trans (jH hc2.2 hj3)
          have hlt5 := hlt4 (src_nm hj3)
          refine aa (ak bn N8 rfl rfl rfl (bk Tryz.underlying23 zs9 rfl rfl rfl rfl rfl (by decide) (by decide) (fun b50 => aB (first := []) (cap := []) [pb] N2 rfl rfl rfl Tryz.call93 aw ar (fun w1 h1 h2 => ii onB (some ⟨b50,0,none⟩) 1 pb a k0 T j2.2 d w1 (hA.subL h1.chg hna hc3 hA.dep h2) (RdS.row .z w1 h1) (by intro a' ha; cases ha; exact h1.neB .z (.s (.s .z)) (by decide) rfl)) (fun ch ⟨hb1,hb2⟩ => aA ⟨_,qe2 hi1 (hr3.trans (lu h2q (join_e3 h3q hj3 hb1))),hb2⟩) (fun u_ hok => triL_nilN (ae (tri_slo [(4,_),(2,_),(3,_)] rfl ?_))))))
          have hc4 := aH hc3 (by decide) hok
          refine aa (ak bn N9 rfl rfl rfl (aB (first := []) (cap := []) [pb] N2 rfl rfl rfl Tryz.call100 aw ar (fun w1 h1 h2 => (mG f).l1 pb a k0 T (j2.2.drop 1) d w1 (hA.subL h1.chg hna hc4 hA.dep h2) (by have := hc4.1.length_le; omega)) (fun ch ⟨x,hx1,hx2⟩ => aA ⟨x,qe2 hi1 (hr3.trans (lu h2q (join_e4 h3q hj3 hok hx1))),hx2⟩) (fun j hj => TriX.know (fun w2 hw2 => iD (hw2.holds _ (Nth.mem (i := 0) .z))) (fun ⟨z1,z2,z3,z7,z4,z5,z6,z8,z9,z0,hcs_z⟩ => ?_))))
          rw [hcs_z]
          refine aj nk rfl rfl (aC aY N2 rfl rfl rfl rfl rfl (Nat.le_of_ble_eq_true rfl) rfl (triL_nilN ?_))
          have hc5 := hc4.trans (cE f 1 d _ hc4.2 j.e j.us hj.1).1
          refine MP.bj ([box b3 140 [.pointer (some ⟨sb,16,none⟩)],box b2 94 [.pointer (some ⟨pb,0,none⟩)],box b4 87 [.string (B j2.1.1),.string (B j2.1.2),.int .i64 z1,.int .i64 z2,.int .i64 z3,.string z4,.string z5,.string z6,.int .i64 z7,.slice z8 z9 z0],box sb 37 [X 0,X 1,X 2,X 3,X 4,X 5,X 6,X 7,X 8,X 9,X 10,X 11,X 12,X 13,X 14,X 15,.bool (atT 1 br ts),.bool (atT 4 [42] (cu ts)),.slice i.1.A i.1.l.length i.1.c,.slice r.1.A r.1.l.length r.1.c,.int .i64 0,.int .i64 0,.int .i64 0,.string .empty,.string .empty,.string .empty,.int .i64 0,.slice none 0 0,.slice none 0 0,.bool false,.int .i64 0]]) [(0,true),(1,true),(2,true),(3,true),(4,true),(5,true),(6,false),(7,false),(8,false),(9,false),(10,false)] [8,9,10] (by kernel_rfl) (by kernel_rfl) (fun _ h => h.sel [9,10,2,4] (by decide)) (MP.ah rfl (ak eY N0 rfl rfl rfl (ab ⟨rfl,(MP.ah rfl (ak eY N0 rfl rfl rfl (ab ⟨rfl,(MP.ah rfl (aE rfl rfl (ab ⟨rfl,(MP.ah rfl (aj cZ rfl rfl (ab ⟨rfl,(MP.ah rfl (ak eI N3 rfl rfl rfl (ab ⟨rfl,(MP.ah rfl (aS pB gH N2 rfl rfl rfl rfl (ab ⟨rfl,(MP.aN rfl (bk Tryz.underlying32 zs87 rfl rfl rfl rfl rfl (by decide) (by decide) (fun b61 => ab (show _ ∧ _ from ⟨fun _ _ h => h.sel [10,11,3,5] (by decide),(MP.aN rfl (cH Tryz.underlying32 zsb87 rfl (by decide) N6 rfl rfl rfl (RdS.row .z) rfl (cj rfl) (by unfold maxLen; omega) (by omega) (fun A62 c62 => ab (show _ ∧ _ from ⟨fun _ _ h => h.sel [10,11,3,5] (by decide),(MP.aN rfl (aE rfl rfl (ab (show _ ∧ _ from ⟨fun hh => absurd hh (by decide),(MP.aN rfl (aj cZ rfl rfl (ab (show _ ∧ _ from ⟨fun hh => absurd hh (by decide),(MP.aN rfl (aC sz32 N5 rfl rfl rfl rfl rfl (Nat.le_of_ble_eq_true rfl) rfl (ab (show _ ∧ _ from ⟨fun hh => absurd hh (by decide),(MP.cI (am (ag ?_)))⟩))))⟩))))⟩))))⟩))))⟩))))⟩)))⟩)))⟩)))⟩)))⟩)))⟩)))
          exact ⟨(⟨r.1.l ++ [⟨j2.1.1,j2.1.2,j.e⟩],A62,c62,r.1.xs ++ ([.string (B j2.1.1),.string (B j2.1.2),.int .i64 z1,.int .i64 z2,.int .i64 z3,.string z4,.string z5,.string z6,.int .i64 z7,.slice z8 z9 z0] : List Value),r.1.bl ++ j.bl⟩,j.us),(.cons rfl (.cons rfl (.nil _))),(fun w2 hw2 => by
  have e1 := Sat.moreSeq srcKd (a := ⟨j2.1.1,j2.1.2,j.e⟩) (hw2.sel [7,1,4,5,6,8,9,10,11] (by decide)) (fun w h => srcRel h)
  simp only [List.length_append,List.length_singleton]
  exact e1.sel [1,2,3,0,4,5,6,7] (by decide)),⟨by simp,by simp only [List.length_append,List.length_singleton]; omega,by simp only [List.length_append,List.length_singleton]; rw [hr3,joins_ok h2q (join_ok h3q hj3 hok hj.1),show 6 - (r.1.l.length + 1) = m by omega],hc5⟩,(by simp only [List.length_append,List.length_singleton]; omega)⟩
      · skip
        rw [if_neg (cB h2q)]
        exact bu (ax (ax (aP (ag (⟨r,(.cons rfl (.cons rfl (.nil _))),fun _ h => h,⟨hr3.trans (joins_no h2q),hr.2.2.2⟩⟩)))))
    · skip
      rw [if_neg (cB h1q)]
      exact ao (ag (⟨(⟨[],none,0,[],[]⟩,i.2),(.cons rfl (.cons rfl (.nil _))),(fun w2 hw2 => (Sat.nilSeq srcKd (hw2.nilRow 87 10)).sel [2,3,1,0,4,5,6,7] (by decide)),⟨from_no h1q,hi2⟩⟩))
  obtain ⟨hq1,hq2⟩ := hj
  refine ae (MP.bj ([box b3 140 [.pointer (some ⟨sb,16,none⟩)],box b2 94 [.pointer (some ⟨pb,0,none⟩)]]) [(0,true),(1,true),(2,false),(3,false),(4,false),(5,false)] [3,4,5] (by kernel_rfl) (by kernel_rfl) (fun _ h => h.sel [6,7] (by decide)) (MP.ah rfl (ak eY N0 rfl rfl rfl (ab ⟨rfl,(MP.ah rfl (ak bn N1 rfl rfl rfl (ab ⟨rfl,(MP.aN rfl (aB (first := []) (cap := []) [pb] N0 rfl rfl rfl Tryz.call95 aw ar (fun w1 h1 h2 => vk f pb a k0 T q.2 d w1 (hA.subL h1.chg hna hq2 hA.dep h2) (by have := hq2.1.length_le; omega)) (fun ch ⟨x,hx1,hx2⟩ => aA ⟨x,qe3 hi1 hq1 hx1,hx2⟩) (fun e he => TriX.know (fun w2 hw2 => iD (hw2.holds _ (Nth.mem (i := 0) .z))) (fun ⟨y1,y2,y3,y7,y4,y5,y6,y8,y9,y0,hcs_y⟩ => ?_))))⟩)))⟩))))
  rw [hcs_y]
  refine ab (show _ ∧ _ from ⟨fun _ _ h => h.sel [7,8] (by decide),(MP.aN rfl (aE rfl rfl (ab (show _ ∧ _ from ⟨fun hh => absurd hh (by decide),(MP.aN rfl (aj km rfl rfl (ab (show _ ∧ _ from ⟨fun hh => absurd hh (by decide),(MP.aN rfl (aC aY N2 rfl rfl rfl rfl rfl (Nat.le_of_ble_eq_true rfl) rfl (ab (show _ ∧ _ from ⟨fun hh => absurd hh (by decide),(MP.cI (ag (cz (ι := LS OrdX × List Tok) (fun o => [(2,.pointer (some ⟨b2,0,none⟩)),(3,.pointer (some ⟨b3,0,none⟩))]) (fun o => [pC pb a k0 T o.2 d,box sb 37 [X 0,X 1,X 2,X 3,X 4,X 5,X 6,X 7,X 8,X 9,X 10,X 11,X 12,X 13,X 14,X 15,.bool (atT 1 br ts),.bool (atT 4 [42] (cu ts)),.slice i.1.A i.1.l.length i.1.c,.slice q.1.A q.1.l.length q.1.c,.int .i64 y1,.int .i64 y2,.int .i64 y3,.string y4,.string y5,.string y6,.int .i64 y7,.slice y8 y9 y0,.slice o.1.A o.1.l.length o.1.c,.bool false,.int .i64 0],row (.slice o.1.A o.1.l.length o.1.c) 121 ordKd.z o.1.l.length o.1.xs,du ordKd o.1.bl o.1.l o.1.xs,gB e.bl e.e [.int .i64 y1,.int .i64 y2,.int .i64 y3,.string y4,.string y5,.string y6,.int .i64 y7,.slice y8 y9 y0],row (.slice q.1.A q.1.l.length q.1.c) 87 srcKd.z q.1.l.length q.1.xs,du srcKd q.1.bl q.1.l q.1.xs,row (.slice i.1.A i.1.l.length i.1.c) 53 itemKd.z i.1.l.length i.1.xs,du itemKd i.1.bl i.1.l i.1.xs,box b3 140 [.pointer (some ⟨sb,16,none⟩)],box b2 94 [.pointer (some ⟨pb,0,none⟩)]]) (fun o => eC e.us = .ok (o.1.l,o.2) ∧ Cuts ts o.2) ?_ (fun o hj => ?_))))⟩))))⟩))))⟩))))⟩)
  · skip
    refine ae (tri_slo [(2,_),(3,_)] rfl ?_)
    have hce := hq2.trans (iN hq2.2 he.1)
    refine aa (ak bn N8 rfl rfl rfl (aB (first := []) (cap := []) [pb] N1 rfl rfl rfl Tryz.call90 aw ar (fun w1 h1 h2 => dp jp pb a k0 T e.us d w1 (hA.subL h1.chg hna hce hA.dep h2)) (fun ch hF => hF.elim) (fun u_ hu_ => triL_nilN (aG rfl (fun h4q => ?_) (fun h4q => ?_)))))
    · skip
      rw [if_pos h4q]
      have hc6 := aH hce (by decide) h4q
      refine ae (aa (ak bn N8 rfl rfl rfl (bk Tryz.underlying23 zs9 rfl rfl rfl rfl rfl (by decide) (by decide) (fun b73 => aB (first := []) (cap := []) [pb] N2 rfl rfl rfl Tryz.call93 aw ar (fun w1 h1 h2 => ii byB (some ⟨b73,0,none⟩) 1 pb a k0 T (e.us.drop 1) d w1 (hA.subL h1.chg hna hc6 hA.dep h2) (RdS.row .z w1 h1) (by intro a' ha; cases ha; exact h1.neB .z (.s (.s .z)) (by decide) rfl)) (fun ch ⟨hb1,hb2⟩ => aA ⟨_,qe4 hi1 hq1 he.1 (xB h4q hb1),hb2⟩) (fun u_ hok => triL_nilN (tri_slo [(2,_),(3,_)] rfl ?_))))))
      have hc7 := aH hc6 (by decide) hok
      exact aa (ak bn N9 rfl rfl rfl (ak bn N9 rfl rfl rfl (bD rfl rfl rfl (bD rfl rfl rfl (TriX.heap (H' := [pC pb a k0 T ((e.us.drop 1).drop 1) d,box sb 37 [X 0,X 1,X 2,X 3,X 4,X 5,X 6,X 7,X 8,X 9,X 10,X 11,X 12,X 13,X 14,X 15,.bool (atT 1 br ts),.bool (atT 4 [42] (cu ts)),.slice i.1.A i.1.l.length i.1.c,.slice q.1.A q.1.l.length q.1.c,.int .i64 y1,.int .i64 y2,.int .i64 y3,.string y4,.string y5,.string y6,.int .i64 y7,.slice y8 y9 y0,.slice none 0 0,.bool false,.int .i64 0],row (.slice none 0 0) 121 2 0 [],du ordKd [] [] [],gB e.bl e.e [.int .i64 y1,.int .i64 y2,.int .i64 y3,.string y4,.string y5,.string y6,.int .i64 y7,.slice y8 y9 y0],row (.slice q.1.A q.1.l.length q.1.c) 87 srcKd.z q.1.l.length q.1.xs,du srcKd q.1.bl q.1.l q.1.xs,row (.slice i.1.A i.1.l.length i.1.c) 53 itemKd.z i.1.l.length i.1.xs,du itemKd i.1.bl i.1.l i.1.xs,box b3 140 [.pointer (some ⟨sb,16,none⟩)],box b2 94 [.pointer (some ⟨pb,0,none⟩)]]) (fun w hw => (Sat.nilSeq ordKd (hw.nilRow 121 2)).sel [4,5,1,0,3,6,7,8,9,10,11] (by decide)) (df (first := []) (cap := []) [] (pC pb a k0 T ((e.us.drop 1).drop 1) d :: (lsD ordKd sb 121 (fun s => [X 0,X 1,X 2,X 3,X 4,X 5,X 6,X 7,X 8,X 9,X 10,X 11,X 12,X 13,X 14,X 15,.bool (atT 1 br ts),.bool (atT 4 [42] (cu ts)),.slice i.1.A i.1.l.length i.1.c,.slice q.1.A q.1.l.length q.1.c,.int .i64 y1,.int .i64 y2,.int .i64 y3,.string y4,.string y5,.string y6,.int .i64 y7,.slice y8 y9 y0,.slice s.A s.l.length s.c,.bool false,.int .i64 0])) (⟨[],none,0,[],[]⟩ : LS OrdX)) [gB e.bl e.e [.int .i64 y1,.int .i64 y2,.int .i64 y3,.string y4,.string y5,.string y6,.int .i64 y7,.slice y8 y9 y0],row (.slice q.1.A q.1.l.length q.1.c) 87 srcKd.z q.1.l.length q.1.xs,du srcKd q.1.bl q.1.l q.1.xs,row (.slice i.1.A i.1.l.length i.1.c) 53 itemKd.z i.1.l.length i.1.xs,du itemKd i.1.bl i.1.l i.1.xs,box b3 140 [.pointer (some ⟨sb,16,none⟩)],box b2 94 [.pointer (some ⟨pb,0,none⟩)]] (pb :: lsL sb (⟨[],none,0,[],[]⟩ : LS OrdX)) rfl rfl rfl rfl Tryz.call96 (ge (kN ordKd sb 121 (fun s => [X 0,X 1,X 2,X 3,X 4,X 5,X 6,X 7,X 8,X 9,X 10,X 11,X 12,X 13,X 14,X 15,.bool (atT 1 br ts),.bool (atT 4 [42] (cu ts)),.slice i.1.A i.1.l.length i.1.c,.slice q.1.A q.1.l.length q.1.c,.int .i64 y1,.int .i64 y2,.int .i64 y3,.string y4,.string y5,.string y6,.int .i64 y7,.slice y8 y9 y0,.slice s.A s.l.length s.c,.bool false,.int .i64 0]) (⟨[],none,0,[],[]⟩ : LS OrdX)).1) (gf (kN ordKd sb 121 (fun s => [X 0,X 1,X 2,X 3,X 4,X 5,X 6,X 7,X 8,X 9,X 10,X 11,X 12,X 13,X 14,X 15,.bool (atT 1 br ts),.bool (atT 4 [42] (cu ts)),.slice i.1.A i.1.l.length i.1.c,.slice q.1.A q.1.l.length q.1.c,.int .i64 y1,.int .i64 y2,.int .i64 y3,.string y4,.string y5,.string y6,.int .i64 y7,.slice y8 y9 y0,.slice s.A s.l.length s.c,.bool false,.int .i64 0]) (⟨[],none,0,[],[]⟩ : LS OrdX)).2) (fun w1 h1 h2 => have hna' : a.block ∉ pb :: lsL sb (⟨[],none,0,[],[]⟩ : LS OrdX) := (by simpa [lsL] using hna); have nb_b2 : b2 ∉ pb :: lsL sb (⟨[],none,0,[],[]⟩ : LS OrdX) := (by intro hm; rcases List.mem_cons.1 hm with hm | hm; exact h1.neB (.s (.s (.s (.s (.s (.s (.s (.s (.s (.s .z)))))))))) .z (by decide) rfl hm; have hm : b2 = sb := (by simpa [lsL] using hm); exact h1.neB (.s (.s (.s (.s (.s (.s (.s (.s (.s (.s .z)))))))))) (.s .z) (by decide) rfl hm); have nb_b3 : b3 ∉ pb :: lsL sb (⟨[],none,0,[],[]⟩ : LS OrdX) := (by intro hm; rcases List.mem_cons.1 hm with hm | hm; exact h1.neB (.s (.s (.s (.s (.s (.s (.s (.s (.s .z))))))))) .z (by decide) rfl hm; have hm : b3 = sb := (by simpa [lsL] using hm); exact h1.neB (.s (.s (.s (.s (.s (.s (.s (.s (.s .z))))))))) (.s .z) (by decide) rfl hm); ew LS.l (lsD ordKd sb 121 (fun s => [X 0,X 1,X 2,X 3,X 4,X 5,X 6,X 7,X 8,X 9,X 10,X 11,X 12,X 13,X 14,X 15,.bool (atT 1 br ts),.bool (atT 4 [42] (cu ts)),.slice i.1.A i.1.l.length i.1.c,.slice q.1.A q.1.l.length q.1.c,.int .i64 y1,.int .i64 y2,.int .i64 y3,.string y4,.string y5,.string y6,.int .i64 y7,.slice y8 y9 y0,.slice s.A s.l.length s.c,.bool false,.int .i64 0])) (lsL sb) (fun s n => s.l.length = n) nmT (lU) 97 144 [.pointer (some ⟨b2,0,none⟩),.pointer (some ⟨b3,0,none⟩)] (⟨[],none,0,[],[]⟩ : LS OrdX) pb a k0 T ((e.us.drop 1).drop 1) d w1 (hA.subL h1.chg hna hc7 hA.dep h2.sel1) h2 hna' rfl (fun s => kN ordKd sb 121 (fun s => [X 0,X 1,X 2,X 3,X 4,X 5,X 6,X 7,X 8,X 9,X 10,X 11,X 12,X 13,X 14,X 15,.bool (atT 1 br ts),.bool (atT 4 [42] (cu ts)),.slice i.1.A i.1.l.length i.1.c,.slice q.1.A q.1.l.length q.1.c,.int .i64 y1,.int .i64 y2,.int .i64 y3,.string y4,.string y5,.string y6,.int .i64 y7,.slice y8 y9 y0,.slice s.A s.l.length s.c,.bool false,.int .i64 0]) s) Tryz.call97 Tryz.call144 (fun us w h => mb pb a k0 T us d w h) (fun s n us w' hcu hI hn hat hch hs hkp => ord1K f b2 b3 sb (ofL [X 0,X 1,X 2,X 3,X 4,X 5,X 6,X 7,X 8,X 9,X 10,X 11,X 12,X 13,X 14,X 15,.bool (atT 1 br ts),.bool (atT 4 [42] (cu ts)),.slice i.1.A i.1.l.length i.1.c,.slice q.1.A q.1.l.length q.1.c,.int .i64 y1,.int .i64 y2,.int .i64 y3,.string y4,.string y5,.string y6,.int .i64 y7,.slice y8 y9 y0,.slice none 0 0,.bool false,.int .i64 0]) s n pb a k0 T us d w' hat hs (hkp a.block (Nat.lt_of_lt_of_le hA.lt h1.chg.size) hna') ((RdS.box (.s (.s (.s (.s (.s (.s (.s (.s (.s (.s .z)))))))))) w1 h1).chg hch (by intro a' ha; cases ha; exact nb_b2)) (hkp b2 (h1.lt (Nth.mem (.s (.s (.s (.s (.s (.s (.s (.s (.s (.s .z))))))))))) rfl) nb_b2) ((RdS.box (.s (.s (.s (.s (.s (.s (.s (.s (.s .z))))))))) w1 h1).chg hch (by intro a' ha; cases ha; exact nb_b3)) (hkp b3 (h1.lt (Nth.mem (.s (.s (.s (.s (.s (.s (.s (.s (.s .z)))))))))) rfl) nb_b3) hI hn (by have := hcu.1.length_le; have := hc7.1.length_le; omega)) (fun _ _ _ _ hg h => mv hg h)) (fun ch ⟨x,hx1,hx2⟩ => aA ⟨x,qe4 hi1 hq1 he.1 ((oN h4q hok).trans hx1),hx2⟩) (fun j hj => triL_nilN (⟨j,(.cons rfl (.cons rfl (.nil _))),fun _ h => h,⟨(oN h4q hok).trans hj,hc7.trans (dG (fun _ _ _ _ hg h => mv hg h) _ _ _ _ _ _ hc7.2 hj)⟩⟩))))))))
    · skip
      rw [if_neg (cB h4q)]
      exact ao (ag (⟨(⟨[],none,0,[],[]⟩,e.us),(.cons rfl (.cons rfl (.nil _))),(fun w2 hw2 => (Sat.nilSeq ordKd (hw2.nilRow 121 2)).sel [3,4,1,0,2,5,6,7,8,9,10] (by decide)),⟨sS h4q,hce⟩⟩))
  obtain ⟨ho1,ho2⟩ := hj
  refine ae (aa (ak bn N10 rfl rfl rfl (aB (first := []) (cap := []) [pb] N0 rfl rfl rfl Tryz.call90 aw ar (fun w1 h1 h2 => dp jq pb a k0 T o.2 d w1 (hA.subL h1.chg hna ho2 hA.dep h2)) (fun ch hF => hF.elim) (fun u_ hu_ => triL_nilN (aG rfl (fun h5q => ?_) (fun h5q => ?_))))))
  · skip
    rw [if_pos h5q]
    have hc8 := aH ho2 (by decide) h5q
    have hto := ep hA.env (hc8.1.trans hA.suf) hc8.2
    have hl8 := hc8.2.ne
    have hle8 := hc8.1.length_le
    have hle9 := hA.suf.length_le
    have hlk := hA.env.len
    refine ae (ae (aa (ak bn N10 rfl rfl rfl (aE rfl rfl (aj dE rfl rfl (ak hG N0 rfl rfl rfl (aU Tryz.underlying58 fj rfl rfl rfl (hRL _ (hc8.1.trans hA.suf) _ _ rfl rfl) (by omega) (by omega) (bY _) (by decide) (aV iU rfl rfl (hRL _ (hc8.1.trans hA.suf) _ _ rfl rfl) (hd_k hc8.2) (aL bR rfl rfl (hRL _ (hc8.1.trans hA.suf) _ _ rfl rfl) (hd_k hc8.2) (cX rfl rfl rfl (triL_nilN (av rfl (fun h6 => ?_) (fun h6 => ?_)))))))))))))
    · skip
      have h6 : ¬ (hd (o.2.drop 1)).k = 2 := h6
      refine tri_slo [(2,_),(3,_)] rfl (aa (ak bn N10 rfl rfl rfl (aB (first := []) (cap := []) [pb] N0 rfl rfl rfl Tryz.call47 aw ar (fun w1 h1 h2 => kw 190 pb a k0 T (o.2.drop 1) d w1 (hA.subL h1.chg hna hc8 hA.dep h2)) (fun ch hF => aA ⟨_,qe5 hi1 hq1 he.1 ho1 (xD h5q h6),hF⟩) (fun j hj => hj.elim))))
    · skip
      have h6 : (hd (o.2.drop 1)).k = 2 := Decidable.not_not.1 h6
      have hg8 := hc8.2.drop (by rw [h6]; decide)
      have hl9 := hg8.ne
      rw [List.length_drop] at hl9
      refine ao (ag (ae (tri_slo [(2,_),(3,_)] rfl (aa (ak eY N9 rfl rfl rfl (aE rfl rfl (aj me rfl rfl (aC sz4 N1 rfl rfl rfl rfl rfl (Nat.le_of_ble_eq_true rfl) rfl (triL_nilN (ae (MP.bj ([pC pb a k0 T (o.2.drop 1) d,box b3 140 [.pointer (some ⟨sb,16,none⟩)],box b2 94 [.pointer (some ⟨pb,0,none⟩)]]) [(0,true),(1,true),(2,true),(3,true),(4,true),(5,true),(6,true),(7,true),(8,true),(9,true),(10,true),(11,true),(12,true),(13,true),(14,false)] [] (by kernel_rfl) (by kernel_rfl) (fun _ h => h.sel [0,9,10] (by decide)) (MP.ah rfl (ak eY N1 rfl rfl rfl (ab ⟨rfl,(MP.ah rfl (ak bn N2 rfl rfl rfl (ab ⟨rfl,(MP.ah rfl (aE rfl rfl (ab ⟨rfl,(MP.ah rfl (aj dE rfl rfl (ab ⟨rfl,(MP.ah rfl (ak hG N0 rfl rfl rfl (ab ⟨rfl,(MP.ah rfl (aU Tryz.underlying58 fj rfl rfl rfl (hRL _ (hc8.1.trans hA.suf) _ _ rfl rfl) (by omega) (by omega) (bY _) (by decide) (ab ⟨rfl,(MP.ah rfl (aV gt rfl rfl (hRL _ (hc8.1.trans hA.suf) _ _ rfl rfl) (hd_k hc8.2) (ab ⟨rfl,(MP.ah rfl (aL bB rfl rfl (hRL _ (hc8.1.trans hA.suf) _ _ rfl rfl) (hd_t hc8.2) (ab ⟨rfl,(MP.ah rfl (aF (first := []) (cap := []) rfl rfl rfl Tryz.call145 (fun w1 h1 => tU hto h6 w1) (ab ⟨rfl,(MP.ah rfl ?_)⟩)))⟩)))⟩)))⟩)))⟩)))⟩)))⟩)))⟩)))⟩)))))))))))))); refine ai rfl rfl (ab ⟨rfl,(MP.ah rfl (aZ rfl rfl rfl (ab ⟨rfl,(MP.ah rfl (aZ rfl rfl rfl (ab ⟨rfl,(MP.ah rfl (aE rfl rfl (ab ⟨rfl,(MP.ah rfl (aj le rfl rfl (ab ⟨rfl,(MP.aN rfl (aC sz3 N1 rfl rfl rfl rfl rfl (Nat.le_of_ble_eq_true rfl) rfl (ab (show _ ∧ _ from ⟨fun _ _ h => h.sel [0,9,10] (by decide),(MP.cI (ag (tri_slo [(2,_)] rfl (MP.bj ([pC pb a k0 T (o.2.drop 1) d,box b3 140 [.pointer (some ⟨sb,16,none⟩)],box b2 94 [.pointer (some ⟨pb,0,none⟩)]]) [(0,true),(1,true),(2,true),(3,true),(4,true),(5,true),(6,true),(7,true),(8,false)] [8] (by kernel_rfl) (by kernel_rfl) (fun _ h => h.sel [0,9,10] (by decide)) (MP.ah rfl (ak bn N2 rfl rfl rfl (ab ⟨rfl,(MP.ah rfl (ak bn N2 rfl rfl rfl (ab ⟨rfl,(MP.ah rfl (aE rfl rfl (ab ⟨rfl,(MP.ah rfl (aj dE rfl rfl (ab ⟨rfl,(MP.ah rfl (ak hG N0 rfl rfl rfl (ab ⟨rfl,(MP.ah rfl (jz Tryz.underlying58 fj rfl rfl rfl (by omega) (by omega) (by omega) (ey (v' := pSl a k0 T ((o.2.drop 1).drop 1)) (oI a k0 (hc8.1.trans hA.suf) hA.env.len (by omega)) (ab ⟨rfl, ?_⟩))))⟩)))⟩)))⟩)))⟩)))⟩)))))))⟩))))⟩)))⟩)))⟩)))⟩)))⟩); exact MP.ah rfl (aE rfl rfl (ab ⟨rfl,(MP.ah rfl (aj dE rfl rfl (ab ⟨rfl,(MP.aN rfl (aC sz58 N0 rfl rfl rfl rfl rfl (Nat.le_of_ble_eq_true rfl) rfl (ab (show _ ∧ _ from ⟨fun hh => absurd hh (by decide),(MP.cI (bS rfl (aK (J := QR) ⟨⟨(atT 1 br ts),(atT 4 [42] (cu ts)),i.1.l,q.1.l,e.e,o.1.l,true,decZ (hd (o.2.drop 1)).t⟩,(o.2.drop 1).drop 1,_,.slice i.1.A i.1.l.length i.1.c,.slice q.1.A q.1.l.length q.1.c,.slice o.1.A o.1.l.length o.1.c,[.int .i64 y1,.int .i64 y2,.int .i64 y3,.string y4,.string y5,.string y6,.int .i64 y7,.slice y8 y9 y0]⟩ rfl ⟨qok hi1 hq1 he.1 ho1 (sU h5q h6),⟨rfl,rfl⟩⟩ (fun w2 hw2 => (Sat.qry (atT 1 br ts) (atT 4 [42] (cu ts)) true (decZ (hd (o.2.drop 1)).t) (hw2.sel [7,8,5,6,4,2,3,0,1] (by decide)) rfl rfl rfl).sel [1,2,0] (by decide)))))⟩))))⟩)))⟩))
  · skip
    rw [if_neg (cB h5q)]
    exact ao (bS rfl (aK (J := QR) ⟨⟨(atT 1 br ts),(atT 4 [42] (cu ts)),i.1.l,q.1.l,e.e,o.1.l,false,0⟩,o.2,_,.slice i.1.A i.1.l.length i.1.c,.slice q.1.A q.1.l.length q.1.c,.slice o.1.A o.1.l.length o.1.c,[.int .i64 y1,.int .i64 y2,.int .i64 y3,.string y4,.string y5,.string y6,.int .i64 y7,.slice y8 y9 y0]⟩ rfl ⟨qok hi1 hq1 he.1 ho1 (sT h5q),⟨rfl,rfl⟩⟩ (fun w2 hw2 => (Sat.qry (atT 1 br ts) (atT 4 [42] (cu ts)) false 0 (hw2.sel [7,8,5,6,4,2,3,0,1] (by decide)) rfl rfl rfl).sel [1,2,0] (by decide))))
end Go.Proofs.YtjbpkcbefmpfgaaGreatDoor
namespace Go.Proofs.YtjbpkcbefmpfgaaGreatDoor
open Go.WK Go.RowKit 
theorem fk:cF Tryz.prog 37=some true:=by kernel_rfl
theorem eU:szB Tryz.prog 37=some 31:=by kernel_rfl
theorem iV:(Tryz.prog.info? 37).map (·.zero)=some (some (.agg #[.int .i64 0,.string .empty,.string .empty,.slice none 0 0,.slice none 0 0,.bool false,.slice none 0 0,.slice none 0 0,.int .i64 0,.int .i64 0,.int .i64 0,.string .empty,.string .empty,.string .empty,.int .i64 0,.slice none 0 0,.bool false,.bool false,.slice none 0 0,.slice none 0 0,.int .i64 0,.int .i64 0,.int .i64 0,.string .empty,.string .empty,.string .empty,.int .i64 0,.slice none 0 0,.slice none 0 0,.bool false,.int .i64 0])):=by kernel_rfl
theorem eJ:bo Tryz.prog 37 0=some 0:=by kernel_rfl
theorem kn:bo Tryz.prog 37 9=some 16:=by kernel_rfl
end Go.Proofs.YtjbpkcbefmpfgaaGreatDoor
namespace Go.Proofs.YtjbpkcbefmpfgaaGreatDoor
open Go.WK Go.RowKit Go
theorem wR:Tryz.prog.built 37 []=some ([.int .i64 0,.string .empty,.string .empty,.slice none 0 0,.slice none 0 0,.bool false,.slice none 0 0,.slice none 0 0,.int .i64 0,.int .i64 0,.int .i64 0,.string .empty,.string .empty,.string .empty,.int .i64 0,.slice none 0 0,.bool false,.bool false,.slice none 0 0,.slice none 0 0,.int .i64 0,.int .i64 0,.int .i64 0,.string .empty,.string .empty,.string .empty,.int .i64 0,.slice none 0 0,.slice none 0 0,.bool false,.int .i64 0]:List Value).toArray:=by kernel_rfl
theorem assert92:∀ (v:Value) (w:World),(Instr.typeAssert (.iface 92 v) 20 92 true).run Tryz.prog w=.ok (.tuple #[v,.bool true]) w:=by intros; kernel_rfl
theorem zero92:(Tryz.prog.info? 92).map (·.zero)=some (some (.agg #[.int .i64 0,.int .i64 0])):=by kernel_rfl
theorem sz92:szB Tryz.prog 92=some 2:=by kernel_rfl
theorem fo92_0:bo Tryz.prog 92 0=some 0:=by kernel_rfl
theorem sz46:szB Tryz.prog 46=some 1:=by kernel_rfl
theorem agg46:cF Tryz.prog 46=some false:=by kernel_rfl
theorem zero46:(Tryz.prog.info? 46).map (·.zero)=some (some (.nilIface)):=by kernel_rfl
theorem yL (A0:Option Addr) (n0 c0:Nat):Tryz.prog.built 96 [(0,.slice A0 n0 c0)]=some ([.slice A0 n0 c0,.int .i64 0]:List Value).toArray:=by kernel_rfl
theorem vm (b2 b3:Nat) (w:World):CallsD Tryz.prog 44 #[.pointer (some ⟨b2,0,none⟩),.pointer (some ⟨b3,0,none⟩)] .returning w fun e u' w'=>e=.returned (.tuple #[])∧u'=.returning∧w'=w:=by
 have hn:∀ w:World,(binOp BinOp.neq 20 .nilIface .nilIface).run Tryz.prog w=.ok (.bool false) w:=fun _=>by kernel_rfl
 refine callsD_of_wpS Tryz.func44 rfl fun c₀ cs hu=>?_
 apply wpS_seq
 apply wpS_region
 simp [wpOpsS,go_sem,recoverD,hu,Tryz.ntmps44,Exit.thenS]
 apply wpS_seq
 apply wpS_region
 simp [wpOpsS,go_sem,Exit.thenS,hn]
 refine wpS_cond (t:=false) (by simp [Act.eval,Array.replicate]) ?_
 simp only [Bool.false_eq_true,if_false]
 refine wpS_of_wp (wp_skip ?_)
 cases c₀
 simp_all [bodyPostS,results,Tryz.results44]
theorem tV (b2 b3:Nat) (x:Flt) (cs:List Value) (y:Value) (w:World) (hl:cs.length=31) (hs:Sat ⟨default,0,[],w,[b2,b3]⟩ [box b2 37 cs,box b3 46 [y]] w):CallsD Tryz.prog 44 #[.pointer (some ⟨b2,0,none⟩),.pointer (some ⟨b3,0,none⟩)] (.panicking (dl x)) w fun e u' w' =>
  e=.returned (.tuple #[])∧u'=.panicking [{ v:=(.iface 92 (.agg #[.int .i64 x.1,.int .i64 x.2])),recovered:=true }]∧Sat ⟨default,0,[],w,[b2,b3]⟩ [box b2 37 [.int .i64 0,.string .empty,.string .empty,.slice none 0 0,.slice none 0 0,.bool false,.slice none 0 0,.slice none 0 0,.int .i64 0,.int .i64 0,.int .i64 0,.string .empty,.string .empty,.string .empty,.int .i64 0,.slice none 0 0,.bool false,.bool false,.slice none 0 0,.slice none 0 0,.int .i64 0,.int .i64 0,.int .i64 0,.string .empty,.string .empty,.string .empty,.int .i64 0,.slice none 0 0,.slice none 0 0,.bool false,.int .i64 0],box b3 46 [.iface 55 (.agg #[.int .i64 x.1,.int .i64 x.2])]] w':=by
 have hn:∀ w:World,(binOp BinOp.neq 20 (.iface 92 (.agg #[.int .i64 x.1,.int .i64 x.2])) .nilIface).run Tryz.prog w=.ok (.bool true) w:=fun _=>by kernel_rfl
 refine callsD_of_wpS Tryz.func44 rfl fun c₀ fr hu=>?_
 apply wpS_seq
 apply wpS_region
 simp [wpOpsS,go_sem,recoverD,hu,Tryz.ntmps44,Exit.thenS,dl]
 apply wpS_seq
 apply wpS_region
 simp [wpOpsS,go_sem,Exit.thenS,hn]
 refine wpS_cond (t:=true) (by simp [Act.eval,Array.replicate]) ?_
 simp only [if_true]
 refine wpS_of_wp ((show TriG ⟨Tryz.prog,20,[],w,[b2,b3]⟩ [(0,.pointer (some ⟨b2,0,none⟩)),(1,.pointer (some ⟨b3,0,none⟩)),(2,(.iface 92 (.agg #[.int .i64 x.1,.int .i64 x.2])))] [box b2 37 cs,box b3 46 [y]] _ _ from ?_) _ w ⟨rfl,by simp,fun d v hd=>?_⟩ hs.cx)
 rotate_left
 · rcases d with _ | _ | _ | d
   · simpa [WK.look] using hd
   · have hd:some (Value.pointer (some ⟨b3,0,none⟩))=some v:=hd
     simpa using hd
   · have hd:some (Value.iface 92 (.agg #[.int .i64 x.1,.int .i64 x.2]))=some v:=hd
     simpa using hd
   · cases hd
 refine sX (Q:=fun e fs' H'=>e=.normal∧∀ w2,Sat ⟨Tryz.prog,20,[],w,[b2,b3]⟩ H' w2→Sat ⟨Tryz.prog,20,[],w,[b2,b3]⟩ [box b2 37 [.int .i64 0,.string .empty,.string .empty,.slice none 0 0,.slice none 0 0,.bool false,.slice none 0 0,.slice none 0 0,.int .i64 0,.int .i64 0,.int .i64 0,.string .empty,.string .empty,.string .empty,.int .i64 0,.slice none 0 0,.bool false,.bool false,.slice none 0 0,.slice none 0 0,.int .i64 0,.int .i64 0,.int .i64 0,.string .empty,.string .empty,.string .empty,.int .i64 0,.slice none 0 0,.slice none 0 0,.bool false,.int .i64 0],box b3 46 [.iface 55 (.agg #[.int .i64 x.1,.int .i64 x.2])]] w2) ?_ (fun e fs' H' ⟨he,hq⟩ a w2 ha hw=>?_)
 · skip
   exact ae (aa (ai rfl rfl (o_assert (assert92 _) rfl rfl (ai rfl rfl (aZ rfl rfl rfl (aZ rfl rfl rfl (aQ _ rfl zero92 rfl (fun b3=>aC sz92 N0 rfl rfl rfl rfl rfl (Nat.le_of_ble_eq_true rfl) rfl (o_assignN rfl rfl (ae (ae (tri_slo [(4,_),(3,_),(0,_),(1,_),(2,_)] rfl (aa (ai rfl rfl (dV rfl rfl (triL_nilN (kA rfl (ao (ag (tri_slo [(3,_),(0,_),(1,_)] rfl (bj ([box b3 92 [.int .i64 x.1,.int .i64 x.2]]) [(0,true),(1,true),(2,true),(3,true),(4,false),(5,false)] [5] (by kernel_rfl) (by kernel_rfl) (fun _ h=>h.sel [0] (by decide)) (ah rfl (aT wR rfl rfl (ab ⟨rfl,ah rfl (aj fo92_0 rfl rfl (ab ⟨rfl,ah rfl (aS agg55 sz55 .z rfl rfl (vs:=[.int .i64 x.1,.int .i64 x.2]) rfl rfl (ab ⟨rfl,ah rfl (jW Tryz.underlying55 rfl rfl rfl (ab ⟨rfl,(aN rfl (dK (us:=cs) (cs:=[.int .i64 0,.string .empty,.string .empty,.slice none 0 0,.slice none 0 0,.bool false,.slice none 0 0,.slice none 0 0,.int .i64 0,.int .i64 0,.int .i64 0,.string .empty,.string .empty,.string .empty,.int .i64 0,.slice none 0 0,.bool false,.bool false,.slice none 0 0,.slice none 0 0,.int .i64 0,.int .i64 0,.int .i64 0,.string .empty,.string .empty,.string .empty,.int .i64 0,.slice none 0 0,.slice none 0 0,.bool false,.int .i64 0]) hl rfl rfl eU (.s .z) rfl rfl rfl (ab ⟨rfl,fun _ _ h=>h.sel [0] (by decide),(bM [5] [_] rfl rfl (aC sz46 N2 rfl rfl rfl rfl rfl (Nat.le_of_ble_eq_true rfl) rfl (ab ⟨rfl,(⟨rfl,fun w2 hw2=>hw2.sel [1,2] (by decide)⟩)⟩)))⟩)))⟩))⟩))⟩))⟩))))))))))))))))))))))))
 · subst he
   refine ⟨ha.ds,.panicking [{ v:=(.iface 92 (.agg #[.int .i64 x.1,.int .i64 x.2])),recovered:=true }],rfl,.tuple #[],results_none rfl _ _ _,rfl,rfl,(hq w2 hw).cx⟩
end Go.Proofs.YtjbpkcbefmpfgaaGreatDoor
