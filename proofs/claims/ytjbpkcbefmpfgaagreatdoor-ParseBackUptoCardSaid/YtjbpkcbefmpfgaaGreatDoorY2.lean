/- Parts of the proof, joined and made shorter by a program: Par3, Par4, Par5, Prn1, Prn2, Value5, Prn3, Back1, Back2, Prn4, Prn5, Prn6, Prn7, Wk13, Prn8, Prn9, Prn10, Back3, Back4, Back5, Prn11, Par6, Wk14, PLaid, PCard, Prn15, POpen, Back6, Back7, Back8. -/
import Derived.Test.YtjbpkcbefmpfgaaGreatDoorY1
import Derived.Recover
import Derived.Lib.AppendStr
import Derived.Laws.Entries
import Derived.WideLaws
import Derived.KernelRfl
import Derived.LaidMore
import Derived.LaidHandle
import Derived.Lay
import Derived.HandedShaped
import Derived.Stop.LaidErr
import Derived.Lib.LaidTab
import Derived.Deep.DeepHandedRow
namespace Go.WK
open Go.RowKit
theorem PEnv.chgL {w w':World} {pb:Nat} {a:Addr} {k0:Nat} {T:List Tok} {L:List Nat} (h:PEnv w pb a k0 T) (hc:Chg L w w') (hn:a.block ∉ L):PEnv w' pb a k0 T :=
 ⟨h.rd.chg hc (fun a' ha=>by cases ha; exact hn),h.ne,h.len,h.bnd,h.ok⟩
theorem At.subL {w w1:World} {pb:Nat} {a:Addr} {k0:Nat} {T ts us:List Tok} {d d':Nat} {L:List Nat} (h:At w pb a k0 T ts d) (hc:Chg L w w1) (hn:a.block ∉ L) (hu:Cuts ts us) (hd':d'≤24) (hs:Sat ⟨default,0,[],w1,[pb]⟩ [pC pb a k0 T us d'] w1):At w1 pb a k0 T us d' :=
 ⟨h.env.chgL hc hn,hu.1.trans h.suf,hu.2,hd',hs⟩
theorem PEnv.rdsL {w:World} {pb:Nat} {a:Addr} {k0:Nat} {T:List Tok} {L:List Nat} (h:PEnv w pb a k0 T) (hn:a.block ∉ L) (us:List Tok) (hu:us <:+ T) (cx:Cx) (H:List Chunk) (e1:cx.w0=w) (e2:cx.lent=L):RdS cx H (some (a.add ((T.length - us.length) * 3))) (toksV us):=by
 refine RdS.lent ?_ (fun a' ha=>?_)
 · rw [e1]
   intro j u hj
   obtain ⟨a1,ha,hc⟩:=h.rd ((T.length - us.length) * 3+j) u (by rw [← List.getElem?_drop,jZ,oH hu]; exact hj)
   cases ha
   exact ⟨_,rfl,by rw [ja]; exact hc⟩
 · cases ha
   rw [e2,jx]; exact hn
theorem At.lt {w:World} {pb:Nat} {a:Addr} {k0:Nat} {T ts:List Tok} {d:Nat} (h:At w pb a k0 T ts d):a.block < w.heap.size:=by
 have hT:0 < T.length:=Nat.lt_of_lt_of_le h.good.ne h.suf.length_le
 have h0:∃ u,(toksV T)[0]? = some u:=by
  cases T with
  | nil=>simp at hT
  | cons t l=>exact ⟨_,rfl⟩
 obtain ⟨u,hu⟩:=h0
 obtain ⟨a',ha,hc⟩:=h.env.rd 0 u hu
 cases ha
 have:=World.block_lt_of_cell? w _ hc
 rwa [jx] at this
theorem ge {pb t:Nat} {cs:List Value} {D:List Chunk} {L:List Nat} (h:∀ c ∈ D,∀ k,c.fp k→k ∈ L):∀ c ∈ (box pb t cs::D),∀ k,c.fp k→k ∈ pb::L:=fun c hc k hk=>by
 rcases List.mem_cons.1 hc with rfl | hc
 · have:k=pb:=hk
   rw [this]; exact List.mem_cons_self
 · exact List.mem_cons_of_mem _ (h c hc k hk)
theorem gf {pb t:Nat} {cs:List Value} {D:List Chunk} {L:List Nat} (h:∀ k ∈ L, ∃ c ∈ D,c.fp k):∀ k ∈ pb::L, ∃ c ∈ (box pb t cs::D),c.fp k:=fun k hk=>by
 rcases List.mem_cons.1 hk with rfl | hk
 · exact ⟨_,List.mem_cons_self,rfl⟩
 · obtain ⟨c,hc,hf⟩:=h k hk
   exact ⟨c,List.mem_cons_of_mem _ hc,hf⟩
theorem notin_L {cx:Cx} {D:List Chunk} {L:List Nat} {w1:World} {c:Chunk} {b:Nat} (h:Sat cx (c::D) w1) (hl:∀ k ∈ L, ∃ c ∈ D,c.fp k) (h1:b < cx.w0.heap.size) (h2:b ∉ cx.lent):b ∉ L:=fun hb=>by
 obtain ⟨e,he,hf⟩:=hl b hb
 rcases h.fresh e (List.mem_cons_of_mem _ he) b hf with h3 | h3
 · omega
 · exact h2 h3
theorem iD {bl:List Nat} {e:Ex} {cs:List Value} {w:World} (h:(gB bl e cs).holds w):∃ (o k n c:Int) (s t m:ByteArray) (A:Option Addr) (l cap:Nat),cs=[.int .i64 o,.int .i64 k,.int .i64 n,.string s,.string t,.string m,.int .i64 c,.slice A l cap]:=by
 obtain ⟨h,_⟩:=h
 cases e with
 | mk o v t n c as =>
  obtain ⟨A,k,xs,rfl,_⟩:=h
  exact ⟨_,_,_,_,_,_,_,_,_,_,rfl⟩
def ku {τ:Type} (can:List Tok→Bool) (one:τ→List Tok→PT τ) (f n:Nat) (s:τ) (us:List Tok):PT τ :=
 if can us=true then (if n=16 then .error (3,(hd us).a) else match one s us with | .error x=>.error x | .ok (s',vs)=>cM can one f (n+1) s' vs) else oE us
theorem vW {τ:Type} (can:List Tok→Bool) (one:τ→List Tok→PT τ) (f:Nat) (s:τ) (ts:List Tok):cM can one (f+1) 0 s ts=ku can one f 0 s ts:=by
 rw [cM,if_pos (.inl rfl),if_pos rfl]; rfl
theorem vX {τ:Type} (can:List Tok→Bool) (one:τ→List Tok→PT τ) (f n:Nat) (s:τ) (ts:List Tok) (hn:n≠0) (h:atT 4 [44] ts=true):cM can one (f+1) n s ts=ku can one f n s (ts.drop 1):=by
 rw [cM,if_pos (.inr h),if_neg hn]; rfl
theorem vY {τ:Type} (can:List Tok→Bool) (one:τ→List Tok→PT τ) (f n:Nat) (s:τ) (ts:List Tok) (hn:n≠0) (h:atT 4 [44] ts=false):cM can one (f+1) n s ts=.ok (s,ts):=by
 rw [cM,if_neg (by rintro (h1 | h1); exact hn h1; rw [h] at h1; cases h1)]
theorem sP {τ:Type} {can:List Tok→Bool} {one:τ→List Tok→PT τ} {f n:Nat} {s:τ} {us:List Tok} (h:can us=false):ku can one f n s us=.error (190,(hd us).a):=by
 rw [ku,if_neg (by rw [h]; decide)]; rfl
theorem qm {τ:Type} {can:List Tok→Bool} {one:τ→List Tok→PT τ} {f n:Nat} {s:τ} {us:List Tok} (h:can us=true) (hn:n=16):ku can one f n s us=.error (3,(hd us).a):=by
 rw [ku,if_pos h,if_pos hn]
theorem sQ {τ:Type} {can:List Tok→Bool} {one:τ→List Tok→PT τ} {f n:Nat} {s:τ} {us:List Tok} {x:Flt} (h:can us=true) (hn:¬ n=16) (ho:one s us=.error x):ku can one f n s us=.error x:=by
 rw [ku,if_pos h,if_neg hn,ho]
theorem nW {τ:Type} {can:List Tok→Bool} {one:τ→List Tok→PT τ} {f n:Nat} {s s':τ} {us vs:List Tok} (h:can us=true) (hn:¬ n=16) (ho:one s us=.ok (s',vs)):ku can one f n s us=cM can one f (n+1) s' vs:=by
 rw [ku,if_pos h,if_neg hn,ho]
theorem begT_1 {ts:List Tok} (h:(hd ts).k=2∨(hd ts).k=3):gU ts=true:=by rw [gU,if_pos h]
theorem begT_2 {ts:List Tok} (h:(hd ts).k=4):gU ts=(decide ((hd ts).t=[40]) || decide ((hd ts).t=[45])):=by
 rw [gU,if_neg (by rw [h]; decide),if_pos h]
theorem ro {ts:List Tok} (h:(hd ts).k=1) (h2:(hd ts).t=dc∨(hd ts).t=lJ∨(hd ts).t=jo∨(hd ts).t=eN):gU ts=true:=by
 rw [gU,if_neg (by rw [h]; decide),if_neg (by rw [h]; decide),if_pos h,if_pos h2]
theorem begT_4 {ts:List Tok} (h:(hd ts).k=1) (h2:¬ ((hd ts).t=dc∨(hd ts).t=lJ∨(hd ts).t=jo∨(hd ts).t=eN)):gU ts=nmT ts:=by
 rw [gU,if_neg (by rw [h]; decide),if_neg (by rw [h]; decide),if_pos h,if_neg h2]
theorem begT_5 {ts:List Tok} (h1:¬ (hd ts).k=2) (h2:¬ (hd ts).k=3) (h3:¬ (hd ts).k=4) (h4:¬ (hd ts).k=1):gU ts=false:=by
 rw [gU,if_neg (by rintro (h | h); exact h1 h; exact h2 h),if_neg h3,if_neg h4]
theorem vZ {ts:List Tok} (h:nmT ts=false):gb ts=.error (190,(hd ts).a):=by
 unfold gb bC; rw [if_neg (by rw [h]; decide)]; rfl
theorem src_one {ts:List Tok} (h:nmT ts=true) (h2:atT 1 asB (ts.drop 1)=false):gb ts=.ok (((hd ts).t,[]),ts.drop 1):=by
 unfold gb bC asP; rw [if_pos h]; simp only [h2]; rfl
theorem src_bad2 {ts:List Tok} (h:nmT ts=true) (h2:atT 1 asB (ts.drop 1)=true) (h3:nmT ((ts.drop 1).drop 1)=false):gb ts=.error (190,(hd ((ts.drop 1).drop 1)).a):=by
 unfold gb asP bC; rw [if_pos h]; simp only [h2,h3]; rfl
theorem src_two {ts:List Tok} (h:nmT ts=true) (h2:atT 1 asB (ts.drop 1)=true) (h3:nmT ((ts.drop 1).drop 1)=true):gb ts=.ok (((hd ts).t,(hd ((ts.drop 1).drop 1)).t),((ts.drop 1).drop 1).drop 1):=by
 unfold gb asP bC; rw [if_pos h]; simp only [h2,h3]; rfl
end Go.WK
namespace Go.WK
open Go.RowKit
theorem Sat.sel1 {w:World} {pb t:Nat} {cs:List Value} {D:List Chunk} {L:List Nat} (h:Sat ⟨default,0,[],w,pb::L⟩ (box pb t cs::D) w):Sat ⟨default,0,[],w,[pb]⟩ [box pb t cs] w :=
 ⟨Chg.refl _ _,fun c hc=>by obtain rfl:=List.mem_singleton.1 hc; exact h.holds _ List.mem_cons_self,fun c hc k hk=>by obtain rfl:=List.mem_singleton.1 hc; exact .inr (by have:k=pb:=hk; simp [this]),List.pairwise_singleton _ _⟩
end Go.WK
namespace Go.WK
open Go.RowKit
structure LS (α:Type) where
 l:List α
 A:Option Addr
 c:Nat
 xs:List Value
 bl:List Nat
abbrev lsD {α:Type} (K:Kd α) (sb e:Nat) (cs:LS α→List Value) (s:LS α):List Chunk:=[box sb 37 (cs s),row (.slice s.A s.l.length s.c) e K.z s.l.length s.xs,du K s.bl s.l s.xs]
def lsL {α:Type} (sb:Nat) (s:LS α):List Nat:=sb::(s.A.toList.map (·.block)++s.bl)
theorem wa {A:Option Addr} {n c e z m:Nat} {xs:List Value} {k:Nat} (h:(row (.slice A n c) e z m xs).fp k):k ∈ A.toList.map (·.block):=by
 have h:(Value.slice A n c).ownBlock=some k:=h
 cases A with
 | none=>cases h
 | some a=>simp [Value.ownBlock] at h; simp [h]
theorem kN {α:Type} (K:Kd α) (sb e:Nat) (cs:LS α→List Value) (s:LS α):(∀ c ∈ lsD K sb e cs s,∀ k,c.fp k→k ∈ lsL sb s)∧(∀ k ∈ lsL sb s, ∃ c ∈ lsD K sb e cs s,c.fp k):=by
 refine ⟨fun c hc k hk=>?_,fun k hk=>?_⟩
 · simp only [lsD,List.mem_cons,List.not_mem_nil,or_false] at hc
   rcases hc with rfl | rfl | rfl
   · have:k=sb:=hk
     rw [this]; exact List.mem_cons_self
   · exact List.mem_cons_of_mem _ (List.mem_append_left _ (wa hk))
   · exact List.mem_cons_of_mem _ (List.mem_append_right _ hk)
 · rcases List.mem_cons.1 hk with rfl | hk
   · exact ⟨_,List.mem_cons_self,rfl⟩
   · rcases List.mem_append.1 hk with hk | hk
     · exact ⟨_,List.mem_cons_of_mem _ List.mem_cons_self,eh hk⟩
     · exact ⟨_,List.mem_cons_of_mem _ (List.mem_cons_of_mem _ List.mem_cons_self),hk⟩
theorem wb {bl:List Nat} {w:World} {e:Ex} {cs:List Value} {s:List UInt8} (h:ExK bl w e cs):itemKd.rel bl w ⟨e,s⟩ (cs++[.string (B s)]):=⟨cs,rfl,h⟩
theorem setRel {bl:List Nat} {w:World} {e:Ex} {cs:List Value} {s:List UInt8} (h:ExK bl w e cs):setKd.rel bl w ⟨s,e⟩ ([.string (B s)]++cs):=⟨cs,rfl,h⟩
theorem srcRel {bl:List Nat} {w:World} {e:Ex} {cs:List Value} {s t:List UInt8} (h:ExK bl w e cs):srcKd.rel bl w ⟨t,s,e⟩ ([.string (B t),.string (B s)]++cs):=⟨cs,rfl,h⟩
theorem item_err {f d:Nat} {l:List ItemX} {ts:List Tok} {x:Flt} (h:exP f 1 d ts=.error x):gC f d l ts=.error x:=by unfold gC; rw [h]
theorem item_one {f d:Nat} {l:List ItemX} {ts us:List Tok} {e:Ex} (h:exP f 1 d ts=.ok (e,us)) (h2:atT 1 asB us=false):gC f d l ts=.ok (l++[⟨e,[]⟩],us):=by unfold gC asP; simp only [h,h2]; rfl
theorem item_bad {f d:Nat} {l:List ItemX} {ts us:List Tok} {e:Ex} (h:exP f 1 d ts=.ok (e,us)) (h2:atT 1 asB us=true) (h3:nmT (us.drop 1)=false):gC f d l ts=.error (190,(hd (us.drop 1)).a):=by unfold gC asP bC; simp only [h,h2,h3]; rfl
theorem item_two {f d:Nat} {l:List ItemX} {ts us:List Tok} {e:Ex} (h:exP f 1 d ts=.ok (e,us)) (h2:atT 1 asB us=true) (h3:nmT (us.drop 1)=true):gC f d l ts=.ok (l++[⟨e,(hd (us.drop 1)).t⟩],(us.drop 1).drop 1):=by unfold gC asP bC; simp only [h,h2,h3]; rfl
theorem ord_bad {l:List OrdX} {ts:List Tok} (h:nmT ts=false):lU l ts=.error (190,(hd ts).a):=by unfold lU bC; simp only [h]; rfl
theorem ord_ok {l:List OrdX} {ts:List Tok} (h:nmT ts=true):lU l ts=.ok (l++[⟨(hd ts).t,atT 1 jG (ts.drop 1)⟩],if atT 1 jG (ts.drop 1)=true then (ts.drop 1).drop 1 else ts.drop 1):=by unfold lU bC; simp only [h]; rfl
end Go.WK
namespace Go.WK
open Go.RowKit
def ofL (l:List Value) (i:Nat):Value:=l.getD i (.bool false)
theorem eP {P:Program} {n:Nat} {w w1:World} {pb:Nat} {D:List Chunk} {L L0:List Nat} {c:Chunk} (h:Sat ⟨P,n,[],w,pb::L0⟩ (c::D) w1) (hl:∀ k ∈ L, ∃ c ∈ D,c.fp k):∀ k,k < w.heap.size→k ∉ pb::L0→k ∉ pb::L:=fun k h1 h2 hm=>by
 rcases List.mem_cons.1 hm with hm | hm
 · exact h2 (by rw [hm]; exact List.mem_cons_self)
 · exact notin_L h hl h1 h2 hm
theorem bQ {ts us:List Tok} {n:List UInt8} (hg:Good ts) (h:bC ts=.ok (n,us)):Cuts ts us:=(gS hg h).1
theorem sR {ts us:List Tok} {n:List UInt8} (hg:Good ts) (h:asP ts=.ok (n,us)):Cuts ts us:=by
 unfold asP at h
 split at h
 · rename_i h0
   have c1:=aH (Cuts.refl hg) (by decide) h0
   exact c1.trans (bQ c1.2 h)
 · simp only [Except.ok.injEq,Prod.mk.injEq] at h
   rw [← h.2]; exact Cuts.refl hg
theorem lr {f d:Nat} {l l':List ItemX} {ts us:List Tok} (hg:Good ts) (h:gC f d l ts=.ok (l',us)):Cuts ts us:=by
 unfold gC at h
 cases h1:exP f 1 d ts with
 | error x=>simp only [h1] at h; cases h
 | ok r =>
  obtain ⟨e,vs⟩:=r
  simp only [h1] at h
  have c1:=(cE f 1 d ts hg e vs h1).1
  cases h2:asP vs with
  | error x=>simp only [h2] at h; cases h
  | ok r =>
   obtain ⟨n,zs⟩:=r
   simp only [h2,Except.ok.injEq,Prod.mk.injEq] at h
   rw [← h.2]; exact c1.trans (sR c1.2 h2)
theorem mv {l l':List OrdX} {ts us:List Tok} (hg:Good ts) (h:lU l ts=.ok (l',us)):Cuts ts us:=by
 unfold lU at h
 cases h1:bC ts with
 | error x=>simp only [h1] at h; cases h
 | ok r =>
  obtain ⟨n,vs⟩:=r
  simp only [h1,Except.ok.injEq,Prod.mk.injEq] at h
  have c1:=bQ hg h1
  rw [← h.2]
  split
  · rename_i h2; exact aH c1 (by decide) h2
  · exact c1
theorem dG {τ:Type} {can:List Tok→Bool} {one:τ→List Tok→PT τ} (ho:∀ s us s' us',Good us→one s us=.ok (s',us')→Cuts us us'):∀ (f n:Nat) (s s':τ) (ts us:List Tok),Good ts→cM can one f n s ts=.ok (s',us)→Cuts ts us
 | 0,n,s,s',ts,us,hg,h=>by
  simp only [cM,Except.ok.injEq,Prod.mk.injEq] at h
  rw [← h.2]; exact Cuts.refl hg
 | f+1,n,s,s',ts,us,hg,h=>by
  rw [cM] at h
  have hc:(n=0∨atT 4 [44] ts=true)→Cuts ts (if n=0 then ts else ts.drop 1):=fun hh=>by
   split
   · exact Cuts.refl hg
   · rename_i hn
     exact aH (Cuts.refl hg) (by decide) (hh.resolve_left hn)
  by_cases hh:n=0∨atT 4 [44] ts=true
  · rw [if_pos hh] at h
    have c1:=hc hh
    generalize (if n=0 then ts else ts.drop 1)=V at h c1
    by_cases h1:can V=true
    · rw [if_pos h1] at h
      by_cases h2:n=16
      · rw [if_pos h2] at h; cases h
      · rw [if_neg h2] at h
        cases h3:one s V with
        | error x=>simp only [h3] at h; cases h
        | ok r =>
         obtain ⟨s2,vs⟩:=r
         simp only [h3] at h
         have c2:=ho _ _ _ _ c1.2 h3
         exact (c1.trans c2).trans (dG ho f (n+1) s2 s' vs us c2.2 h)
    · rw [if_neg h1] at h; cases h
  · rw [if_neg hh] at h
    simp only [Except.ok.injEq,Prod.mk.injEq] at h
    rw [← h.2]; exact Cuts.refl hg
theorem xA {f d:Nat} {l:List ItemX} {ts us:List Tok} (hg:Good ts) (h:gc f d ts=.ok (l,us)):Cuts ts us:=by
 unfold gc at h
 split at h
 · rename_i h0
   simp only [Except.ok.injEq,Prod.mk.injEq] at h
   rw [← h.2]; exact aH (Cuts.refl hg) (by decide) h0
 · exact dG (fun _ _ _ _ hg h=>lr hg h) _ _ _ _ _ _ hg h
theorem mX {ts:List Tok} (hg:Good ts):Cuts ts (cu ts):=by
 unfold cu
 split
 · rename_i h; exact aH (Cuts.refl hg) (by decide) h
 · exact Cuts.refl hg
theorem jH {ts us:List Tok} {r:List UInt8 × List UInt8} (hg:Good ts) (h:gb ts=.ok (r,us)):Cuts ts us:=by
 unfold gb at h
 cases h1:bC ts with
 | error x=>simp only [h1] at h; cases h
 | ok r =>
  obtain ⟨n,vs⟩:=r
  simp only [h1] at h
  have c1:=bQ hg h1
  cases h2:asP vs with
  | error x=>simp only [h2] at h; cases h
  | ok r =>
   obtain ⟨m,zs⟩:=r
   simp only [h2,Except.ok.injEq,Prod.mk.injEq] at h
   rw [← h.2]; exact c1.trans (sR c1.2 h2)
theorem iN {f d:Nat} {ts us:List Tok} {e:Ex} (hg:Good ts) (h:cN f d ts=.ok (e,us)):Cuts ts us:=by
 unfold cN at h
 split at h
 · rename_i h0
   have c1:=aH (Cuts.refl hg) (by decide) h0
   exact c1.trans (cE f 1 d _ c1.2 e us h).1
 · simp only [Except.ok.injEq,Prod.mk.injEq] at h
   rw [← h.2]; exact Cuts.refl hg
end Go.WK
namespace Go.WK
open Go.RowKit
def blkA (A:Option Addr):List Nat:=A.toList.map (·.block)
theorem Sat.qry {cx:Cx} {H:List Chunk} {w:World} {A1 A2 A3:Option Addr} {n1 n2 n3 c1 c2 c3 e1 e2 e3:Nat} {x1 x2 x3 cs:List Value} {b1 b2 b3 bw:List Nat} {l1:List ItemX} {l2:List SrcX} {l3:List OrdX} {e:Ex} (di st li:Bool) (lim:Int)
  (h:Sat cx (row (.slice A1 n1 c1) e1 itemKd.z n1 x1::du itemKd b1 l1 x1::row (.slice A2 n2 c2) e2 srcKd.z n2 x2::du srcKd b2 l2 x2::gB bw e cs::row (.slice A3 n3 c3) e3 ordKd.z n3 x3::du ordKd b3 l3 x3::H) w) (h1:n1=l1.length) (h2:n2=l2.length) (h3:n3=l3.length) :
  Sat cx (qryC ((blkA A1++b1)++((blkA A2++b2)++(bw++(blkA A3++b3)))) ⟨di,st,l1,l2,e,l3,li,lim⟩ (.slice A1 n1 c1) (.slice A2 n2 c2) (.slice A3 n3 c3) cs::H) w:=by
 refine Sat.fuse (l:=[_,_,_,_,_,_,_]) h _ (fun hh=>?_) (fun j hj=>?_)
 · have k1:=hh _ (Nth.mem .z)
   have k2:=hh _ (Nth.mem (.s .z))
   have k3:=hh _ (Nth.mem (.s (.s .z)))
   have k4:=hh _ (Nth.mem (.s (.s (.s .z))))
   have k5:=hh _ (Nth.mem (.s (.s (.s (.s .z)))))
   have k6:=hh _ (Nth.mem (.s (.s (.s (.s (.s .z))))))
   have k7:=hh _ (Nth.mem (.s (.s (.s (.s (.s (.s .z)))))))
   refine ⟨⟨itemKd.sl_mono ?_ (fJ itemKd k1 h1 k2.1),srcKd.sl_mono ?_ (fJ srcKd k3 h2 k4.1),ExK.mono ?_ _ _ k5.1,ordKd.sl_mono ?_ (fJ ordKd k6 h3 k7.1)⟩,fun j hj=>?_⟩
   · intro k hk; exact List.mem_append_left _ hk
   · intro k hk; exact List.mem_append_right _ (List.mem_append_left _ hk)
   · intro k hk; exact List.mem_append_right _ (List.mem_append_right _ (List.mem_append_left _ hk))
   · intro k hk; exact List.mem_append_right _ (List.mem_append_right _ (List.mem_append_right _ hk))
   · rcases List.mem_append.1 hj with hj | hj
     · rcases List.mem_append.1 hj with hj | hj
       · exact (row (.slice A1 n1 c1) e1 itemKd.z n1 x1).lt w j k1 (eh hj)
       · exact k2.2 j hj
     · rcases List.mem_append.1 hj with hj | hj
       · rcases List.mem_append.1 hj with hj | hj
         · exact (row (.slice A2 n2 c2) e2 srcKd.z n2 x2).lt w j k3 (eh hj)
         · exact k4.2 j hj
       · rcases List.mem_append.1 hj with hj | hj
         · exact k5.2 j hj
         · rcases List.mem_append.1 hj with hj | hj
           · exact (row (.slice A3 n3 c3) e3 ordKd.z n3 x3).lt w j k6 (eh hj)
           · exact k7.2 j hj
 · rcases List.mem_append.1 hj with hj | hj
   · rcases List.mem_append.1 hj with hj | hj
     · exact ⟨_,Nth.mem .z,eh hj⟩
     · exact ⟨_,Nth.mem (.s .z),hj⟩
   · rcases List.mem_append.1 hj with hj | hj
     · rcases List.mem_append.1 hj with hj | hj
       · exact ⟨_,Nth.mem (.s (.s .z)),eh hj⟩
       · exact ⟨_,Nth.mem (.s (.s (.s .z))),hj⟩
     · rcases List.mem_append.1 hj with hj | hj
       · exact ⟨_,Nth.mem (.s (.s (.s (.s .z)))),hj⟩
       · rcases List.mem_append.1 hj with hj | hj
         · exact ⟨_,Nth.mem (.s (.s (.s (.s (.s .z))))),eh hj⟩
         · exact ⟨_,Nth.mem (.s (.s (.s (.s (.s (.s .z)))))),hj⟩
structure QR where
 q:QryX
 us:List Tok
 bl:List Nat
 vI:Value
 vF:Value
 vO:Value
 ec:List Value
section
variable {f d:Nat} {ts t1 t2 t3 t4 t5:List Tok} {x:Flt} {its:List ItemX} {fr:List SrcX} {wh:Ex} {os:List OrdX} {li:Bool} {lim:Int}
theorem qe1 (h1:gc f d (cu ts)=.error x):cP f d ts=.error x:=by unfold cP; rw [h1]
theorem qe2 (h1:gc f d (cu ts)=.ok (its,t1)) (h2:eB f d t1=.error x):cP f d ts=.error x:=by unfold cP; simp only [h1,h2]
theorem qe3 (h1:gc f d (cu ts)=.ok (its,t1)) (h2:eB f d t1=.ok (fr,t2)) (h3:cN f d t2=.error x):cP f d ts=.error x:=by unfold cP; simp only [h1,h2,h3]
theorem qe4 (h1:gc f d (cu ts)=.ok (its,t1)) (h2:eB f d t1=.ok (fr,t2)) (h3:cN f d t2=.ok (wh,t3)) (h4:eC t3=.error x):cP f d ts=.error x:=by unfold cP; simp only [h1,h2,h3,h4]
theorem qe5 (h1:gc f d (cu ts)=.ok (its,t1)) (h2:eB f d t1=.ok (fr,t2)) (h3:cN f d t2=.ok (wh,t3)) (h4:eC t3=.ok (os,t4)) (h5:eW t4=.error x):cP f d ts=.error x:=by unfold cP; simp only [h1,h2,h3,h4,h5]
theorem qok (h1:gc f d (cu ts)=.ok (its,t1)) (h2:eB f d t1=.ok (fr,t2)) (h3:cN f d t2=.ok (wh,t3)) (h4:eC t3=.ok (os,t4)) (h5:eW t4=.ok ((li,lim),t5)):cP f d ts=.ok (⟨atT 1 br ts,atT 4 [42] (cu ts),its,fr,wh,os,li,lim⟩,t5):=by unfold cP; simp only [h1,h2,h3,h4,h5]
theorem from_no (h:atT 1 eV ts=false):eB f d ts=.ok ([],ts):=by rw [eB,if_neg (by rw [h]; decide)]
theorem from_bad (h:atT 1 eV ts=true) (h2:gb (ts.drop 1)=.error x):eB f d ts=.error x:=by rw [eB,if_pos h,h2]
theorem from_ok {r:List UInt8 × List UInt8} (h:atT 1 eV ts=true) (h2:gb (ts.drop 1)=.ok (r,t1)):eB f d ts=dQ f d 5 [⟨r.1,r.2,Ex.zero⟩] t1:=by rw [eB,if_pos h,h2]
theorem joins_no {k:Nat} {l:List SrcX} (h:atT 1 kL ts=false):dQ f d k l ts=.ok (l,ts):=by
 cases k with
 | zero=>rfl
 | succ k=>rw [dQ,if_neg (by rw [h]; decide)]
theorem lu {k:Nat} {l:List SrcX} (h:atT 1 kL ts=true) (h2:fH f d l (ts.drop 1)=.error x):dQ f d (k+1) l ts=.error x:=by rw [dQ,if_pos h,h2]
theorem joins_ok {k:Nat} {l l':List SrcX} (h:atT 1 kL ts=true) (h2:fH f d l (ts.drop 1)=.ok (l',t1)):dQ f d (k+1) l ts=dQ f d k l' t1:=by rw [dQ,if_pos h,h2]
theorem join_e1 {l:List SrcX} (h:nmT ts=true∧l.length=4):fH f d l ts=.error (3,(hd ts).a):=by rw [fH,if_pos h]
theorem join_e2 {l:List SrcX} (h:¬ (nmT ts=true∧l.length=4)) (h2:gb ts=.error x):fH f d l ts=.error x:=by rw [fH,if_neg h,h2]
theorem join_e3 {l:List SrcX} {r:List UInt8 × List UInt8} (h:¬ (nmT ts=true∧l.length=4)) (h2:gb ts=.ok (r,t1)) (h3:atT 1 onB t1=false):fH f d l ts=.error (190,(hd t1).a):=by
 rw [fH,if_neg h,h2]; simp only [bH,h3]; rfl
theorem join_e4 {l:List SrcX} {r:List UInt8 × List UInt8} (h:¬ (nmT ts=true∧l.length=4)) (h2:gb ts=.ok (r,t1)) (h3:atT 1 onB t1=true) (h4:exP f 1 d (t1.drop 1)=.error x):fH f d l ts=.error x:=by
 rw [fH,if_neg h,h2]; simp only [bH,h3,if_true,h4]
theorem join_ok {l:List SrcX} {r:List UInt8 × List UInt8} {e:Ex} (h:¬ (nmT ts=true∧l.length=4)) (h2:gb ts=.ok (r,t1)) (h3:atT 1 onB t1=true) (h4:exP f 1 d (t1.drop 1)=.ok (e,t2)):fH f d l ts=.ok (l++[⟨r.1,r.2,e⟩],t2):=by
 rw [fH,if_neg h,h2]; simp only [bH,h3,if_true,h4]
theorem sS (h:atT 1 jp ts=false):eC ts=.ok ([],ts):=by rw [eC,if_neg (by rw [h]; decide)]
theorem xB (h:atT 1 jp ts=true) (h2:atT 1 byB (ts.drop 1)=false):eC ts=.error (190,(hd (ts.drop 1)).a):=by rw [eC,if_pos h]; simp only [bH,h2]; rfl
theorem oN (h:atT 1 jp ts=true) (h2:atT 1 byB (ts.drop 1)=true):eC ts=cM nmT lU 17 0 [] ((ts.drop 1).drop 1):=by rw [eC,if_pos h]; simp only [bH,h2,if_true]
theorem sT (h:atT 1 jq ts=false):eW ts=.ok ((false,0),ts):=by rw [eW,if_neg (by rw [h]; decide)]
theorem xD (h:atT 1 jq ts=true) (h2:¬ (hd (ts.drop 1)).k=2):eW ts=.error (190,(hd (ts.drop 1)).a):=by rw [eW,if_pos h,if_neg h2]; rfl
theorem sU (h:atT 1 jq ts=true) (h2:(hd (ts.drop 1)).k=2):eW ts=.ok ((true,decZ (hd (ts.drop 1)).t),(ts.drop 1).drop 1):=by rw [eW,if_pos h,if_pos h2]
end
theorem src_nm {ts us:List Tok} {r:List UInt8 × List UInt8} (h:gb ts=.ok (r,us)):nmT ts=true:=by
 cases hn:nmT ts with
 | true=>rfl
 | false=>rw [vZ hn] at h; cases h
theorem qn {f d:Nat} {l l':List SrcX} {ts us:List Tok} (hg:Good ts) (h:fH f d l ts=.ok (l',us)):Cuts ts us:=by
 unfold fH at h
 split at h
 · cases h
 · cases h1:gb ts with
   | error x=>simp only [h1] at h; cases h
   | ok r =>
    obtain ⟨⟨t,s⟩,vs⟩:=r
    simp only [h1] at h
    have c1:=jH hg h1
    by_cases h2:atT 1 onB vs=true
    · simp only [bH,h2,if_true] at h
      have c2:=aH c1 (by decide) h2
      cases h3:exP f 1 d (vs.drop 1) with
      | error x=>simp only [h3] at h; cases h
      | ok r =>
       obtain ⟨e,zs⟩:=r
       simp only [h3,Except.ok.injEq,Prod.mk.injEq] at h
       rw [← h.2]; exact c2.trans (cE f 1 d _ c2.2 e zs h3).1
    · simp only [bH,if_neg h2] at h; cases h
theorem oO {f d:Nat}:∀ (k:Nat) (l l':List SrcX) (ts us:List Tok),Good ts→dQ f d k l ts=.ok (l',us)→Cuts ts us
 | 0,l,l',ts,us,hg,h=>by
  simp only [dQ,Except.ok.injEq,Prod.mk.injEq] at h
  rw [← h.2]; exact Cuts.refl hg
 | k+1,l,l',ts,us,hg,h=>by
  unfold dQ at h
  split at h
  · rename_i h0
    have c1:=aH (Cuts.refl hg) (by decide) h0
    cases h1:fH f d l (ts.drop 1) with
    | error x=>simp only [h1] at h; cases h
    | ok r =>
     obtain ⟨l2,vs⟩:=r
     simp only [h1] at h
     have c2:=c1.trans (qn c1.2 h1)
     exact c2.trans (oO k l2 l' vs us c2.2 h)
  · simp only [Except.ok.injEq,Prod.mk.injEq] at h
    rw [← h.2]; exact Cuts.refl hg
theorem qo {f d:Nat} {l:List SrcX} {ts us:List Tok} (hg:Good ts) (h:eB f d ts=.ok (l,us)):Cuts ts us:=by
 unfold eB at h
 split at h
 · rename_i h0
   have c1:=aH (Cuts.refl hg) (by decide) h0
   cases h1:gb (ts.drop 1) with
   | error x=>simp only [h1] at h; cases h
   | ok r =>
    obtain ⟨⟨t,s⟩,vs⟩:=r
    simp only [h1] at h
    have c2:=c1.trans (jH c1.2 h1)
    exact c2.trans (oO _ _ _ _ _ c2.2 h)
 · simp only [Except.ok.injEq,Prod.mk.injEq] at h
   rw [← h.2]; exact Cuts.refl hg
theorem oP {l:List OrdX} {ts us:List Tok} (hg:Good ts) (h:eC ts=.ok (l,us)):Cuts ts us:=by
 unfold eC at h
 split at h
 · rename_i h0
   have c1:=aH (Cuts.refl hg) (by decide) h0
   by_cases h2:atT 1 byB (ts.drop 1)=true
   · simp only [bH,h2,if_true] at h
     have c2:=aH c1 (by decide) h2
     exact c2.trans (dG (fun _ _ _ _ hg h=>mv hg h) _ _ _ _ _ _ c2.2 h)
   · simp only [bH,if_neg h2] at h; cases h
 · simp only [Except.ok.injEq,Prod.mk.injEq] at h
   rw [← h.2]; exact Cuts.refl hg
theorem uC {li:Bool} {lim:Int} {ts us:List Tok} (hg:Good ts) (h:eW ts=.ok ((li,lim),us)):Cuts ts us:=by
 unfold eW at h
 split at h
 · rename_i h0
   have c1:=aH (Cuts.refl hg) (by decide) h0
   split at h
   · rename_i h2
     simp only [Except.ok.injEq,Prod.mk.injEq] at h
     rw [← h.2]; exact c1.step (by rw [h2]; decide)
   · cases h
 · simp only [Except.ok.injEq,Prod.mk.injEq] at h
   rw [← h.2]; exact Cuts.refl hg
end Go.WK
namespace Go.WK
open Go.RowKit
theorem kO {k:Int} {a b:List UInt8} {ts:List Tok} (h:atT k a ts=true) (hne:a≠b):atT k b ts=false:=by
 unfold atT at h ⊢
 simp only [Bool.and_eq_true,decide_eq_true_eq] at h
 rw [h.2,decide_eq_false hne,Bool.and_false]
theorem lw {g t:Nat} {cs:List Value} {D:List Chunk}:∀ k ∈ [g], ∃ c ∈ (box g t cs::D),c.fp k:=fun _ hk=>⟨_,List.mem_cons_self,List.mem_singleton.1 hk⟩
structure SR where
 s:StmtX
 us:List Tok
 bl:List Nat
 cs:List Value
theorem sV {f d:Nat} {ts:List Tok} (h:atT 1 ft ts=true):cv f d ts=gM f d (ts.drop 1):=by
 unfold cv
 rw [if_neg (cB (kO h (by decide))),if_neg (cB (kO h (by decide))),if_neg (cB (kO h (by decide))),if_neg (cB (kO h (by decide))),if_neg (cB (kO h (by decide))),if_pos h]
theorem sel_err {f d:Nat} {ts:List Tok} {x:Flt} (h:cP f d ts=.error x):gM f d ts=.error x:=by unfold gM; rw [h]
theorem sel_ok {f d:Nat} {ts us:List Tok} {q:QryX} (h:cP f d ts=.ok (q,us)):gM f d ts=.ok ({ StmtX.zero with k:=8,q:=q },us):=by unfold gM; rw [h]
theorem uD {α:Type} {K:Kd α} {bl:List Nat} {w:World} {l:List α} {v:Value} (h:K.sl bl w l v):v.oneCell'=true:=by
 obtain ⟨A,k,xs,rfl,_⟩:=h; rfl
theorem sW (v:Value) (l:List Value):allOne (v::l)=(v.oneCell' && allOne l):=rfl
theorem QK.ones {bl:List Nat} {w:World} {q:QryX} {vI vF vO:Value} {ec:List Value} (h:QK bl w q vI vF vO ec):(qCs q vI vF vO ec).length=15∧allOne (qCs q vI vF vO ec)=true:=by
 have h1:=uD h.items
 have h2:=uD h.from_
 have h3:=uD h.ord
 refine ⟨by simp [qCs,h.wh.len], ?_⟩
 simp only [qCs,ff,sW,h1,h2,h3,h.wh.ones]
 rfl
theorem Sat.selSt {cx:Cx} {H:List Chunk} {w:World} {bl:List Nat} {q:QryX} {vI vF vO:Value} {ec:List Value} (h:Sat cx (qryC bl q vI vF vO ec::H) w) :
  Sat cx (stC bl { StmtX.zero with k:=8,q:=q } ([.int .i64 8,.string .empty,.string .empty,.slice none 0 0,.slice none 0 0,.bool false,.slice none 0 0,.slice none 0 0,.int .i64 0,.int .i64 0,.int .i64 0,.string .empty,.string .empty,.string .empty,.int .i64 0,.slice none 0 0]++qCs q vI vF vO ec)::H) w:=by
 refine Sat.fuse (l:=[_]) h _ (fun hh=>?_) (fun j hj=>⟨_,List.mem_cons_self,hj⟩)
 have h1:=hh _ List.mem_cons_self
 exact ⟨⟨.slice none 0 0,.slice none 0 0,.slice none 0 0,.slice none 0 0,vI,vF,vO,[.int .i64 0,.int .i64 0,.int .i64 0,.string .empty,.string .empty,.string .empty,.int .i64 0,.slice none 0 0],ec,rfl,
  colKd.sl_nil _ _,nameKd.sl_nil _ _,rowKd.sl_nil _ _,setKd.sl_nil _ _,⟨none,0,[],rfl,Nat.le_refl _,Rd.nil _ _,(fun _ h=>by cases h),rfl⟩,h1.1⟩,h1.2⟩
section ops
variable {m:Bool} {cx:Cx} {fs:aW} {H:List Chunk} {Q:co} {ops:Array Oper} {rest:List Oper} {g:Option (Nat × Bool)} {d:Nat} {ty:TypeId} {pos:String} {af:Array Edge}
theorem we {x:Operand} {t bt b i z:Nat} {cs:List Value} (hl:cs.length=z) (ht:cF cx.P t=some true) (hz:szB cx.P t=some z) (hn:Nth H i (box b bt cs)) (hok:okS cx.n ops fs d g=true) (hx:ev fs x=some (.pointer (some ⟨b,0,none⟩)))
  (k:TriX m cx ops ((d,.agg cs.toArray)::fs) H rest Q):TriX m cx ops fs H (⟨some d,.load t x,ty,pos,af,g⟩::rest) Q :=
 aS ht hz hn hok hx (vs:=cs) (by rw [List.drop_zero]; exact List.take_of_length_le (Nat.le_of_eq hl)) hl k
theorem dK {x y:Operand} {t bt b i z:Nat} {us cs:List Value} (hu:us.length=z) (hl:cs.length=z) (h1:allOne cs=true) (hz:szB cx.P t=some z) (hn:Nth H i (box b bt us)) (hok:okW ops fs g=true) (hx:ev fs x=some (.pointer (some ⟨b,0,none⟩))) (hy:ev fs y=some (.agg cs.toArray))
  (k:TriX false cx ops fs (iE H i (box b bt cs)) rest Q):TriX false cx ops fs H (⟨none,.store t x y,ty,pos,af,g⟩::rest) Q :=
 aC hz hn hok hx hy (vs:=cs) rfl hl (by omega) h1 (by rw [sM us cs (by rw [hu,hl])]; exact k)
end ops
def TriG (cx:Cx) (fs:aW) (H:List Chunk) (c:Code) (QG:Exit→Act→World→Prop):Prop:=∀ a w,Has cx.n cx.ds fs a→Sat cx H w→c.wp cx.P QG a w
def gQ (cx:Cx) (K:aW→List Chunk→Prop) (QG:Exit→Act→World→Prop):co:=fun e fs H=>match e with
 | .normal=>K fs H
 | e=>∀ a w,Has cx.n cx.ds fs a→Sat cx H w→QG e a w
section
variable {cx:Cx} {fs:aW} {H:List Chunk} {QG:Exit→Act→World→Prop}
theorem oQ {x y:Code} (h:Tri cx fs H x (gQ cx (fun fs H=>TriG cx fs H y QG) QG)):TriG cx fs H (.seq x y) QG:=fun a w ha hw=>by
 refine wp_seq (Go.wp_mono (h a w ha hw) fun e a' w' ⟨fs',H',h1,h2,h3⟩=>?_)
 cases e<;>exact h3 a' w' h1 h2
theorem sX {c:Code} {Q:co} (h:Tri cx fs H c Q) (hq:∀ e fs' H',Q e fs' H'→∀ a w,Has cx.n cx.ds fs' a→Sat cx H' w→QG e a w):TriG cx fs H c QG:=fun a w ha hw =>
 Go.wp_mono (h a w ha hw) fun e a' w' ⟨fs',H',h1,h2,h3⟩=>hq e fs' H' h3 a' w' h1 h2
theorem mY {K:aW→List Chunk→Prop} (h:K fs H):gQ cx K QG .normal fs H:=h
theorem gQ_ret {K:aW→List Chunk→Prop} (h:∀ a w,Has cx.n cx.ds fs a→Sat cx H w→QG .ret a w):gQ cx K QG .ret fs H:=h
theorem uE {id d fid:Nat} {ty ty2:TypeId} {pos pos2:String} {af af2:Array Edge} {ys:List Operand} {vs:List Value} {y:Code} (hd:Nat.blt d cx.n=true) (hy:evs fs ys=some vs)
  (k:TriG { cx with ds:={ target:=.fn (.func fid) vs.toArray,args:=#[] }::cx.ds } ((d,.func (.func fid) #[] vs.toArray)::fs) H y QG) :
  TriG cx fs H (.seq (.region id #[⟨some d,.makeFunc (.func fid) #[] ys.toArray,ty,pos,af,none⟩,⟨none,.defer ⟨.value (.tmp d), #[], #[]⟩,ty2,pos2,af2,none⟩] false) y) QG:=fun a w ha hw=>by
 refine wp_seq (wp_region_lit ?_)
 have h1:Has cx.n cx.ds ((d,.func (.func fid) #[] vs.toArray)::fs) (a.put (some d) (.func (.func fid) #[] vs.toArray)):=ha.put hd _
 have e1:(execOp a.eval ⟨some d,.makeFunc (.func fid) #[] ys.toArray,ty,pos,af,none⟩).run cx.P w=.ok (.value (.func (.func fid) #[] vs.toArray)) w:=by
  simp [execOp,Instr.makeFunc,ha.evals hy]
 unfold wpList
 rw [if_pos (by rfl)]
 left
 unfold Oper.wp
 rw [e1]
 show wpList cx.P _ _ _ (a.put (some d) (.func (.func fid) #[] vs.toArray)) w
 unfold wpList
 rw [if_pos (by rfl)]
 left
 have e2:(execOp (a.put (some d) (.func (.func fid) #[] vs.toArray)).eval ⟨none,.defer ⟨.value (.tmp d), #[], #[]⟩,ty2,pos2,af2,none⟩).run cx.P w=.ok (.defer { target:=.fn (.func fid) vs.toArray,args:=#[] }) w:=by
  have e3:(a.put (some d) (.func (.func fid) #[] vs.toArray)).eval (.tmp d)=.func (.func fid) #[] vs.toArray:=h1.eval (x:=.tmp d) (dP _ _ _)
  simp [execOp,resolve,e3,Deferred.ofValue]
 unfold Oper.wp
 rw [e2]
 simp only [Oper.upon]
 refine wpList_nil ?_
 exact k _ w ⟨by simp [Act.put,ha.ds],h1.size,h1.at_⟩ ⟨hw.chg,hw.holds,hw.fresh,hw.apart⟩
end
theorem uF {P:Program} {fn:Func} {f:FuncId} {c:Code} {args:List Value} {n:Nat} {w:World} {R:Ending→World→Prop} {lent:List Nat} {H:List Chunk} (hf:P.funcs[f]? = some fn) (hb:fn.body=some c) (hn:fn.ntmps=n) (ha:Nat.ble args.length n=true)
  (hs:Sat ⟨P,n,[],w,lent⟩ H w) (h:TriG ⟨P,n,[],w,lent⟩ (argS 0 args) H c (bodyPostD P fn R)):Calls P f args.toArray w R:=by
 have hle:args.length≤n:=Nat.le_of_ble_eq_true ha
 refine calls_of_wp_defers hf hb ?_
 have hh:Has n [] (argS 0 args) { tmps:=args.toArray++Array.replicate (fn.ntmps - args.toArray.size) undef,defers:=[] }:=by
  refine ⟨rfl,by simp [hn]; omega,fun d v hd=>?_⟩
  obtain ⟨_,h2⟩:=mK args 0 d v hd
  have hlt:d < args.length:=by have:=(List.getElem?_eq_some_iff.1 h2).1; omega
  rw [Array.getElem?_append_left (by simpa using hlt)]
  simpa using h2
 exact h _ w hh hs
theorem lV {P:Program} {fn:Func} {w:World} {t t2:TypeId} {x u:Tmp} {b b2 bt bt2 z:Nat} {cs:List Value} {v:Value} {tmps:Array Value} (hr:fn.results = #[.cell x t,.cell u t2]) (hx:tmps.getD x undef=.pointer (some ⟨b,0,none⟩)) (hu:tmps.getD u undef=.pointer (some ⟨b2,0,none⟩))
  (ht:cF P t=some true) (hz:szB P t=some z) (ht2:cF P t2=some false) (hb:w.heap[b]? = some (.cells cs.toArray bt (0,0))) (hl:cs.length=z) (hb2:w.heap[b2]? = some (.cells #[v] bt2 (0,0))) :
  (results fn tmps).run P w=.ok (.tuple #[.agg cs.toArray,v]) w:=by
 subst hl
 have hx':tmps[x]?.getD undef=.pointer (some ⟨b,0,none⟩):=by simpa using hx
 have hu':tmps[u]?.getD undef=.pointer (some ⟨b2,0,none⟩):=by simpa using hu
 have hc:∀ j v,cs[j]? = some v→w.cell? ((⟨b,0,none⟩:Addr).add j)=some v:=mO hb (z:=cs.length) (by simp)
 have hc2:w.cell? ⟨b2,0,none⟩=some v:=by rw [cell_of_row w b2 0 _ bt2 (0,0) hb2]; rfl
 simp [results,hr,hx',hu',asAddr,loadVar,ez ht,ez ht2,dq hz,run_loadCells_list w ⟨b,0,none⟩ cs hc,hc2]
theorem o_assert {m:Bool} {cx:Cx} {fs:aW} {H:List Chunk} {Q:co} {ops:Array Oper} {rest:List Oper} {g:Option (Nat × Bool)} {d:Nat} {ty:TypeId} {pos:String} {af:Array Edge} {x:Operand} {t u:TypeId} {v r:Value} (hr:∀ w,(Instr.typeAssert v t u true).run cx.P w=.ok r w) (hok:okS cx.n ops fs d g=true) (hx:ev fs x=some v)
  (k:TriX m cx ops ((d,r)::fs) H rest Q):TriX m cx ops fs H (⟨some d,.typeAssert x t u true,ty,pos,af,g⟩::rest) Q :=
 bd _ hok (fun a w ha _=>by simp [execOp,ha.eval hx,hr]) k
end Go.WK
namespace Go.WK
open Go.RowKit Lib
theorem uG (s:List UInt8) (he:(cf s).e=0):((cf s).k=1∨(cf s).k=2∨(cf s).k=3∨(cf s).k=4)∧(cf s).t.length≤max s.length 64∧((cf s).k=2→∃ n,parseIntB 64 (cf s).t=.ok n):=by
 unfold cf at he ⊢
 by_cases h1:dx (s.getD 0 0)=true
 · rw [if_pos h1]
   exact ⟨.inl rfl,by simp only [xu,List.length_take]; omega,fun h=>by cases h⟩
 rw [if_neg h1] at he ⊢
 by_cases h2:be (s.getD 0 0)=true
 · rw [if_pos h2] at he ⊢
   by_cases h3:fY s (bO be s)
   · rw [if_pos h3] at he; cases he
   · rw [if_neg h3]
     exact ⟨.inr (.inl rfl),by simp only [List.length_take]; omega,fun _=>((ir h2).2 h3).1⟩
 rw [if_neg h2] at he ⊢
 by_cases h4:s.getD 0 0=39
 · rw [if_pos h4] at he ⊢
   cases hq:quo (s.drop 1) with
   | none=>simp only [hq] at he; cases he
   | some r =>
    simp only [hq] at he ⊢
    by_cases h5:64 < r.1.length
    · rw [if_pos h5] at he; cases he
    · rw [if_neg h5]
      exact ⟨.inr (.inr (.inl rfl)),by simp only; omega,fun h=>by cases h⟩
 rw [if_neg h4] at he ⊢
 by_cases h6:fx s=0
 · rw [if_pos h6] at he; cases he
 · rw [if_neg h6]
   exact ⟨.inr (.inr (.inr rfl)),by simp only [List.length_take]; omega,fun h=>by cases h⟩
theorem xE (f:Nat):∀ (a:Nat) (r:List UInt8) (ts:List Tok),ml f a r=.ok ts→r.length≤4096→Good ts∧∀ t ∈ ts,TokOk t:=by
 induction f with
 | zero=>intro a r ts h; cases h
 | succ f ih =>
  intro a r ts h hr
  cases r with
  | nil =>
   cases h
   exact ⟨.inl rfl,fun t ht=>by obtain rfl:=List.mem_singleton.1 ht; exact ⟨by simp,fun h=>by cases h⟩⟩
  | cons c l =>
   unfold ml at h
   split at h
   · cases h
   · rename_i he
     have he:=Decidable.not_not.1 he
     obtain ⟨_,h2,h3⟩:=uG (c::l) he
     cases hx:ml f (a+(cf (c::l)).n+gap ((c::l).drop (cf (c::l)).n)) (((c::l).drop (cf (c::l)).n).drop (gap ((c::l).drop (cf (c::l)).n))) with
     | error e=>rw [hx] at h; cases h
     | ok ts' =>
      rw [hx] at h
      cases h
      obtain ⟨k1,k2⟩:=ih _ _ _ hx (by simp only [List.length_drop]; omega)
      refine ⟨.inr k1,fun t ht=>?_⟩
      rcases List.mem_cons.1 ht with rfl | ht
      · refine ⟨by have:=h2; simp only; omega,fun hk=>?_⟩
        obtain ⟨n,hn⟩:=h3 hk
        show parseIntB 64 _=.ok (decZ _)
        simp only [decZ,hn]
      · exact k2 t ht
theorem oR {s:List UInt8} {ts:List Tok} (h:gz s=.ok ts):Good ts∧(∀ t ∈ ts,TokOk t)∧ts.length≤4097:=by
 have h1:=rj h
 have h2:=xE _ _ _ _ h1.2 (by rw [List.length_drop]; omega)
 have h3:=tks_le h rfl
 exact ⟨h2.1,h2.2,by omega⟩
def stR:Except Flt StmtX→StmtX
 | .ok s=>s
 | .error _=>StmtX.zero
def errS:Except Flt StmtX→Value
 | .ok _=>.nilIface
 | .error x=>.iface 55 (.agg #[.int .i64 x.1,.int .i64 x.2])
def ParsT (w:World) (r:Except Flt StmtX):Ending→World→Prop:=Turn w [] (fun j:List Nat × List Value=>.tuple #[.agg j.2.toArray,errS r]) (fun j=>[stC j.1 (stR r) j.2]) (fun j=>j.2.length=31∧allOne j.2=true)
abbrev zSt:List Value:=[.int .i64 0,.string .empty,.string .empty,.slice none 0 0,.slice none 0 0,.bool false,.slice none 0 0,.slice none 0 0,.int .i64 0,.int .i64 0,.int .i64 0,.string .empty,.string .empty,.string .empty,.int .i64 0,.slice none 0 0,.bool false,.bool false,.slice none 0 0,.slice none 0 0,.int .i64 0,.int .i64 0,.int .i64 0,.string .empty,.string .empty,.string .empty,.int .i64 0,.slice none 0 0,.slice none 0 0,.bool false,.int .i64 0]
theorem sY (bl:List Nat) (w:World):ExK bl w Ex.zero [.int .i64 0,.int .i64 0,.int .i64 0,.string .empty,.string .empty,.string .empty,.int .i64 0,.slice none 0 0]:=⟨none,0,[],rfl,Nat.le_refl _,Rd.nil _ _,(fun _ h=>by cases h),rfl⟩
theorem stK_zero (bl:List Nat) (w:World):StK bl w StmtX.zero zSt :=
 ⟨.slice none 0 0,.slice none 0 0,.slice none 0 0,.slice none 0 0,.slice none 0 0,.slice none 0 0,.slice none 0 0,[.int .i64 0,.int .i64 0,.int .i64 0,.string .empty,.string .empty,.string .empty,.int .i64 0,.slice none 0 0],[.int .i64 0,.int .i64 0,.int .i64 0,.string .empty,.string .empty,.string .empty,.int .i64 0,.slice none 0 0],rfl,
  colKd.sl_nil _ _,nameKd.sl_nil _ _,rowKd.sl_nil _ _,setKd.sl_nil _ _,sY _ _,itemKd.sl_nil _ _,srcKd.sl_nil _ _,sY _ _,ordKd.sl_nil _ _⟩
theorem Sat.zeroSt {cx:Cx} {H:List Chunk} {w:World} (h:Sat cx H w):Sat cx (stC [] StmtX.zero zSt::H) w :=
 h.fuse (l:=[]) _ (fun _=>⟨stK_zero _ _,fun k hk=>by cases hk⟩) (fun k hk=>by cases hk)
theorem row_some {A:Option Addr} {n c e z m:Nat} {xs:List Value} {w:World} (h:(row (.slice A n c) e z m xs).holds w) (hn:m=n) (hp:0 < xs.length):∃ g,A=some ⟨g,0,none⟩∧n≤c:=by
 subst hn
 have ho:w.ownsRow 0 e z (.slice A m c) m xs:=h
 obtain ⟨gg,cur,rfl,_,hnc,_⟩:=sr ho hp
 exact ⟨gg,rfl,hnc⟩
theorem pS0 (g k:Nat) (T:List Tok):pSl ⟨g,0,none⟩ k T T=.slice (some ⟨g,0,none⟩) T.length k:=by
 unfold pSl
 rw [Nat.sub_self,Nat.zero_mul,Nat.sub_zero]
 rfl
theorem oS {s:List UInt8} {x:Flt} (h:gz s=.error x):cr s=.error x:=by unfold cr; rw [h]
theorem uH {s:List UInt8} {ts:List Tok} {x:Flt} (h:gz s=.ok ts) (h2:cv (8 * ts.length+8) 0 ts=.error x):cr s=.error x:=by unfold cr; rw [h]; simp only [oM,h2]
theorem uI {s:List UInt8} {ts us:List Tok} {st:StmtX} (h:gz s=.ok ts) (h2:cv (8 * ts.length+8) 0 ts=.ok (st,us)):cr s=if (hd (if atT 4 [59] us=true then us.drop 1 else us)).k=5 then .ok st else .error (190,(hd (if atT 4 [59] us=true then us.drop 1 else us)).a):=by unfold cr; rw [h]; simp only [oM,h2]
end Go.WK
namespace Go.WK
open Go.RowKit
theorem row_suf {w:World} {a:Addr} {T us:List Tok} (h:Rd w (some a) (toksV T)) (hu:us <:+ T):Rd w (some (a.add ((T.length - us.length) * 3))) (toksV us):=by
 intro j u hj
 obtain ⟨a1,ha,hc⟩:=h ((T.length - us.length) * 3+j) u (by rw [← List.getElem?_drop,jZ,oH hu]; exact hj)
 cases ha
 exact ⟨_,rfl,by rw [ja]; exact hc⟩
end Go.WK
namespace Go.WK
open Go.RowKit
theorem app_str {P:Program} {w:World} {t u ty e:TypeId} {i:TypeInfo} (ht:P.underlying t=some (.slice e)) (hu:P.underlying u=some .string) (hi:P.info? e=some i) (hz:i.zero=some (.int .u8 0)) (hsize:i.size=1) (hby:i.bytes=1)
  {v:Value} {n:Nat} {xs:List Value} (hown:w.ownsRow 0 e 1 v n xs) (s:ByteArray) (h63:n+s.size≤maxLen) (hbytes:n+s.size≤140737488355328) :
  ∃ v' w',(Builtin.append_ #[t,u] ty #[v,.string s]).run P w=.ok v' w'∧w'.ownsRow 0 e 1 v' (n+s.size) (xs++Lib.strCells s)∧w.grownBy w' v.ownBlock∧(v'.ownBlock=v.ownBlock∨v'.ownBlock=some w.heap.size):=by
 obtain ⟨v',w',hr,ho,hg,_⟩:=Lib.run_append_own_string (P:=P) w 0 t u ty e i ht hu hi hz hsize hby v n xs hown s h63 hbytes (Nat.zero_le _)
 refine ⟨v',w',hr,ho,hg, ?_⟩
 have hsmall:n+s.size≤9223372036854775807:=by simp only [maxLen] at h63; omega
 have hxl:xs.length=n:=by simpa using hown.1
 rcases hown.2 with ⟨rfl,rfl⟩ | ⟨g,cap,cur,rfl,hbg,hgg,hnc,hcm,hcs,htake⟩
 · by_cases hm:s.size=0
   · have hf:=Lib.run_firstCells_string (P:=P) w 1 s
     rw [hm] at hf
     have hr2:(Builtin.append_ #[t,u] ty #[.slice none 0 0,.string s]).run P w=.ok (.slice none 0 0) w:=by
      simp [Builtin.append_,run_underlying ht,run_underlying hu,sizeOf,typeInfo,hi,hsize,Builtin.lenOf,hm,hf]
     rw [hr2] at hr
     cases hr
     exact .inl rfl
   · have hr2:=run_append_nil_string (P:=P) w t u ty e i (.int .u8 0) ht hu hi hz s (by omega) (by omega) (by rw [hby]; omega)
     rw [hr2] at hr
     cases hr
     exact .inr rfl
 · by_cases hroom:n+s.size≤cap
   · have hcs':cur.size=cap:=by simpa using hcs
     have hr2:=Lib.run_append_room_string (P:=P) w t u ty e i ht hu hi hsize g n cap cur hgg s hroom (by omega)
     rw [hr2] at hr
     cases hr
     exact .inl rfl
   · have holds:∀ j u,xs[j]? = some u→w.cell? ((⟨g,0,none⟩:Addr).add j)=some u:=hown.cells (g:=g) rfl
     have hr2:=Lib.run_append_grow_string (P:=P) w t u ty e i (.int .u8 0) ht hu hi hz ⟨g,0,none⟩ n cap xs (by rw [hsize]; simpa using hxl) holds s (by omega) (by omega) (by rw [hby]; exact growslice_fits (by omega) (by omega))
     rw [hr2] at hr
     cases hr
     exact .inr rfl
theorem uJ (l:List UInt8):Lib.strCells (B l)=dw l:=by
 simp [Lib.strCells,dw,kq]
section ops
variable {cx:Cx} {fs:aW} {H:List Chunk} {Q:co} {ops:Array Oper} {rest:List Oper} {g:Option (Nat × Bool)} {d:Nat} {ty:TypeId} {pos:String} {af:Array Edge}
theorem xG {x y:Operand} {t u e:TypeId} {i n c:Nat} {A:Option Addr} {xs:List Value} {s:List UInt8} (ht:cx.P.underlying t=some (.slice e)) (hu:cx.P.underlying u=some .string) (hi:(cx.P.info? e).map (fun i=>(i.zero,i.size,i.bytes))=some (some (.int .u8 0),1,1))
  (hn:Nth H i (row (.slice A n c) e 1 n xs)) (hok:okS cx.n ops fs d g=true) (hx:ev fs x=some (.slice A n c)) (hy:ev fs y=some (.string (B s))) (hb:n+s.length≤70368744177664)
  (k:∀ A' c',TriX false cx ops ((d,.slice A' (n+s.length) c')::fs) (iE H i (row (.slice A' (n+s.length) c') e 1 (n+s.length) (xs++dw s))) rest Q):TriX false cx ops fs H (⟨some d,.call ⟨.builtin .append, #[x,y], #[t,u]⟩,ty,pos,af,g⟩::rest) Q :=
 fM (J:=Option Addr × Nat) (fun j=>.slice j.1 (n+s.length) j.2) (fun j=>iE H i (row (.slice j.1 (n+s.length) j.2) e 1 (n+s.length) (xs++dw s))) (fun _=>True) (ee hok) (fun e he=>by cases he; exact hM hok)
  (fun a w ha hw=>by
   obtain ⟨ti,hi0,hz,hsz,hby⟩:=info_parts hi
   have hown:w.ownsRow 0 e 1 (.slice A n c) n xs:=hw.holds _ hn.mem
   obtain ⟨v',w',hrun,ho,hg,hb2⟩:=app_str (P:=cx.P) (ty:=ty) ht hu hi0 hz hsz hby hown (B s) (by rw [dC]; unfold maxLen; omega) (by rw [dC]; omega)
   rw [dC,uJ] at ho
   obtain ⟨A',c',rfl⟩:=so ho
   refine ⟨(A',c'),w',.inl (dt (xs:=[x,y]) ha (vs:=[.slice A n c,.string (B s)]) (by simp [evs,hx,hy]) (by simp [builtin,hrun])), ?_,trivial⟩
   refine hw.change hn _ ho hg.os hg.tape hg.output hg.size (fun k hk hf=>hg.block k hk (fun e=>hf e.symm)) (fun k hk=>?_)
   rcases hb2 with hb2 | hb2
   · left; show (Value.slice A n c).ownBlock=some k; rw [← hb2]; exact hk
   · right; have hk':(Value.slice A' (n+s.length) c').ownBlock=some k:=hk
     rw [hb2] at hk'; cases hk'; exact Nat.le_refl _) (fun j _=>k j.1 j.2)
end ops
abbrev prD (pb:Nat) (A:Option Addr) (c:Nat) (l:List UInt8) (d m:Int):List Chunk:=[box pb 67 [.slice A l.length c,.int .i64 d,.int .i64 m],row (.slice A l.length c) 5 1 l.length (dw l)]
def prL (pb:Nat) (A:Option Addr):List Nat:=pb::blkA A
def PrT (w:World) (pb:Nat) (A:Option Addr) (l:List UInt8) (d m:Int):Ending→World→Prop:=Turn w (prL pb A) (fun _:Option Addr × Nat=>.tuple #[]) (fun j=>prD pb j.1 j.2 l d m) (fun _=>True)
def iy (w:World) (pb:Nat) (A:Option Addr) (c:Nat) (l:List UInt8) (d m:Int):Prop:=Sat ⟨default,0,[],w,prL pb A⟩ (prD pb A c l d m) w
theorem prD1 (pb:Nat) (A:Option Addr) (c:Nat) (l:List UInt8) (d m:Int):∀ x ∈ prD pb A c l d m,∀ k,x.fp k→k ∈ prL pb A:=fun x hx k hk=>by
 rcases List.mem_cons.1 hx with rfl | hx
 · have:k=pb:=hk
   rw [this]; exact List.mem_cons_self
 · obtain rfl:=List.mem_singleton.1 hx
   exact List.mem_cons_of_mem _ (wa hk)
theorem prD2 (pb:Nat) (A:Option Addr) (c:Nat) (l:List UInt8) (d m:Int):∀ k ∈ prL pb A, ∃ x ∈ prD pb A c l d m,x.fp k:=fun k hk=>by
 rcases List.mem_cons.1 hk with rfl | hk
 · exact ⟨_,List.mem_cons_self,rfl⟩
 · exact ⟨_,List.mem_cons_of_mem _ List.mem_cons_self,eh hk⟩
theorem pr_notin {P:Program} {n:Nat} {w w1:World} {L:List Nat} {H:List Chunk} {pb:Nat} {A:Option Addr} {c:Nat} {l:List UInt8} {d m:Int} (h:Sat ⟨P,n,[],w,L⟩ H w1) (hm:∀ x ∈ prD pb A c l d m,x ∈ H):∀ k,k < w.heap.size→k ∉ L→k ∉ prL pb A:=fun k h1 h2 hk=>by
 obtain ⟨x,hx,hf⟩:=prD2 pb A c l d m k hk
 rcases h.fresh x (hm x hx) k hf with h3 | h3
 · have h3:w.heap.size≤k:=h3
   omega
 · exact h2 h3
end Go.WK
namespace Go.WK
open Go.RowKit
theorem qp (ss:List (List UInt8)) (i:Nat) (h:i < ss.length):(ss.take (i+1)).flatten=(ss.take i).flatten++ss.getD i []:=by
 rw [ur ss i h]; simp
theorem flat_le (ss:List (List UInt8)) (i:Nat) (h:i < ss.length):(ss.take i).flatten.length+(ss.getD i []).length≤ss.flatten.length:=by
 have e:=qp ss i h
 have e2:ss.flatten=(ss.take (i+1)).flatten++(ss.drop (i+1)).flatten:=by rw [← List.flatten_append,List.take_append_drop]
 rw [e2,e]; simp only [List.length_append]; omega
theorem prD_app {pb:Nat} {A:Option Addr} {c:Nat} {l s:List UInt8} {d m:Int} {cx:Cx} {H:List Chunk} {w:World} (h:Sat cx (box pb 67 [.slice A (l.length+s.length) c,.int .i64 d,.int .i64 m]::row (.slice A (l.length+s.length) c) 5 1 (l.length+s.length) (dw l++dw s)::H) w):Sat cx (prD pb A c (l++s) d m++H) w:=by
 simp only [prD,List.length_append,jn]
 exact h
theorem bZ {pb:Nat} {A:Option Addr} {c:Nat} {l l':List UInt8} {d d' m m':Int} {cx:Cx} {w:World} (h1:l=l') (h2:d=d') (h3:m=m') (h:Sat cx (prD pb A c l d m) w):Sat cx (prD pb A c l' d' m') w:=by
 subst h1 h2 h3; exact h
theorem bf {cx:Cx} {c:Chunk} {H:List Chunk} {w:World} {pb:Nat} {A:Option Addr} {cc:Nat} {l:List UInt8} {d m:Int} (h:Sat cx (c::H) w) (hin:∀ x ∈ prD pb A cc l d m,x ∈ H) {k:Nat} (hk:c.fp k):k ∉ prL pb A:=fun hm=>by
 obtain ⟨x,hx,hf⟩:=prD2 pb A cc l d m k hm
 exact (List.pairwise_cons.1 h.apart).1 x (hin x hx) k hk hf
section ops
variable {cx:Cx} {fs:aW} {H:List Chunk} {Q:co} {ops:Array Oper} {rest:List Oper} {g:Option (Nat × Bool)} {dd:Nat} {ty:TypeId} {pos:String} {af:Array Edge}
theorem aI {f:Operand} {xs:List Operand} {ats:Array TypeId} {fid:FuncId} {first cap:List Value} {vs:List Value} {pb:Nat} {A:Option Addr} {c:Nat} {l l':List UInt8} {d m d' m':Int} (H1:List Chunk) (hH:H=H1++prD pb A c l d m) (hok:okS cx.n ops fs dd g=true)
  (hf:ev fs f=some (.func (.func fid) first.toArray cap.toArray)) (hxs:evs fs xs=some vs) (hcf:∀ args w,(callFunc fid args).run cx.P w=.ok (.enter fid args) w)
  (hc:∀ w,Sat cx H w→iy w pb A c l d m→(∀ x ∈ prD pb A c l d m,x ∈ H)→Calls cx.P fid (first++vs++cap).toArray w (PrT w pb A l' d' m'))
  (k:∀ A' c',TriX false cx ops ((dd,.tuple #[])::fs) (H1++prD pb A' c' l' d' m') rest Q):TriX false cx ops fs H (⟨some dd,.call ⟨.value f,xs.toArray,ats⟩,ty,pos,af,g⟩::rest) Q:=by
 have hin:∀ x ∈ prD pb A c l d m,x ∈ H:=fun x hx=>by rw [hH]; exact List.mem_append_right _ hx
 refine gK (J:=Option Addr × Nat) (val:=fun _=>.tuple #[]) (D':=fun j=>prD pb j.1 j.2 l' d' m') (Pu:=fun _=>True) H1 (prD pb A c l d m) [] (prL pb A) (by rw [hH]; rfl) hok hf hxs hcf (prD1 pb A c l d m) (prD2 pb A c l d m) (fun w h1 h2=>hc w h1 h2 hin) (fun j _=>?_)
 exact k j.1 j.2
end ops
theorem ExsK.at {bl:List Nat} {w:World}:∀ {l:List Ex} {xs:List Value} (i:Nat),ExsK bl w l xs→i < l.length→∃ cs,(xs.drop (i * 8)).take 8=cs∧ExK bl w (l.getD i Ex.zero) cs
 | [],_,i,_,hi=>by simp at hi
 | e::es,_,i,h,hi=>by
  obtain ⟨y,ys,rfl,h2,h3⟩:=h
  have hy:=h2.len
  cases i with
  | zero =>
   refine ⟨y, ?_,h2⟩
   rw [Nat.zero_mul,List.drop_zero]
   exact List.take_left' hy
  | succ i =>
   obtain ⟨cs,k1,k2⟩:=ExsK.at i h3 (by simpa using hi)
   refine ⟨cs, ?_,by simpa using k2⟩
   rw [show (i+1) * 8=y.length+i * 8 by omega,List.drop_length_add_append]
   exact k1
theorem ExK.op {bl:List Nat} {w:World} {e:Ex} {cs:List Value} (h:ExK bl w e cs):cs[0]? = some (.int .i64 e.o):=by
 cases e with
 | mk o v t n c as=>obtain ⟨A,k,xs,rfl,_⟩:=h; rfl
theorem kP {xs:List Value} {i:Nat} {cs:List Value} (h:(xs.drop (i * 8)).take 8=cs) {v:Value} (hv:cs[0]? = some v):xs[i * 8+0]? = some v:=by
 rw [← h,List.getElem?_take,if_pos (by decide),List.getElem?_drop] at hv
 exact hv
section
variable {o c:Int} {v:Val} {t n:List UInt8} {as:List Ex}
theorem cV {e:Ex} {low:Int} (h:¬ lvl e.o < low):e.txt low=e.core:=by unfold Ex.txt fZ; rw [if_neg h]
theorem kQ {e:Ex} {low:Int} (h:lvl e.o < low):e.txt low=(40::(e.core.1++[41]),e.core.2+1):=by unfold Ex.txt fZ; rw [if_pos h]
theorem lvl_pos (o:Int):1≤lvl o:=by unfold lvl; repeat' split<;>omega
theorem core_1 (h:o=1):Ex.core (.mk o v t n c as)=((prV v).1,0):=by rw [Ex.core,coreT,if_pos h]
theorem core_2 (h:o=2):Ex.core (.mk o v t n c as)=(if t=[] then n else t++(46::n),0):=by rw [Ex.core,coreT,if_neg (by omega),if_pos h]
theorem core_5 (h:o=5) (ha:0 < as.length):Ex.core (.mk o v t n c as)=([110,111,116,32]++((as.getD 0 Ex.zero).txt 3).1,((as.getD 0 Ex.zero).txt 3).2+1):=by
 rw [Ex.core,coreT,if_neg (by omega),if_neg (by omega),if_pos h,jF ha]
theorem core_4 (h:o=4) (ha:0 < as.length):Ex.core (.mk o v t n c as)=(45::((if (as.getD 0 Ex.zero).o=4 then [32] else [])++((as.getD 0 Ex.zero).txt 7).1),((as.getD 0 Ex.zero).txt 7).2+1):=by
 rw [Ex.core,coreT,if_neg (by omega),if_neg (by omega),if_neg (by omega),if_pos h,jF ha,cores_op ha]
theorem core_6 (h:o=6) (ha:0 < as.length):Ex.core (.mk o v t n c as)=(((as.getD 0 Ex.zero).txt 5).1++[32,105,115,32,110,117,108,108],((as.getD 0 Ex.zero).txt 5).2):=by
 rw [Ex.core,coreT,if_neg (by omega),if_neg (by omega),if_neg (by omega),if_neg (by omega),if_pos h,jF ha]
theorem core_7 (h:o=7) (ha:0 < as.length):Ex.core (.mk o v t n c as)=(((as.getD 0 Ex.zero).txt 5).1++[32,105,115,32,110,111,116,32,110,117,108,108],((as.getD 0 Ex.zero).txt 5).2):=by
 rw [Ex.core,coreT,if_neg (by omega),if_neg (by omega),if_neg (by omega),if_neg (by omega),if_neg (by omega),if_pos h,jF ha]
theorem core_b (h1:o≠1) (h2:o≠2) (h4:o≠4) (h5:o≠5) (h6:o≠6) (h7:o≠7) (ha:1 < as.length):Ex.core (.mk o v t n c as)=(((as.getD 0 Ex.zero).txt (if lvl o=4 then 5 else lvl o)).1++((32::(jE o++[32]))++((as.getD 1 Ex.zero).txt (lvl o+1)).1),max ((as.getD 0 Ex.zero).txt (if lvl o=4 then 5 else lvl o)).2 ((as.getD 1 Ex.zero).txt (lvl o+1)).2):=by
 rw [Ex.core,coreT,if_neg h1,if_neg h2,if_neg h5,if_neg h4,if_neg h6,if_neg h7,jF (show 0 < as.length by omega),jF ha]
end
def nM:List Opr:=orO++(andO++(cmpO++(sumO++mulO)))
theorem op_hit:∀ i,i < 14→jE (nM.getD i Tok.zero).a=(nM.getD i Tok.zero).t:=by decide
theorem xH {o:Int} {i:Nat} (h:∀ j,j < i→(nM.getD j Tok.zero).a≠o) (h1:(nM.getD i Tok.zero).a≠o):∀ j,j < i+1→(nM.getD j Tok.zero).a≠o:=fun j hj=>by
 rcases Nat.lt_or_ge j i with h2 | h2
 · exact h j h2
 · have e:j=i:=by omega
   rw [e]; exact h1
theorem op_miss {o:Int} (h:∀ i,i < 14→(nM.getD i Tok.zero).a≠o):jE o=[]:=by
 have k0:=h 0 (by decide); have k1:=h 1 (by decide); have k2:=h 2 (by decide); have k3:=h 3 (by decide); have k4:=h 4 (by decide)
 have k5:=h 5 (by decide); have k6:=h 6 (by decide); have k7:=h 7 (by decide); have k8:=h 8 (by decide); have k9:=h 9 (by decide)
 have k10:=h 10 (by decide); have k11:=h 11 (by decide); have k12:=h 12 (by decide); have k13:=h 13 (by decide)
 simp only [nM,orO,andO,cmpO,sumO,mulO,List.getD,List.cons_append,List.nil_append,List.getElem?_cons_zero,List.getElem?_cons_succ,Option.getD_some] at k0 k1 k2 k3 k4 k5 k6 k7 k8 k9 k10 k11 k12 k13
 unfold jE
 rw [if_neg (Ne.symm k0),if_neg (Ne.symm k1),if_neg (Ne.symm k2),if_neg (Ne.symm k3),if_neg (Ne.symm k4),if_neg (Ne.symm k5),if_neg (Ne.symm k6),if_neg (Ne.symm k7),if_neg (Ne.symm k8),if_neg (Ne.symm k9),if_neg (Ne.symm k10),if_neg (Ne.symm k11),if_neg (Ne.symm k12),if_neg (Ne.symm k13)]
def je (l:List UInt8) (m:Int):List UInt8 × Int:=if 24 < m then ([],191) else if 4096 < l.length then ([],3) else (l,0)
end Go.WK
namespace Go.WK
open Go.RowKit Go.Lib
section ops
variable {m:Bool} {cx:Cx} {fs:aW} {H:List Chunk} {Q:co} {ops:Array Oper} {rest:List Oper} {g:Option (Nat × Bool)} {d:Nat} {ty:TypeId} {pos:String} {af:Array Edge}
end ops
def dd (k:Nat):List UInt8:=if k=0 then [] else decDigits k
end Go.WK
namespace Go.WK
open Go.RowKit
instance:DecidableEq ColX:=fun a b=>decidable_of_iff (a.n=b.n∧a.k=b.k∧a.b=b.b) (by cases a; cases b; simp)
instance:DecidableEq ItemX:=fun a b=>decidable_of_iff (a.e=b.e∧a.s=b.s) (by cases a; cases b; simp)
instance:DecidableEq SrcX:=fun a b=>decidable_of_iff (a.t=b.t∧a.s=b.s∧a.e=b.e) (by cases a; cases b; simp)
instance:DecidableEq OrdX:=fun a b=>decidable_of_iff (a.n=b.n∧a.b=b.b) (by cases a; cases b; simp)
instance:DecidableEq SetX:=fun a b=>decidable_of_iff (a.n=b.n∧a.e=b.e) (by cases a; cases b; simp)
instance:DecidableEq QryX:=fun a b=>decidable_of_iff (a.di=b.di∧a.st=b.st∧a.items=b.items∧a.from_=b.from_∧a.wh=b.wh∧a.ord=b.ord∧a.li=b.li∧a.lim=b.lim) (by cases a; cases b; simp)
instance:DecidableEq StmtX:=fun a b=>decidable_of_iff (a.k=b.k∧a.t=b.t∧a.n=b.n∧a.cols=b.cols∧a.on=b.on∧a.un=b.un∧a.rows=b.rows∧a.sets=b.sets∧a.wh=b.wh∧a.q=b.q) (by cases a; cases b; simp)
def ColX.zero:ColX:=⟨[],0,false⟩
def ItemX.zero:ItemX:=⟨Ex.zero,[]⟩
def SrcX.zero:SrcX:=⟨[],[],Ex.zero⟩
def OrdX.zero:OrdX:=⟨[],false⟩
def SetX.zero:SetX:=⟨[],Ex.zero⟩
def fg (e:Ex):Bool:=bareX e 0
def mayb (e:Ex):Bool:=fg e || e.may
def gh (n most:Nat):Bool:=decide (1≤n) && decide (n≤most)
def mayI (a:ItemX):Bool:=a.e.may && (decide (a.s=[]) || nameOk a.s)
def mayF (i:Nat) (a:SrcX):Bool:=nameOk a.t && ((decide (a.s=[]) || nameOk a.s) && (if i=0 then fg a.e else a.e.may))
def ck (g:Nat→Bool):Nat→Bool
 | 0=>true
 | i+1=>ck g i && g i
def jI (q:QryX):Bool :=
 (mayb q.wh && (decide (q.from_.length≤4) && (decide (q.ord.length≤16) && (decide (0≤q.lim) && (q.li || decide (q.lim=0)))))) &&
 ((if q.st=true then decide (q.items.length=0) else gh q.items.length 16) &&
 (ck (fun i=>mayI (q.items.getD i ItemX.zero)) q.items.length && (ck (fun i=>mayF i (q.from_.getD i SrcX.zero)) q.from_.length && ck (fun i=>nameOk (q.ord.getD i OrdX.zero).n) q.ord.length)))
def eu (s:StmtX):StmtX :=
 if s.k=1 then { StmtX.zero with k:=1,t:=s.t,cols:=s.cols }
 else if s.k=2 then { StmtX.zero with k:=2,t:=s.t }
 else if s.k=3 then { StmtX.zero with k:=3,t:=s.t,n:=s.n,on:=s.on,un:=s.un }
 else if s.k=4 then { StmtX.zero with k:=4,n:=s.n }
 else if s.k=5 then { StmtX.zero with k:=5,t:=s.t,rows:=s.rows }
 else if s.k=6 then { StmtX.zero with k:=6,t:=s.t,wh:=s.wh }
 else if s.k=7 then { StmtX.zero with k:=7,t:=s.t,sets:=s.sets,wh:=s.wh }
 else if s.k=8 then { StmtX.zero with k:=8,q:=s.q }
 else { StmtX.zero with k:=s.k }
def mayCol (a:ColX):Bool:=nameOk a.n && (decide (1≤a.k) && decide (a.k≤3))
def mayRow (l:List Ex):Bool:=gh l.length 16 && ck (fun k=>(l.getD k Ex.zero).may) l.length
def maySet (a:SetX):Bool:=nameOk a.n && a.e.may
def dh (s:StmtX):Bool :=
 if s.k=1 then nameOk s.t && (gh s.cols.length 16 && ck (fun i=>mayCol (s.cols.getD i ColX.zero)) s.cols.length)
 else if s.k=2 then nameOk s.t
 else if s.k=3 then nameOk s.t && (nameOk s.n && (gh s.on.length 16 && ck (fun i=>nameOk (s.on.getD i [])) s.on.length))
 else if s.k=4 then nameOk s.n
 else if s.k=5 then nameOk s.t && (decide (0 < s.rows.length) && ck (fun i=>mayRow (s.rows.getD i [])) s.rows.length)
 else if s.k=6 then nameOk s.t && mayb s.wh
 else if s.k=7 then nameOk s.t && (gh s.sets.length 16 && (mayb s.wh && ck (fun i=>maySet (s.sets.getD i SetX.zero)) s.sets.length))
 else if s.k=8 then jI s.q
 else decide (9≤s.k∧s.k≤11)
def fK (s:StmtX):Bool:=dh s && decide (s=eu s)
def cat (a b:Txt):Txt:=(a.1++b.1,max a.2 b.2)
def raw (s:List UInt8):Txt:=(s,0)
def upT (g:Nat→Txt):Nat→Txt
 | 0=>([],0)
 | i+1=>cat (upT g i) (g i)
def cm (i:Nat):List UInt8:=if i=0 then [] else [44,32]
def eX (g:Nat→Txt) (n:Nat):Txt:=upT (fun i=>cat (raw (cm i)) (g i)) n
def gi (b:Bool):List UInt8:=if b=true then [32,110,111,116,32,110,117,108,108] else []
def nA (k:Int):List UInt8:=if k=1 then [32,105,110,116] else if k=2 then [32,116,101,120,116] else if k=3 then [32,98,111,111,108] else []
def kR (a:ColX):Txt:=raw (a.n++(nA a.k++gi a.b))
def asT (s:List UInt8):List UInt8:=if s=[] then [] else [32,97,115,32]++s
def eD (a:ItemX):Txt:=cat (a.e.txt 1) (raw (asT a.s))
def dL (i:Nat) (a:SrcX):Txt:=cat (raw ((if i=0 then [32,102,114,111,109,32] else [32,106,111,105,110,32])++(a.t++asT a.s))) (if i=0 then ([],0) else cat (raw [32,111,110,32]) (a.e.txt 1))
def nB (b:Bool):List UInt8:=if b=true then [32,100,101,115,99] else []
def jJ (a:OrdX):Txt:=raw (a.n++nB a.b)
def cT (e:Ex):Txt:=if e.o=0 then ([],0) else cat (raw [32,119,104,101,114,101,32]) (e.txt 1)
def js (a:SetX):Txt:=cat (raw (a.n++[32,61,32])) (a.e.txt 1)
def iz (l:List Ex):Txt:=cat (raw [40]) (cat (eX (fun k=>(l.getD k Ex.zero).txt 1) l.length) (raw [41]))
def iZ (q:QryX):List UInt8:=[115,101,108,101,99,116,32]++((if q.di=true then [100,105,115,116,105,110,99,116,32] else [])++(if q.st=true then [42] else []))
def lK (n:Nat):List UInt8:=if 0 < n then [32,111,114,100,101,114,32,98,121,32] else []
def limT (q:QryX):List UInt8:=if q.li=true then [32,108,105,109,105,116,32]++Lib.itoa q.lim else []
def jK (q:QryX):Txt:=cat (raw (iZ q)) (cat (eX (fun i=>eD (q.items.getD i ItemX.zero)) q.items.length) (cat (upT (fun i=>dL i (q.from_.getD i SrcX.zero)) q.from_.length)
 (cat (cT q.wh) (cat (raw (lK q.ord.length)) (cat (eX (fun i=>jJ (q.ord.getD i OrdX.zero)) q.ord.length) (raw (limT q)))))))
def stmT (s:StmtX):Txt :=
 if s.k=1 then cat (raw ([99,114,101,97,116,101,32,116,97,98,108,101,32]++(s.t++[32,40]))) (cat (eX (fun i=>kR (s.cols.getD i ColX.zero)) s.cols.length) (raw [41]))
 else if s.k=2 then raw ([100,114,111,112,32,116,97,98,108,101,32]++s.t)
 else if s.k=3 then cat (raw ([99,114,101,97,116,101,32]++((if s.un=true then [117,110,105,113,117,101,32] else [])++([105,110,100,101,120,32]++(s.n++([32,111,110,32]++(s.t++[32,40]))))))) (cat (eX (fun i=>raw (s.on.getD i [])) s.on.length) (raw [41]))
 else if s.k=4 then raw ([100,114,111,112,32,105,110,100,101,120,32]++s.n)
 else if s.k=5 then cat (raw ([105,110,115,101,114,116,32,105,110,116,111,32]++(s.t++[32,118,97,108,117,101,115,32]))) (eX (fun i=>iz (s.rows.getD i [])) s.rows.length)
 else if s.k=6 then cat (raw ([100,101,108,101,116,101,32,102,114,111,109,32]++s.t)) (cT s.wh)
 else if s.k=7 then cat (raw ([117,112,100,97,116,101,32]++(s.t++[32,115,101,116,32]))) (cat (eX (fun i=>js (s.sets.getD i SetX.zero)) s.sets.length) (cT s.wh))
 else if s.k=8 then jK s.q
 else if s.k=9 then raw [98,101,103,105,110]
 else if s.k=10 then raw [99,111,109,109,105,116]
 else if s.k=11 then raw [114,111,108,108,98,97,99,107]
 else ([],0)
def prS (s:StmtX):List UInt8 × Int:=if fK s=true then je (stmT s).1 (stmT s).2 else ([],1)
theorem prX_told (e:Ex):prX e=if e.may=true then je (e.txt 1).1 (e.txt 1).2 else ([],1):=by
 unfold prX je
 by_cases h:e.may=true
 · rw [if_pos h,if_pos h]
   by_cases h2:24 < (e.txt 1).2
   · rw [if_pos h2,if_pos (show (24:Int) < ((e.txt 1).2:Int) by omega)]
   · rw [if_neg h2,if_neg (show ¬ (24:Int) < ((e.txt 1).2:Int) by omega)]
 · rw [if_neg h,if_neg h]
theorem cat_nil (a:Txt):cat a ([],0)=a:=by simp [cat]
theorem wg (a:Txt):cat ([],0) a=a:=by simp [cat]
theorem qq (a b c:Txt):cat (cat a b) c=cat a (cat b c):=by simp [cat,Nat.max_assoc]
theorem upT_le (g : Nat → Txt) : ∀ {i n : Nat},i ≤ n → (upT g i).1.length ≤ (upT g n).1.length := by
  intro i n h
  induction n with
  | zero => obtain rfl : i = 0 := by omega
            exact Nat.le_refl _
  | succ n ih =>
    rcases Nat.lt_or_ge i (n + 1) with h1 | h1
    · have := ih (by omega)
      simp only [upT,cat,List.length_append]; omega
    · obtain rfl : i = n + 1 := by omega
      exact Nat.le_refl _
theorem upT_at (g:Nat→Txt) {i n:Nat} (h:i < n):(upT g i).1.length+(g i).1.length≤(upT g n).1.length:=by
 have:=upT_le g (show i+1≤n by omega)
 simpa [upT,cat] using this
structure PSub (w:World) (L:List Nat) (w1:World) (L1:List Nat):Prop where
 chg:Chg L w w1
 notin:∀ k,k < w.heap.size→k ∉ L→k ∉ L1
theorem PSub.of {P:Program} {n:Nat} {w w1:World} {L:List Nat} {H:List Chunk} {pb:Nat} {A:Option Addr} {c:Nat} {l:List UInt8} {d m:Int} (h:Sat ⟨P,n,[],w,L⟩ H w1) (hm:∀ x ∈ prD pb A c l d m,x ∈ H):PSub w L w1 (prL pb A) :=
 ⟨h.chg,pr_notin h hm⟩
structure PE (w:World) (L:List Nat) (bl:List Nat):Prop where
 lt:∀ k ∈ bl,k < w.heap.size∧k ∉ L
 g:∀ k,k < 10→k < w.heap.size∧k ∉ L
theorem PE.sub {w w1:World} {L L1 bl:List Nat} (h:PE w L bl) (s:PSub w L w1 L1):PE w1 L1 bl :=
 ⟨fun k hk=>⟨Nat.lt_of_lt_of_le (h.lt k hk).1 s.chg.size,s.notin k (h.lt k hk).1 (h.lt k hk).2⟩,fun k hk=>⟨Nat.lt_of_lt_of_le (h.g k hk).1 s.chg.size,s.notin k (h.g k hk).1 (h.g k hk).2⟩⟩
theorem PE.st {w w1:World} {L L1 bl:List Nat} (h:PE w L bl) (s:PSub w L w1 L1):∀ k ∈ bl,w1.heap[k]? = w.heap[k]?:=fun k hk=>s.chg.block k (h.lt k hk).1 (h.lt k hk).2
theorem PE.rd {w:World} {L bl:List Nat} (h:PE w L bl) {A:Option Addr} {xs:List Value} (hx:Rd w A xs) (hb:∀ a,A=some a→xs≠[]→a.block ∈ bl) (cx:Cx) (H:List Chunk) (e1:cx.w0=w) (e2:cx.lent=L):RdS cx H A xs:=by
 by_cases hn:xs=[]
 · subst hn; exact fun _ _=>Rd.nil _ _
 · exact RdS.lent (by rw [e1]; exact hx) (fun a ha=>by rw [e2]; exact (h.lt _ (hb a ha hn)).2)
theorem ExK.psub {w w1:World} {L L1 bl:List Nat} {e:Ex} {cs:List Value} (h:ExK bl w e cs) (p:PE w L bl) (s:PSub w L w1 L1):ExK bl w1 e cs:=ExK.stab (p.st s) _ _ h
theorem ExsK.nil {bl:List Nat} {w:World} {as:List Ex} {xs:List Value} (h:ExsK bl w as xs) (hx:xs≠[]):as≠[]:=fun e=>hx (by subst e; exact h)
end Go.WK
namespace Go.WK
open Go.RowKit Lib
abbrev KT:=Int × List UInt8
def kt (t:Tok):KT:=(t.k,t.t)
def dW (q:List UInt8) (ks:List KT):Prop:=∀ f o,q.length < f→∃ ts,mQ f o q=.ok ts∧ts.map kt=ks++[(5,[])]
theorem xJ:dW [] []:=fun f o h=>by
 obtain ⟨f,rfl⟩:∃ k,f=k+1:=⟨f - 1,by omega⟩
 exact ⟨_,sw rfl,rfl⟩
theorem dn {q:List UInt8} {ks:List KT} (h:dW q ks):dW (32::q) ks:=fun f o hf=>by
 have e:gap (32::q)=gap q+1:=by
  show eM false _=_
  rw [eM,if_pos (by decide),Nat.add_comm]
 obtain ⟨ts,h1,h2⟩:=h f (o+1) (by simp only [List.length_cons] at hf; omega)
 refine ⟨ts, ?_,h2⟩
 rw [← h1]
 unfold mQ
 rw [e,List.drop_succ_cons,show o+(gap q+1)=o+1+gap q by omega]
theorem jL {c:UInt8} {p r t:List UInt8} {k:Int} {ks:List KT} (hg:gap (c::(p++r))=0) (ht:cf (c::(p++r))=⟨k,t,p.length+1,0⟩) (h:dW r ks):dW (c::(p++r)) ((k,t)::ks):=fun f o hf=>by
 obtain ⟨f,rfl⟩:∃ k,f=k+1:=⟨f - 1,by omega⟩
 obtain ⟨ts,h1,h2⟩:=h f (o+0+(p.length+1)) (by simp only [List.length_cons,List.length_append] at hf; omega)
 have hq:(c::(p++r)).drop (gap (c::(p++r)))=c::(p++r):=by rw [hg]; rfl
 refine ⟨⟨k,t,((o+0:Nat):Int)⟩::ts, ?_,by simp [kt,h2]⟩
 rw [mT hq,ht]
 simp only [ne_eq,not_true_eq_false,if_false,hg,List.drop_succ_cons,List.drop_left]
 rw [h1]; rfl
def Stop (r:List UInt8):Prop:=r=[]∨(r.head?.getD 0) ∈ [(32:UInt8),40,41,44,46]
theorem Stop.wd {r:List UInt8} (h:Stop r):r=[]∨gR (r.head?.getD 0)=false:=h.imp id fun h=>by
 have:∀ c ∈ [(32:UInt8),40,41,44,46],gR c=false:=by decide
 exact this _ h
theorem Stop.dg {r:List UInt8} (h:Stop r):r=[]∨be (r.head?.getD 0)=false:=h.imp id fun h=>by
 have:∀ c ∈ [(32:UInt8),40,41,44,46],be c=false:=by decide
 exact this _ h
theorem Stop.q {r:List UInt8} (h:Stop r):r.head?≠some 39:=by
 rcases h with rfl | h
 · simp
 · intro e
   rw [e] at h
   exact absurd h (by decide)
theorem stop_nil:Stop []:=.inl rfl
theorem gj {c:UInt8} {l:List UInt8} (h:c ∈ [(32:UInt8),40,41,44,46]):Stop (c::l):=.inr h
theorem wi {P:UInt8→Bool} {s r:List UInt8} (h:∀ x ∈ s,P x=true) (hr:r=[]∨P (r.head?.getD 0)=false):bO P (s++r)=s.length:=by
 refine run_is P _ _ (by simp) (fun i hi=>?_) (fun hl=>?_)
 · rw [getD_app _ _ _ hi]
   exact h _ (by simp [List.getD,hi])
 · rw [pZ]
   rcases hr with rfl | hr
   · simp at hl
   · exact hr
theorem kS {c:UInt8} {l:List UInt8} (h1:lF c=false) (h2:c≠45∨l.head?≠some 45):gap (c::l)=0:=by
 show eM false _=_
 rw [eM,if_neg (by rw [h1]; decide),if_neg (fun e=>h2.elim (fun h=>h e.1) (fun h=>h e.2))]
theorem sZ {f:Bool} {c:UInt8} (h:iM f c=true):gR c=true∧low c=c:=by
 have h2:(97≤c.toNat∧c.toNat≤122)∨(48≤c.toNat∧c.toNat≤57)∨c.toNat=95:=by
  unfold iM at h
  simp only [Bool.or_eq_true,Bool.and_eq_true,decide_eq_true_eq] at h
  omega
 refine ⟨rg.2 ?_, ?_⟩
 · rw [mm,nT]; omega
 · unfold low; rw [if_neg (by omega)]
theorem qr {c:UInt8} (h:iM true c=true):dx c=true:=by
 unfold iM at h
 simp only [Bool.or_eq_true,Bool.and_eq_true,decide_eq_true_eq,Bool.not_true,Bool.false_eq_true,false_and,or_false] at h
 rw [mm]; omega
theorem uK {c:UInt8} (h:dx c=true):lF c=false:=by
 cases hb:lF c with
 | false=>rfl
 | true=>have h1:=mm.1 h; have h2:=bl_nat.1 hb; omega
theorem let_ne {c:UInt8} (h:dx c=true):c≠45:=fun e=>by subst e; revert h; decide
theorem ct {s r:List UInt8} {ks:List KT} (hs:il s=true) (hr:Stop r) (h:dW r ks):dW (s++r) ((1,s)::ks):=by
 cases s with
 | nil=>cases hs
 | cons c p =>
  have hs2:iM true c=true∧∀ x ∈ p,iM false x=true:=by
   unfold il at hs
   simp only [Bool.and_eq_true,List.getD_cons_zero,List.drop_succ_cons,List.drop_zero,List.all_eq_true] at hs
   exact ⟨hs.2.2.1,hs.2.2.2⟩
  have hl:=qr hs2.1
  have hw:∀ x ∈ c::p,gR x=true∧low x=x:=fun x hx=>by
   rcases List.mem_cons.1 hx with rfl | hx
   · exact sZ hs2.1
   · exact sZ (hs2.2 x hx)
  have hrun:=wi (fun x hx=>(hw x hx).1) hr.wd
  have hsm:kE (c::p)=c::p:=by
   unfold kE
   rw [show (c::p)=(c::p).map id by simp,List.map_map]
   exact List.map_congr_left fun x hx=>by simpa using (hw x (by simpa using hx)).2
  refine jL (kS (uK hl) (.inl (let_ne hl))) ?_ h
  rw [← List.cons_append,mR (by simpa using hl),hrun,List.take_left,hsm]; rfl
theorem dig_all:∀ (u:Nat),∀ x ∈ decDigits u,be x=true:=fun u x hx=>by
 have h:=kI u
 have key:∀ (l:List UInt8) (acc v:Nat),decFrom acc l=some v→∀ x ∈ l,be x=true:=by
  intro l
  induction l with
  | nil=>intro acc v _ x hx; cases hx
  | cons c l ih =>
   intro acc v h x hx
   simp only [decFrom] at h
   cases hc:digitVal c with
   | none=>simp [hc] at h
   | some d =>
    simp only [hc] at h
    rcases List.mem_cons.1 hx with rfl | hx
    · obtain ⟨q1,q2,_⟩:=digitVal_eq hc
      exact nT.2 ⟨q1,q2⟩
    · exact ih _ v h x hx
 exact key _ 0 u h x hx
theorem qs {n:Int} {r:List UInt8} {ks:List KT} (h0:0≤n) (hn:inR n=true) (hr:Stop r) (h:dW r ks):dW (itoa n++r) ((2,itoa n)::ks):=by
 have hp:=oB hn
 have hd:∀ x ∈ itoa n,be x=true:=by rw [kJ (by omega)]; exact dig_all _
 obtain ⟨c,p,e,q1,q2⟩:=mV n.toNat
 have hz:c=48→p=[]:=fun hc=>by
  have:=dec_head n.toNat (by rw [e,hc]; rfl)
  rw [this,lq (by decide)] at e
  simp at e; exact e.2
 rw [kJ (by omega),e] at hd hp ⊢
 have hc:be c=true:=hd c List.mem_cons_self
 have hl:dx c=false:=by
  cases hx:dx c with
  | false=>rfl
  | true=>have:=mm.1 hx; omega
 have hb:lF c=false:=by
  cases hx:lF c with
  | false=>rfl
  | true=>have:=bl_nat.1 hx; omega
 have hrun:=wi hd hr.dg
 refine jL (kS hb (.inl fun e=>by rw [e] at q1; simp at q1)) ?_ h
 rw [← List.cons_append]
 have hdg:be ((c::p++r).getD 0 0)=true:=by simpa using hc
 rw [oo (by simpa using hl) hdg,if_neg,hrun,List.take_left]; rfl
 refine (ir hdg).1 ⟨⟨n,by rw [hrun,List.take_left]; exact hp⟩,fun hh=>?_,fun hh=>?_⟩
 · have h1:=hh.1
   rw [hrun] at h1
   have:=hz (by simpa using hh.2)
   subst this
   simp at h1
 · have h2:=hh.2
   rw [hrun,pZ] at h2
   rcases hr.wd with rfl | h3
   · have:=hh.1; rw [hrun] at this; simp at this
   · have:=rg.2 (.inl h2)
     rw [h3] at this; cases this
theorem wj:∀ (s r:List UInt8),r.head?≠some 39→quo (dbl s++(39::r))=some (s,(dbl s).length+1)
 | [],r,hr=>by rw [dbl,List.nil_append,vJ hr]; rfl
 | c::s,r,hr=>by
  have ih:=wj s r hr
  by_cases hc:c=39
  · subst hc
    have e:dbl (39::s)=39::39::dbl s:=by simp [dbl]
    rw [e,List.cons_append,List.cons_append,vK,ih]; simp
  · have e:dbl (c::s)=c::dbl s:=by simp [dbl,hc]
    rw [e,List.cons_append,quo_ne hc,ih]; simp
theorem uL {s r:List UInt8} {ks:List KT} (hs:s.length≤64) (hr:Stop r) (h:dW r ks):dW (39::(dbl s++(39::r))) ((3,s)::ks):=by
 have e:39::(dbl s++(39::r))=39::((dbl s++[39])++r):=by simp
 have hq:=wj s r hr.q
 rw [e]
 refine jL (kS (by decide) (.inl (by decide))) ?_ h
 rw [← e,mS (by rfl),List.drop_succ_cons,List.drop_zero,hq]
 simp only
 rw [if_neg (by omega)]; simp
theorem cK {c : UInt8} {r : List UInt8} {ks : List KT} (hc : c ∈ [(40 : UInt8),41,44,46,59,61,43,42,47,37] ∨ (c = 45 ∧ r.head? ≠ some 45) ∨ ((c = 60 ∨ c = 62) ∧ r.head? = some 32)) (h : dW r ks) : dW (c :: r) ((4,[c]) :: ks) := by
  have key : dx c = false ∧ be c = false ∧ c ≠ 39 ∧ lF c = false ∧ (c ≠ 45 ∨ r.head? ≠ some 45) ∧ fx (c :: r) = 1 := by
    rcases hc with hc | ⟨rfl,hc⟩ | ⟨hc,hr⟩
    · have k1 : ∀ c ∈ [(40 : UInt8),41,44,46,59,61,43,42,47,37],dx c = false ∧ be c = false ∧ c ≠ 39 ∧ lF c = false ∧ c ≠ 45 := by decide
      obtain ⟨a1,a2,a3,a4,a5⟩ := k1 c hc
      refine ⟨a1,a2,a3,a4,.inl a5, ?_⟩
      have k2 : ∀ c ∈ [(40 : UInt8),41,44,46,59,61,43,42,47,37],∀ d : Int,sgn c.toNat d = 1 := by
        intro c hc d
        simp only [List.mem_cons,List.mem_nil_iff,or_false] at hc
        rcases hc with rfl | rfl | rfl | rfl | rfl | rfl | rfl | rfl | rfl | rfl <;> rfl
      exact k2 c hc _
    · exact ⟨by decide,by decide,by decide,by decide,.inr hc,rfl⟩
    · have e1 : (c :: r).getD 1 0 = 32 := by
        cases r with
        | nil => simp at hr
        | cons x r => simp at hr; simp [hr]
      rcases hc with rfl | rfl
      · exact ⟨by decide,by decide,by decide,by decide,.inl (by decide),by unfold fx; rw [e1]; rfl⟩
      · exact ⟨by decide,by decide,by decide,by decide,.inl (by decide),by unfold fx; rw [e1]; rfl⟩
  obtain ⟨a1,a2,a3,a4,a5,a6⟩ := key
  refine jL (p := []) (kS a4 a5) ?_ h
  rw [List.nil_append,lk (by simpa using a1) (by simpa using a2) (by simpa using a3),a6]; rfl
theorem jf {c d:UInt8} {r:List UInt8} {ks:List KT} (hc:(c,d) ∈ [((60:UInt8),(62:UInt8)),(60,61),(62,61),(124,124)]) (h:dW r ks):dW (c::d::r) ((4,[c,d])::ks):=by
 have k1:∀ x ∈ [((60:UInt8),(62:UInt8)),(60,61),(62,61),(124,124)],dx x.1=false∧be x.1=false∧x.1≠39∧lF x.1=false∧x.1≠45∧sgn x.1.toNat x.2.toNat=2:=by decide
 obtain ⟨a1,a2,a3,a4,a5,a6⟩:=k1 _ hc
 refine jL (p:=[d]) (kS a4 (.inl a5)) ?_ h
 have e:fx (c::d::r)=2:=a6
 rw [List.singleton_append,lk (by simpa using a1) (by simpa using a2) (by simpa using a3),e]; rfl
def opK (o:Int):KT:=(if o=21∨o=20 then 1 else 4,jE o)
theorem lexes_op {o:Int} {r:List UInt8} {ks:List KT} (ho:8≤o∧o≤21) (h:dW r ks):dW (jE o++(32::r)) (opK o::ks):=by
 have hb:=dn h
 have hst:Stop (32::r):=gj (by decide)
 have hcs:o=8∨o=9∨o=10∨o=11∨o=12∨o=13∨o=14∨o=15∨o=16∨o=17∨o=18∨o=19∨o=20∨o=21:=by omega
 rcases hcs with rfl | rfl | rfl | rfl | rfl | rfl | rfl | rfl | rfl | rfl | rfl | rfl | rfl | rfl
 · exact cK (.inl (by decide)) hb
 · exact cK (.inr (.inl ⟨rfl,by simp⟩)) hb
 · exact cK (.inl (by decide)) hb
 · exact cK (.inl (by decide)) hb
 · exact cK (.inl (by decide)) hb
 · exact jf (by decide) hb
 · exact cK (.inl (by decide)) hb
 · exact jf (by decide) hb
 · exact cK (.inr (.inr ⟨.inl rfl,rfl⟩)) hb
 · exact jf (by decide) hb
 · exact cK (.inr (.inr ⟨.inr rfl,rfl⟩)) hb
 · exact jf (by decide) hb
 · exact ct (by decide) hst hb
 · exact ct (by decide) hst hb
end Go.WK
namespace Go.WK
open Go.RowKit Lib
def valK (v:Val):KT:=if v.k=1 then (2,itoa v.n) else if v.k=2 then (3,v.s) else if v.k=3 then (1,if v.n=1 then lJ else jo) else (1,dc)
abbrev ArgK:=Int × List KT
def lL (x:ArgK) (low:Int):List KT:=if lvl x.1 < low then (4,[40])::(x.2++[(4,[41])]) else x.2
def argK (l:List ArgK) (i:Nat):ArgK:=l.getD i (0,[])
def coreK (o:Int) (v:Val) (t n:List UInt8) (l:List ArgK):List KT :=
 if o=1 then [valK v]
 else if o=2 then (if t=[] then [(1,n)] else [(1,t),(4,[46]),(1,n)])
 else if o=5 then (1,eN)::lL (argK l 0) 3
 else if o=4 then (4,[45])::lL (argK l 0) 7
 else if o=6 then lL (argK l 0) 5++[(1,isB),(1,dc)]
 else if o=7 then lL (argK l 0) 5++[(1,isB),(1,eN),(1,dc)]
 else lL (argK l 0) (if lvl o=4 then 5 else lvl o)++opK o::lL (argK l 1) (lvl o+1)
mutual
def Ex.kcore:Ex→List KT
 | .mk o v t n _ as=>coreK o v t n (Exs.kcores as)
def Exs.kcores:List Ex→List ArgK
 | []=>[]
 | e::es=>(e.o,e.kcore)::Exs.kcores es
end
def Ex.tk (e:Ex) (low:Int):List KT:=lL (e.o,e.kcore) low
inductive View:Ex→Prop
 | cst (v:Val) (hv:may v=true) (h0:v.k=1→0≤v.n):View (cst v)
 | nam (t n:List UInt8) (hn:nameOk n=true) (ht:t=[]∨nameOk t=true):View (.mk 2 Val.zero t n 0 [])
 | un (o:Int) (a:Ex) (ho:4≤o∧o≤7) (ha:a.may=true):View (un o a)
 | bin (o:Int) (a b:Ex) (ho:8≤o∧o≤21) (ha:a.may=true) (hb:b.may=true):View (bin o a b)
theorem view {e:Ex} (h:e.may=true):View e:=by
 obtain ⟨o,v,t,n,c,as⟩:=e
 by_cases h1:o=1
 · subst h1
   rw [Ex.may,if_pos rfl] at h
   simp only [bareX,Bool.and_eq_true,decide_eq_true_eq,Ex.mk.injEq,Bool.or_eq_true,Bool.not_eq_true',decide_eq_false_iff_not] at h
   obtain ⟨⟨_,_,rfl,rfl,rfl,rfl⟩,h2,h3⟩:=h
   exact .cst v h2 (fun hk=>h3.resolve_left (fun h=>h hk))
 by_cases h2:o=2
 · subst h2
   rw [Ex.may,if_neg h1,if_pos rfl] at h
   simp only [bareX,Bool.and_eq_true,decide_eq_true_eq,Ex.mk.injEq,Bool.or_eq_true] at h
   obtain ⟨⟨hn,ht⟩,_,rfl,_,_,rfl,rfl⟩:=h
   exact .nam t n hn ht
 have h':=h
 rw [Ex.may,if_neg h1,if_neg h2] at h
 split at h
 · cases h
 rename_i ho
 simp only [Bool.and_eq_true,decide_eq_true_eq] at h
 obtain ⟨⟨hl,rfl,rfl,rfl,rfl⟩,hm⟩:=h
 rw [Exs.may_iff] at hm
 by_cases h4:o=4∨o=5∨o=6∨o=7
 · unfold arity at hl
   rw [if_pos h4] at hl
   match as,hl with
   | [a],_=>exact .un o a (by omega) (by simpa using hm)
 · unfold arity at hl
   rw [if_neg h4] at hl
   match as,hl with
   | [a,b],_ =>
    simp only [List.all_cons,List.all_nil,Bool.and_true,Bool.and_eq_true] at hm
    exact .bin o a b (by omega) hm.1 hm.2
section
variable (a b:Ex) (o:Int)
theorem rq {e:Ex} {low:Int} (h:¬ lvl e.o < low):e.tk low=e.kcore:=by unfold Ex.tk lL; rw [if_neg h]
theorem nX {e:Ex} {low:Int} (h:lvl e.o < low):e.tk low=(4,[40])::(e.kcore++[(4,[41])]):=by unfold Ex.tk lL; rw [if_pos h]
theorem k_cst (v:Val):(cst v).kcore=[valK v]:=rfl
theorem k_nam (t n:List UInt8):Ex.kcore (.mk 2 Val.zero t n 0 [])=if t=[] then [(1,n)] else [(1,t),(4,[46]),(1,n)]:=rfl
theorem k_not:(un 5 a).kcore=(1,eN)::a.tk 3:=rfl
theorem k_neg:(un 4 a).kcore=(4,[45])::a.tk 7:=rfl
theorem k_nul:(un 6 a).kcore=a.tk 5++[(1,isB),(1,dc)]:=rfl
theorem rr:(un 7 a).kcore=a.tk 5++[(1,isB),(1,eN),(1,dc)]:=rfl
theorem s4 (h:8≤o):(bin o a b).kcore=a.tk (if lvl o=4 then 5 else lvl o)++opK o::b.tk (lvl o+1):=by
 show coreK o _ _ _ _=_
 unfold coreK
 rw [if_neg (by omega),if_neg (by omega),if_neg (by omega),if_neg (by omega),if_neg (by omega),if_neg (by omega)]; rfl
theorem c_cst (v:Val):(cst v).core=((prV v).1,0):=rfl
theorem c_nam (t n:List UInt8):Ex.core (.mk 2 Val.zero t n 0 [])=(if t=[] then n else t++(46::n),0):=rfl
theorem s5:(un 5 a).core=([110,111,116,32]++(a.txt 3).1,(a.txt 3).2+1):=rfl
theorem s6:(un 4 a).core=(45::((if a.o=4 then [32] else [])++(a.txt 7).1),(a.txt 7).2+1):=rfl
theorem s7:(un 6 a).core=((a.txt 5).1++[32,105,115,32,110,117,108,108],(a.txt 5).2):=rfl
theorem oT:(un 7 a).core=((a.txt 5).1++[32,105,115,32,110,111,116,32,110,117,108,108],(a.txt 5).2):=rfl
theorem qt (h:8≤o):(bin o a b).core=((a.txt (if lvl o=4 then 5 else lvl o)).1++((32::(jE o++[32]))++(b.txt (lvl o+1)).1),max (a.txt (if lvl o=4 then 5 else lvl o)).2 (b.txt (lvl o+1)).2):=by
 show coreT o _ _ _ _=_
 unfold coreT
 rw [if_neg (by omega),if_neg (by omega),if_neg (by omega),if_neg (by omega),if_neg (by omega),if_neg (by omega)]; rfl
end
theorem ly (o:Int) (a:Ex):a.size < (un o a).size:=by simp [un,Ex.size,Exs.size]; omega
theorem jM (o:Int) (a b:Ex):a.size < (bin o a b).size∧b.size < (bin o a b).size:=by simp [bin,Ex.size,Exs.size]; omega
theorem oU (o:Int):1≤lvl o∧lvl o≤8:=by unfold lvl; repeat' split<;>omega
theorem lvl_op {o:Int} (h:8≤o∧o≤21):lvl o=1∨lvl o=2∨lvl o=4∨lvl o=5∨lvl o=6:=by unfold lvl; repeat' split<;>omega
theorem qu {s r:List UInt8} (h:il s=true):(s++r).head?≠some 45:=by
 cases s with
 | nil=>cases h
 | cons c p =>
  unfold il at h
  simp only [Bool.and_eq_true,List.getD_cons_zero] at h
  have:=let_ne (qr h.2.2.1)
  simpa using this
theorem jN {s:List UInt8} (h:nameOk s=true):il s=true:=by
 unfold nameOk at h
 simp only [Bool.and_eq_true] at h
 exact h.1
theorem xK {n:Int} (h:0≤n) (r:List UInt8):(itoa n++r).head?≠some 45:=by
 obtain ⟨c,p,e,q1,q2⟩:=mV n.toNat
 rw [kJ (by omega),e]
 intro h
 have:c=45:=by simpa using h
 subst this
 simp at q1
theorem xL {v:Val} (hv:may v=true) (h0:v.k=1→0≤v.n) (ho:v.ok) {r:List UInt8} {ks:List KT} (hr:Stop r) (h:dW r ks):dW ((prV v).1++r) (valK v::ks)∧((prV v).1++r).head?≠some 45:=by
 unfold prV valK
 rw [if_pos hv]
 by_cases h1:v.k=1
 · rw [if_pos h1,if_pos h1]
   exact ⟨qs (h0 h1) (gL.2 (by unfold Val.ok at ho; omega)) hr h,xK (h0 h1) r⟩
 rw [if_neg h1,if_neg h1]
 by_cases h2:v.k=2
 · rw [if_pos h2,if_pos h2]
   have hl:v.s.length≤64:=by
    unfold may at hv
    simp [h2] at hv
    exact hv.2
   refine ⟨?_,by simp⟩
   simpa using uL hl hr h
 rw [if_neg h2,if_neg h2]
 by_cases h3:v.k=3
 · rw [if_pos h3,if_pos h3]
   by_cases h4:v.n=1
   · rw [if_pos h4,if_pos h4]; exact ⟨ct (by decide) hr h,by simp⟩
   · rw [if_neg h4,if_neg h4]; exact ⟨ct (by decide) hr h,by simp⟩
 · rw [if_neg h3,if_neg h3]; exact ⟨ct (by decide) hr h,by simp⟩
theorem ex_lexes:∀ (m:Nat) (e:Ex),e.size < m→e.may=true→e.ok→∀ (low:Int) (r:List UInt8) (ks:List KT),Stop r→dW r ks→dW ((e.txt low).1++r) (e.tk low++ks)∧(e.o≠4→(7≤low∨7≤lvl e.o)→((e.txt low).1++r).head?≠some 45):=by
 intro m
 induction m with
 | zero=>intro e h; omega
 | succ m ih =>
  intro e hs hm ho
  have core:∀ (r:List UInt8) (ks:List KT),Stop r→dW r ks→dW (e.core.1++r) (e.kcore++ks)∧(e.o≠4→7≤lvl e.o→(e.core.1++r).head?≠some 45):=by
   intro r ks hr h
   have hv:=view hm
   cases hv with
   | cst v hv h0 =>
    obtain ⟨_,hov,_⟩:=ho
    have:=xL hv h0 hov hr h
    exact ⟨this.1,fun _ _=>this.2⟩
   | nam t n hn ht =>
    rw [c_nam,k_nam]
    by_cases h1:t=[]
    · rw [if_pos h1,if_pos h1]
      exact ⟨ct (jN hn) hr h,fun _ _=>qu (jN hn)⟩
    · have ht:=jN (ht.resolve_left h1)
      rw [if_neg h1,if_neg h1]
      have h2:=cK (c:=46) (.inl (by decide)) (ct (jN hn) hr h)
      have h3:=ct ht (gj (by decide)) h2
      refine ⟨by simpa using h3,fun _ _=>?_⟩
      simp only [List.append_assoc]
      exact qu ht
   | un o a ho4 ha =>
    have hsz:=ly o a
    obtain ⟨_,_,_,hoa,_⟩:=ho
    have ih:=ih a (by omega) ha hoa
    have hcs:o=5∨o=4∨o=6∨o=7:=by omega
    rcases hcs with rfl | rfl | rfl | rfl
    · rw [s5,k_not]
      refine ⟨?_,fun _ h7=>absurd (show 7≤lvl 5 from h7) (by decide)⟩
      have:=ct (s:=[110,111,116]) (by decide) (gj (by decide)) (dn (ih 3 r ks hr h).1)
      simpa [eN] using this
    · rw [s6,k_neg]
      refine ⟨?_,fun h4=>absurd rfl h4⟩
      have h1:=ih 7 r ks hr h
      by_cases h4:a.o=4
      · rw [if_pos h4]
        have:=cK (c:=45) (.inr (.inl ⟨rfl,by simp⟩)) (dn h1.1)
        simpa using this
      · rw [if_neg h4]
        have:=cK (c:=45) (.inr (.inl ⟨rfl,h1.2 h4 (.inl (by omega))⟩)) h1.1
        simpa using this
    · rw [s7,k_nul]
      refine ⟨?_,fun _ h7=>absurd (show 7≤lvl 6 from h7) (by decide)⟩
      have h1:=ct (s:=[110,117,108,108]) (by decide) hr h
      have h2:=ct (s:=[105,115]) (by decide) (gj (by decide)) (dn h1)
      have h3:=(ih 5 _ _ (gj (by decide)) (dn h2)).1
      simpa [isB,dc] using h3
    · rw [oT,rr]
      refine ⟨?_,fun _ h7=>absurd (show 7≤lvl 7 from h7) (by decide)⟩
      have h1:=ct (s:=[110,117,108,108]) (by decide) hr h
      have h2:=ct (s:=[110,111,116]) (by decide) (gj (by decide)) (dn h1)
      have h2:=ct (s:=[105,115]) (by decide) (gj (by decide)) (dn h2)
      have h3:=(ih 5 _ _ (gj (by decide)) (dn h2)).1
      simpa [isB,dc,eN] using h3
   | bin o a b ho8 ha hb =>
    have hsz:=jM o a b
    obtain ⟨_,_,_,hoa,hob,_⟩:=ho
    rw [qt a b o ho8.1,s4 a b o ho8.1]
    have hl:=lvl_op ho8
    refine ⟨?_,fun _ h7=>by have h7:7≤lvl o:=h7; omega⟩
    have h1:=(ih b (by omega) hb hob (lvl o+1) r ks hr h).1
    have h2:=lexes_op ho8 h1
    have h3:=(ih a (by omega) ha hoa (if lvl o=4 then 5 else lvl o) _ _ (gj (by decide)) (dn h2)).1
    simpa using h3
  intro low r ks hr h
  by_cases hlow:lvl e.o < low
  · rw [kQ hlow,nX hlow]
    have h1:=cK (c:=41) (.inl (by decide)) h
    have h2:=(core (41::r) _ (gj (by decide)) h1).1
    have h3:=cK (c:=40) (.inl (by decide)) h2
    exact ⟨by simpa using h3,fun _ _=>by simp⟩
  · rw [cV hlow,rq hlow]
    have:=core r ks hr h
    exact ⟨this.1,fun h4 h7=>this.2 h4 (by omega)⟩
end Go.WK
namespace Go.WK
open Go.RowKit
theorem Exs.ok_at:∀ {l:List Ex} {i:Nat},Exs.ok l→i < l.length→(l.getD i Ex.zero).ok
 | [],_,_,h=>by simp at h
 | a::l,0,h,_=>h.1
 | a::l,i+1,h,hi=>by
  have:=Exs.ok_at (l:=l) (i:=i) h.2 (by simpa using hi)
  simpa using this
theorem Exs.size_at:∀ {l:List Ex} {i:Nat},i < l.length→(l.getD i Ex.zero).size≤Exs.size l
 | [],_,h=>by simp at h
 | a::l,0,_=>by simp [Exs.size]
 | a::l,i+1,hi=>by
  have:=Exs.size_at (l:=l) (i:=i) (by simpa using hi)
  simp only [Exs.size,List.getD_cons_succ]; omega
theorem Exs.len_size:∀ l:List Ex,l.length≤Exs.size l
 | []=>Nat.le_refl _
 | a::l=>by
  have:=Exs.len_size l
  have h:1≤a.size:=by cases a; simp only [Ex.size]; omega
  simp only [Exs.size,List.length_cons]; omega
theorem Ex.ok_at {o c:Int} {v:Val} {t n:List UInt8} {l:List Ex} {i:Nat} (h:Ex.ok (.mk o v t n c l)) (hi:i < l.length):(l.getD i Ex.zero).ok:=Exs.ok_at h.2.2.2 hi
theorem Ex.size_at {o c:Int} {v:Val} {t n:List UInt8} {l:List Ex} {i:Nat} (hi:i < l.length):(l.getD i Ex.zero).size < Ex.size (.mk o v t n c l):=by
 have:=Exs.size_at hi
 simp only [Ex.size]; omega
theorem qv {o c:Int} {v:Val} {t n:List UInt8} {l:List Ex} (h:Ex.may (.mk o v t n c l)=true) :
  (1≤o∧o≤21∧o≠3)∧(o=1→WK.may v=true)∧(4≤o→o≤7→l.length=1)∧(8≤o→l.length=2)∧∀ i,i < l.length→(l.getD i Ex.zero).may=true:=by
 generalize he:Ex.mk o v t n c l=e at h
 have hv:=view h
 cases hv with
 | cst v' hv h0 =>
  cases he
  exact ⟨by omega,fun _=>hv,fun h=>by omega,fun h=>by omega,fun i hi=>by simp at hi⟩
 | nam t' n' hn ht =>
  cases he
  exact ⟨by omega,fun h=>by omega,fun h=>by omega,fun h=>by omega,fun i hi=>by simp at hi⟩
 | un o' a ho ha =>
  cases he
  exact ⟨by omega,fun h=>by omega,fun _ _=>rfl,fun h=>by omega,fun i hi=>by
   obtain rfl:i=0:=by simpa using hi
   exact ha⟩
 | bin o' a b ho ha hb =>
  cases he
  exact ⟨by omega,fun h=>by omega,fun _ h=>by omega,fun h=>rfl,fun i hi=>by
   have hi:i < 2:=hi
   rcases (by omega:i=0∨i=1) with rfl | rfl
   · exact ha
   · exact hb⟩
theorem deep_le:∀ (m:Nat) (e:Ex),e.size < m→e.may=true→∀ low:Int,(e.txt low).2≤(e.txt low).1.length:=by
 intro m
 induction m with
 | zero=>intro e h; omega
 | succ m ih =>
  intro e hs hm low
  have core:e.core.2≤e.core.1.length:=by
   have hv:=view hm
   cases hv with
   | cst v hv h0=>rw [c_cst]; exact Nat.zero_le _
   | nam t n hn ht=>rw [c_nam]; exact Nat.zero_le _
   | un o a ho ha =>
    have hsz:=ly o a
    have ih:=ih a (by omega) ha
    have hcs:o=5∨o=4∨o=6∨o=7:=by omega
    rcases hcs with rfl | rfl | rfl | rfl
    · rw [s5]; have:=ih 3; simp only [List.length_append,List.length_cons,List.length_nil]; omega
    · rw [s6]; have:=ih 7; simp only [List.length_append,List.length_cons]; omega
    · rw [s7]; have:=ih 5; simp only [List.length_append,List.length_cons]; omega
    · rw [oT]; have:=ih 5; simp only [List.length_append,List.length_cons]; omega
   | bin o a b ho ha hb =>
    have hsz:=jM o a b
    have iha:=ih a (by omega) ha (if lvl o=4 then 5 else lvl o)
    have ihb:=ih b (by omega) hb (lvl o+1)
    rw [qt a b o ho.1]
    simp only [List.length_append,List.length_cons]; omega
  by_cases hlow:lvl e.o < low
  · rw [kQ hlow]; simp only [List.length_append,List.length_cons,List.length_nil]; omega
  · rw [cV hlow]; exact core
theorem bareX_eq (o:Int) (v:Val) (t n:List UInt8) (c:Int) (l:List Ex) (op:Int):(((((decide (o=op) && decide (v=Val.zero)) && decide (t=[])) && decide (n=[])) && decide (c=0)) && decide ((l.length:Int)=0))=bareX (.mk o v t n c l) op:=by
 unfold bareX
 rw [Bool.eq_iff_iff]
 simp only [Bool.and_eq_true,decide_eq_true_eq,Ex.mk.injEq]
 constructor
 · rintro ⟨⟨⟨⟨⟨h1,h2⟩,h3⟩,h4⟩,h5⟩,h6⟩
   exact ⟨h1,h2,h3,h4,h5,List.length_eq_zero_iff.1 (by omega)⟩
 · rintro ⟨h1,h2,h3,h4,h5,h6⟩
   exact ⟨⟨⟨⟨⟨h1,h2⟩,h3⟩,h4⟩,h5⟩,by rw [h6]; rfl⟩
theorem may_1 (v:Val) (t n:List UInt8) (c:Int) (l:List Ex):Ex.may (.mk 1 v t n c l)=((bareX (.mk 1 Val.zero t n c l) 1 && WK.may v) && (decide (v.k≠1) || decide (0≤v.n))):=by
 rw [Ex.may,if_pos rfl,Bool.and_assoc,decide_not]
theorem may_2 (v:Val) (t n:List UInt8) (c:Int) (l:List Ex):Ex.may (.mk 2 v t n c l)=((nameOk n && (decide (t=[]) || nameOk t)) && bareX (.mk 2 v [] [] c l) 2):=by
 rw [Ex.may,if_neg (by decide),if_pos rfl]
theorem may_no {o:Int} (v:Val) (t n:List UInt8) (c:Int) (l:List Ex) (h1:o≠1) (h2:o≠2) (h:o < 4∨21 < o):Ex.may (.mk o v t n c l)=false:=by
 rw [Ex.may,if_neg h1,if_neg h2,if_pos h]
theorem may_bad {o:Int} (v:Val) (t n:List UInt8) (c:Int) (l:List Ex) (h1:o≠1) (h2:o≠2) (h:((((decide ((l.length:Int)≠(arity o:Int)) || !decide (v=Val.zero)) || decide (t≠[])) || decide (n≠[])) || decide (c≠0))=true):Ex.may (.mk o v t n c l)=false:=by
 cases hm:Ex.may (.mk o v t n c l) with
 | false=>rfl
 | true =>
  exfalso
  rw [Ex.may,if_neg h1,if_neg h2] at hm
  split at hm
  · cases hm
  · simp only [Bool.and_eq_true,decide_eq_true_eq] at hm
    obtain ⟨⟨a1,a2,a3,a4,a5⟩,_⟩:=hm
    simp [a1,a2,a3,a4,a5] at h
theorem wl {o:Int} (v:Val) (t n:List UInt8) (c:Int) (l:List Ex) (h1:o≠1) (h2:o≠2) (ho:4≤o∧o≤21) (h:((((decide ((l.length:Int)≠(arity o:Int)) || !decide (v=Val.zero)) || decide (t≠[])) || decide (n≠[])) || decide (c≠0))=false):Ex.may (.mk o v t n c l)=l.all Ex.may:=by
 simp only [Bool.or_eq_false_iff,Bool.not_eq_false',decide_eq_true_eq,decide_eq_false_iff_not,Decidable.not_not] at h
 obtain ⟨⟨⟨⟨a1,a2⟩,a3⟩,a4⟩,a5⟩:=h
 rw [Ex.may,if_neg h1,if_neg h2,if_neg (by omega),decide_eq_true ⟨by omega,a2,a3,a4,a5⟩,Exs.may_iff,Bool.true_and]
theorem all_hit {l:List Ex} {i:Nat} (hi:i < l.length) (h:(l.getD i Ex.zero).may=false):l.all Ex.may=false:=by
 cases hh:l.all Ex.may with
 | false=>rfl
 | true =>
  have:=List.all_eq_true.1 hh (l.getD i Ex.zero) (by simp [List.getD,hi])
  rw [h] at this; cases this
theorem all_step {l:List Ex} {i:Nat} (hi:i < l.length) (h:(l.take i).all Ex.may=true) (h1:(l.getD i Ex.zero).may=true):(l.take (i+1)).all Ex.may=true:=by
 have e:l.take (i+1)=l.take i++[l.getD i Ex.zero]:=by rw [List.take_succ_eq_append_getElem hi]; simp [List.getD,hi]
 rw [e,List.all_append,h,Bool.true_and,List.all_cons,h1]; rfl
end Go.WK
namespace Go.WK
open Go.RowKit
structure SL where
 A:Option Addr
 k:Nat
def SL.nil:SL:=⟨none,0⟩
structure QLay where
 I:SL
 F:SL
 V:SL
 O:SL
structure Lay where
 C:SL
 N:SL
 R:SL
 S:SL
 W:SL
 q:QLay
def QLay.nil:QLay:=⟨.nil,.nil,.nil,.nil⟩
def Lay.nil:Lay:=⟨.nil,.nil,.nil,.nil,.nil,.nil⟩
abbrev bU (e:Ex) (y:SL):List Value:=[.int .i64 e.o,.int .i64 e.v.k,.int .i64 e.v.n,.string (B e.v.s),.string (B e.t),.string (B e.n),.int .i64 e.c,.slice y.A e.as.length y.k]
abbrev eQ (q:QryX) (y:QLay):List Value:=[.bool q.di,.bool q.st,.slice y.I.A q.items.length y.I.k,.slice y.F.A q.from_.length y.F.k,
 .int .i64 q.wh.o,.int .i64 q.wh.v.k,.int .i64 q.wh.v.n,.string (B q.wh.v.s),.string (B q.wh.t),.string (B q.wh.n),.int .i64 q.wh.c,.slice y.V.A q.wh.as.length y.V.k,.slice y.O.A q.ord.length y.O.k,.bool q.li,.int .i64 q.lim]
abbrev bL (s:StmtX) (y:Lay):List Value:=[.int .i64 s.k,.string (B s.t),.string (B s.n),.slice y.C.A s.cols.length y.C.k,.slice y.N.A s.on.length y.N.k,.bool s.un,.slice y.R.A s.rows.length y.R.k,.slice y.S.A s.sets.length y.S.k,
 .int .i64 s.wh.o,.int .i64 s.wh.v.k,.int .i64 s.wh.v.n,.string (B s.wh.v.s),.string (B s.wh.t),.string (B s.wh.n),.int .i64 s.wh.c,.slice y.W.A s.wh.as.length y.W.k,
 .bool s.q.di,.bool s.q.st,.slice y.q.I.A s.q.items.length y.q.I.k,.slice y.q.F.A s.q.from_.length y.q.F.k,
 .int .i64 s.q.wh.o,.int .i64 s.q.wh.v.k,.int .i64 s.q.wh.v.n,.string (B s.q.wh.v.s),.string (B s.q.wh.t),.string (B s.q.wh.n),.int .i64 s.q.wh.c,.slice y.q.V.A s.q.wh.as.length y.q.V.k,.slice y.q.O.A s.q.ord.length y.q.O.k,.bool s.q.li,.int .i64 s.q.lim]
def SlR {α:Type} (K:Kd α) (bl:List Nat) (w:World) (l:List α) (y:SL) (xs:List Value):Prop:=l.length≤y.k∧Rd w y.A xs∧(∀ a,y.A=some a→xs≠[]→a.block ∈ bl)∧K.seq bl w l xs
theorem seq_nil {α:Type} {K:Kd α} {bl:List Nat} {w:World} {l:List α} {xs:List Value} (h:K.seq bl w l xs) (hx:xs≠[]):l≠[]:=fun e=>hx (by subst e; exact h)
theorem sl_R {α:Type} {K:Kd α} {bl:List Nat} {w:World} {l:List α} {v:Value} (h:K.sl bl w l v):∃ y xs,v=.slice y.A l.length y.k∧SlR K bl w l y xs:=by
 obtain ⟨A,k,xs,h1,h2,h3,h4,h5⟩:=h
 exact ⟨⟨A,k⟩,xs,h1,h2,h3,fun a ha hx=>h4 a ha (seq_nil h5 hx),h5⟩
theorem SlR.stab {α:Type} {K:Kd α} {bl:List Nat} {w w1:World} {l:List α} {y:SL} {xs:List Value} (h:SlR K bl w l y xs) (hs:∀ k ∈ bl,w1.heap[k]? = w.heap[k]?):SlR K bl w1 l y xs :=
 ⟨h.1,h.2.1.same (fun a ha hne=>hs _ (h.2.2.1 a ha hne)),h.2.2.1,K.seq_stab hs h.2.2.2⟩
theorem SlR.mono {α:Type} {K:Kd α} {bl bl':List Nat} {w:World} {l:List α} {y:SL} {xs:List Value} (h:SlR K bl w l y xs) (hs:∀ k ∈ bl,k ∈ bl'):SlR K bl' w l y xs :=
 ⟨h.1,h.2.1,fun a ha hx=>hs _ (h.2.2.1 a ha hx),K.seq_mono hs h.2.2.2⟩
theorem SlR.rd {α:Type} {K:Kd α} {w:World} {L bl:List Nat} {l:List α} {y:SL} {xs:List Value} (h:SlR K bl w l y xs) (p:PE w L bl) (cx:Cx) (H:List Chunk) (e1:cx.w0=w) (e2:cx.lent=L):RdS cx H y.A xs:=p.rd h.2.1 h.2.2.1 cx H e1 e2
theorem SlR.rd0 {α:Type} {K:Kd α} {w:World} {bl:List Nat} {l:List α} {y:SL} {xs:List Value} (h:SlR K bl w l y xs) (cx:Cx) (H:List Chunk) (e1:cx.w0=w) (e2:cx.lent=[]):RdS cx H y.A xs:=RdS.lent (by rw [e1]; exact h.2.1) (fun b hb=>by rw [e2]; simp)
theorem SlR.len {α:Type} {K:Kd α} {bl:List Nat} {w:World} {l:List α} {y:SL} {xs:List Value} (h:SlR K bl w l y xs):xs.length=l.length * K.z:=K.seq_len h.2.2.2
theorem SlR.at {α:Type} {K:Kd α} {bl:List Nat} {w:World} {l:List α} {y:SL} {xs:List Value} (h:SlR K bl w l y xs) (zero:α) (i:Nat) (hi:i < l.length):∃ cs,(xs.drop (i * K.z)).take K.z=cs∧K.rel bl w (l.getD i zero) cs:=K.seq_at zero i h.2.2.2 hi
theorem aR {xs cs:List Value} {a z j:Nat} {v:Value} (h:(xs.drop a).take z=cs) (hv:cs[j]? = some v):xs[a+j]? = some v:=by
 rw [← h,List.getElem?_take] at hv
 split at hv
 · rwa [List.getElem?_drop] at hv
 · cases hv
def ExR (bl:List Nat) (w:World) (e:Ex) (y:SL):Prop:=ExK bl w e (bU e y)
theorem oV {bl:List Nat} {w:World} {e:Ex} {cs:List Value} (h:ExK bl w e cs):∃ y,cs=bU e y∧ExR bl w e y:=by
 have h':=h
 obtain ⟨o,v,t,n,c,as⟩:=e
 obtain ⟨A,k,xs,h1,_⟩:=h'
 exact ⟨⟨A,k⟩,h1,by unfold ExR; rw [← show _=bU (.mk o v t n c as) ⟨A,k⟩ from h1]; exact h⟩
structure QR_ (bl:List Nat) (w:World) (q:QryX) (y:QLay) (xI xF xO:List Value):Prop where
 I:SlR itemKd bl w q.items y.I xI
 F:SlR srcKd bl w q.from_ y.F xF
 V:ExR bl w q.wh y.V
 O:SlR ordKd bl w q.ord y.O xO
structure SR_ (bl:List Nat) (w:World) (s:StmtX) (y:Lay) (xC xN xR xS xI xF xO:List Value):Prop where
 C:SlR colKd bl w s.cols y.C xC
 N:SlR nameKd bl w s.on y.N xN
 R:SlR rowKd bl w s.rows y.R xR
 S:SlR setKd bl w s.sets y.S xS
 W:ExR bl w s.wh y.W
 q:QR_ bl w s.q y.q xI xF xO
def QAt (bl:List Nat) (w:World) (q:QryX) (y:QLay):Prop:=∃ xI xF xO,QR_ bl w q y xI xF xO
def SAt (bl:List Nat) (w:World) (s:StmtX) (y:Lay):Prop:=∃ xC xN xR xS xI xF xO,SR_ bl w s y xC xN xR xS xI xF xO
theorem ExR.stab {bl:List Nat} {w w1:World} {e:Ex} {y:SL} (h:ExR bl w e y) (hs:∀ k ∈ bl,w1.heap[k]? = w.heap[k]?):ExR bl w1 e y:=ExK.stab hs _ _ h
theorem ExR.mono {bl bl':List Nat} {w:World} {e:Ex} {y:SL} (h:ExR bl w e y) (hs:∀ k ∈ bl,k ∈ bl'):ExR bl' w e y:=ExK.mono hs _ _ h
theorem QAt.stab {bl:List Nat} {w w1:World} {q:QryX} {y:QLay} (h:QAt bl w q y) (hs:∀ k ∈ bl,w1.heap[k]? = w.heap[k]?):QAt bl w1 q y:=by
 obtain ⟨a,b,c,h⟩:=h
 exact ⟨a,b,c,h.I.stab hs,h.F.stab hs,h.V.stab hs,h.O.stab hs⟩
theorem QAt.mono {bl bl':List Nat} {w:World} {q:QryX} {y:QLay} (h:QAt bl w q y) (hs:∀ k ∈ bl,k ∈ bl'):QAt bl' w q y:=by
 obtain ⟨a,b,c,h⟩:=h
 exact ⟨a,b,c,h.I.mono hs,h.F.mono hs,h.V.mono hs,h.O.mono hs⟩
theorem SAt.stab {bl:List Nat} {w w1:World} {s:StmtX} {y:Lay} (h:SAt bl w s y) (hs:∀ k ∈ bl,w1.heap[k]? = w.heap[k]?):SAt bl w1 s y:=by
 obtain ⟨a,b,c,d,e,f,g,h⟩:=h
 obtain ⟨e',f',g',hq⟩:=QAt.stab ⟨e,f,g,h.q⟩ hs
 exact ⟨a,b,c,d,e',f',g',h.C.stab hs,h.N.stab hs,h.R.stab hs,h.S.stab hs,h.W.stab hs,hq⟩
theorem SAt.mono {bl bl':List Nat} {w:World} {s:StmtX} {y:Lay} (h:SAt bl w s y) (hs:∀ k ∈ bl,k ∈ bl'):SAt bl' w s y:=by
 obtain ⟨a,b,c,d,e,f,g,h⟩:=h
 obtain ⟨e',f',g',hq⟩:=QAt.mono ⟨e,f,g,h.q⟩ hs
 exact ⟨a,b,c,d,e',f',g',h.C.mono hs,h.N.mono hs,h.R.mono hs,h.S.mono hs,h.W.mono hs,hq⟩
theorem SAt.q {bl:List Nat} {w:World} {s:StmtX} {y:Lay} (h:SAt bl w s y):QAt bl w s.q y.q:=by
 obtain ⟨a,b,c,d,e,f,g,h⟩:=h
 exact ⟨e,f,g,h.q⟩
theorem s8 {bl:List Nat} {w:World} {s:StmtX} {cs:List Value} (h:StK bl w s cs):∃ y,cs=bL s y∧SAt bl w s y:=by
 obtain ⟨vC,vN,vR,vS,vI,vF,vO,ec,fc,rfl,h2⟩:=h
 obtain ⟨yC,xC,rfl,rC⟩:=sl_R h2.cols
 obtain ⟨yN,xN,rfl,rN⟩:=sl_R h2.on
 obtain ⟨yR,xR,rfl,rR⟩:=sl_R h2.rows
 obtain ⟨yS,xS,rfl,rS⟩:=sl_R h2.sets
 obtain ⟨yW,rfl,rW⟩:=oV h2.wh
 obtain ⟨yI,xI,rfl,rI⟩:=sl_R h2.q.items
 obtain ⟨yF,xF,rfl,rF⟩:=sl_R h2.q.from_
 obtain ⟨yV,rfl,rV⟩:=oV h2.q.wh
 obtain ⟨yO,xO,rfl,rO⟩:=sl_R h2.q.ord
 exact ⟨⟨yC,yN,yR,yS,yW,⟨yI,yF,yV,yO⟩⟩,rfl,xC,xN,xR,xS,xI,xF,xO,rC,rN,rR,rS,rW,rI,rF,rV,rO⟩
structure QOk (q:QryX):Prop where
 items:∀ i,i < q.items.length→(q.items.getD i ItemX.zero).e.ok
 from_:∀ i,i < q.from_.length→(q.from_.getD i SrcX.zero).e.ok
 wh:q.wh.ok
 lim:inR q.lim=true
structure SOk (s:StmtX):Prop where
 k:-9223372036854775808≤s.k∧s.k≤9223372036854775807
 cols:∀ i,i < s.cols.length→-9223372036854775808≤(s.cols.getD i ColX.zero).k∧(s.cols.getD i ColX.zero).k≤9223372036854775807
 rows:∀ i,i < s.rows.length→∀ j,j < (s.rows.getD i []).length→((s.rows.getD i []).getD j Ex.zero).ok
 sets:∀ i,i < s.sets.length→(s.sets.getD i SetX.zero).e.ok
 wh:s.wh.ok
 q:QOk s.q
theorem fu {g:Nat→Bool}:∀ {n i:Nat},ck g n=true→i < n→g i=true
 | 0,i,_,h=>by omega
 | n+1,i,h,hi=>by
  simp only [ck,Bool.and_eq_true] at h
  rcases Nat.lt_or_ge i n with h1 | h1
  · exact fu h.1 h1
  · obtain rfl:i=n:=by omega
    exact h.2
theorem mZ {e:Ex}:fg e=true↔e=Ex.zero:=by
 obtain ⟨o,v,t,n,c,as⟩:=e
 unfold fg bareX Ex.zero
 rw [decide_eq_true_eq]
theorem may_pos {e:Ex} (h:e.may=true):e.o≠0:=by
 obtain ⟨o,v,t,n,c,as⟩:=e
 have:=(qv h).1
 show o≠0
 omega
theorem mw {e:Ex} (h:mayb e=true) (ho:e.o≠0):e.may=true:=by
 unfold mayb at h
 simp only [Bool.or_eq_true] at h
 rcases h with h | h
 · exact absurd (by rw [mZ.1 h]; rfl) ho
 · exact h
theorem xM {e:Ex} (h:mayb e=true) (ho:e.o=0):e=Ex.zero:=by
 unfold mayb at h
 simp only [Bool.or_eq_true] at h
 rcases h with h | h
 · exact mZ.1 h
 · exact absurd ho (may_pos h)
end Go.WK
namespace Go.WK
open Go.RowKit
section ops
variable {m:Bool} {cx:Cx} {fs:aW} {H:List Chunk} {Q:co} {ops:Array Oper} {rest:List Oper} {g:Option (Nat × Bool)} {d:Nat} {ty:TypeId} {pos:String} {af:Array Edge}
theorem qw {x y:Operand} {t e n:Nat} {ki:IntKind} {i:Int} {cs:List Value} {v:Value} (ht:cx.P.underlying t=some (.array n e)) (he:cF cx.P e=some false) (hs:szB cx.P e=some 1) (hok:okS cx.n ops fs d g=true) (hx:ev fs x=some (.agg cs.toArray)) (hy:ev fs y=some (.int ki i))
  (h0:0≤i) (h1:i < n) (hl:cs.length=n) (hv:cs[i.toNat]? = some v) (k:TriX m cx ops ((d,v)::fs) H rest Q):TriX m cx ops fs H (⟨some d,.index t x y,ty,pos,af,g⟩::rest) Q :=
 bd _ hok (fun a w ha _=>by
  have hb:i.toNat+1≤cs.length:=by omega
  obtain ⟨hi,hv2⟩:=List.getElem?_eq_some_iff.1 hv
  simp [execOp,ha.eval hx,ha.eval hy,Instr.index,asIntOf,run_underlying ht,dq hs,h0,h1,part,ez he,hv]) k
end ops
theorem uM {cx:Cx} {F:List Chunk} {w:World} {pb:Nat} {A:Option Addr} {c:Nat} {l:List UInt8} {d m:Int} (h:Sat cx (F++prD pb A c l d m) w) {ch:Chunk} (hc:ch ∈ F) {k:Nat} (hk:ch.fp k):k ∉ prL pb A:=fun hm=>by
 obtain ⟨x,hx,hf⟩:=prD2 pb A c l d m k hm
 exact (List.pairwise_append.1 h.apart).2.2 ch hc x hx k hk hf
theorem PE.cons {w:World} {L bl:List Nat} {k:Nat} (h:PE w L bl) (h1:k < w.heap.size) (h2:k ∉ L):PE w L (k::bl) :=
 ⟨fun j hj=>by rcases List.mem_cons.1 hj with rfl | hj; exact ⟨h1,h2⟩; exact h.lt j hj,h.g⟩
structure CEnv (w:World) (bl:List Nat) (bp pb bx:Nat) (cs:List Value):Prop where
 p:Rd w (some ⟨bp,0,none⟩) [.pointer (some ⟨pb,0,none⟩)]
 x:Rd w (some ⟨bx,0,none⟩) cs
 bp:bp ∈ bl
 bx:bx ∈ bl
theorem CEnv.stab {w w1:World} {bl:List Nat} {bp pb bx:Nat} {cs:List Value} (h:CEnv w bl bp pb bx cs) (hs:∀ k ∈ bl,w1.heap[k]? = w.heap[k]?):CEnv w1 bl bp pb bx cs :=
 ⟨h.p.same (fun a ha _=>by cases ha; exact hs _ h.bp),h.x.same (fun a ha _=>by cases ha; exact hs _ h.bx),h.bp,h.bx⟩
theorem CEnv.mono {w:World} {bl bl':List Nat} {bp pb bx:Nat} {cs:List Value} (h:CEnv w bl bp pb bx cs) (hs:∀ k ∈ bl,k ∈ bl'):CEnv w bl' bp pb bx cs:=⟨h.p,h.x,hs _ h.bp,hs _ h.bx⟩
theorem CEnv.rp {w:World} {L bl:List Nat} {bp pb bx:Nat} {cs:List Value} (h:CEnv w bl bp pb bx cs) (p:PE w L bl) (cx:Cx) (H:List Chunk) (e1:cx.w0=w) (e2:cx.lent=L):RdS cx H (some ⟨bp,0,none⟩) [.pointer (some ⟨pb,0,none⟩)]:=p.rd h.p (fun a ha _=>by cases ha; exact h.bp) cx H e1 e2
theorem CEnv.rx {w:World} {L bl:List Nat} {bp pb bx:Nat} {cs:List Value} (h:CEnv w bl bp pb bx cs) (p:PE w L bl) (cx:Cx) (H:List Chunk) (e1:cx.w0=w) (e2:cx.lent=L):RdS cx H (some ⟨bx,0,none⟩) cs:=p.rd h.x (fun a ha _=>by cases ha; exact h.bx) cx H e1 e2
theorem cenv {P:Program} {n:Nat} {w w1:World} {L bl:List Nat} {F:List Chunk} {pb:Nat} {A:Option Addr} {c:Nat} {l:List UInt8} {d m:Int} (hV:PE w L bl) (h1:Sat ⟨P,n,[],w,L⟩ (F++prD pb A c l d m) w1) {bp bx t1 t2:Nat} {cs:List Value}
  {i j:Nat} (hp:Nth F i (box bp t1 [.pointer (some ⟨pb,0,none⟩)])) (hx:Nth F j (box bx t2 cs)):PE w1 (prL pb A) (bp::bx::bl)∧CEnv w1 (bp::bx::bl) bp pb bx cs:=by
 have hs:PSub w L w1 (prL pb A):=PSub.of h1 (fun x hx=>List.mem_append_right _ hx)
 have np:=uM h1 hp.mem (k:=bp) rfl
 have nx:=uM h1 hx.mem (k:=bx) rfl
 have lp:=h1.lt (List.mem_append_left _ hp.mem) (k:=bp) rfl
 have lx:=h1.lt (List.mem_append_left _ hx.mem) (k:=bx) rfl
 have rd:∀ {b t:Nat} {cs:List Value},box b t cs ∈ F→Rd w1 (some ⟨b,0,none⟩) cs:=fun {b t cs} hm j u hj=>by
  have hb:w1.heap[b]? = some (.cells cs.toArray t (0,0)):=h1.holds _ (List.mem_append_left _ hm)
  exact ⟨_,rfl,by rw [jU,Nat.zero_add,cell_of_row w1 b j cs.toArray t (0,0) hb]; simpa using hj⟩
 exact ⟨((hV.sub hs).cons lx nx).cons lp np,rd hp.mem,rd hx.mem,List.mem_cons_self,List.mem_cons_of_mem _ List.mem_cons_self⟩
theorem gV {xs p cs r:List Value} {a z:Nat} (h:(xs.drop a).take z=p++(cs++r)):(xs.drop (a+p.length)).take cs.length=cs:=by
 have h2:((xs.drop a).take z).drop p.length=cs++r:=by rw [h,List.drop_left]
 rw [List.drop_take,List.drop_drop] at h2
 have h3:(((xs.drop (a+p.length)).take (z - p.length))).take cs.length=cs:=by rw [h2,List.take_left]
 rw [List.take_take] at h3
 have hl:cs.length≤z - p.length:=by
  have:=congrArg List.length h2
  simp only [List.length_take,List.length_append] at this
  omega
 rwa [Nat.min_eq_left hl] at h3
theorem nY {bl:List Nat} {w:World} {l:List ItemX} {y:SL} {xs:List Value} (h:SlR itemKd bl w l y xs) (i:Nat) (hi:i < l.length):∃ ye,(xs.drop (i * 9)).take 9=bU (l.getD i ItemX.zero).e ye++[.string (B (l.getD i ItemX.zero).s)]∧ExR bl w (l.getD i ItemX.zero).e ye:=by
 obtain ⟨cs,h1,ce,rfl,h3⟩:=h.at ItemX.zero i hi
 obtain ⟨ye,rfl,h4⟩:=oV h3
 exact ⟨ye,h1,h4⟩
theorem rs {bl:List Nat} {w:World} {l:List SrcX} {y:SL} {xs:List Value} (h:SlR srcKd bl w l y xs) (i:Nat) (hi:i < l.length):∃ ye,(xs.drop (i * 10)).take 10=[.string (B (l.getD i SrcX.zero).t),.string (B (l.getD i SrcX.zero).s)]++bU (l.getD i SrcX.zero).e ye∧ExR bl w (l.getD i SrcX.zero).e ye:=by
 obtain ⟨cs,h1,ce,rfl,h3⟩:=h.at SrcX.zero i hi
 obtain ⟨ye,rfl,h4⟩:=oV h3
 exact ⟨ye,h1,h4⟩
theorem rt {bl:List Nat} {w:World} {l:List SetX} {y:SL} {xs:List Value} (h:SlR setKd bl w l y xs) (i:Nat) (hi:i < l.length):∃ ye,(xs.drop (i * 9)).take 9=[.string (B (l.getD i SetX.zero).n)]++bU (l.getD i SetX.zero).e ye∧ExR bl w (l.getD i SetX.zero).e ye:=by
 obtain ⟨cs,h1,ce,rfl,h3⟩:=h.at SetX.zero i hi
 obtain ⟨ye,rfl,h4⟩:=oV h3
 exact ⟨ye,h1,h4⟩
theorem ru {bl:List Nat} {w:World} {l:List ColX} {y:SL} {xs:List Value} (h:SlR colKd bl w l y xs) (i:Nat) (hi:i < l.length):(xs.drop (i * 3)).take 3=[.string (B (l.getD i ColX.zero).n),.int .i64 (l.getD i ColX.zero).k,.bool (l.getD i ColX.zero).b]:=by
 obtain ⟨cs,h1,rfl⟩:=h.at ColX.zero i hi
 exact h1
theorem rv {bl:List Nat} {w:World} {l:List OrdX} {y:SL} {xs:List Value} (h:SlR ordKd bl w l y xs) (i:Nat) (hi:i < l.length):(xs.drop (i * 2)).take 2=[.string (B (l.getD i OrdX.zero).n),.bool (l.getD i OrdX.zero).b]:=by
 obtain ⟨cs,h1,rfl⟩:=h.at OrdX.zero i hi
 exact h1
theorem nZ {bl:List Nat} {w:World} {l:List (List UInt8)} {y:SL} {xs:List Value} (h:SlR nameKd bl w l y xs) (i:Nat) (hi:i < l.length):(xs.drop (i * 1)).take 1=[.string (B (l.getD i []))]:=by
 obtain ⟨cs,h1,rfl⟩:=h.at ([]:List UInt8) i hi
 exact h1
theorem mx {bl:List Nat} {w:World} {l:List (List Ex)} {y:SL} {xs:List Value} (h:SlR rowKd bl w l y xs) (i:Nat) (hi:i < l.length):∃ yr xr,(xs.drop (i * 1)).take 1=[.slice yr.A (l.getD i []).length yr.k]∧SlR dU bl w (l.getD i []) yr xr:=by
 obtain ⟨cs,h1,v,rfl,h3⟩:=h.at ([]:List Ex) i hi
 obtain ⟨yr,xr,rfl,h4⟩:=sl_R h3
 exact ⟨yr,xr,h1,h4⟩
theorem ex_at {bl:List Nat} {w:World} {l:List Ex} {y:SL} {xs:List Value} (h:SlR dU bl w l y xs) (i:Nat) (hi:i < l.length):∃ ye,(xs.drop (i * 8)).take 8=bU (l.getD i Ex.zero) ye∧ExR bl w (l.getD i Ex.zero) ye:=by
 obtain ⟨cs,h1,h3⟩:=h.at Ex.zero i hi
 obtain ⟨ye,rfl,h4⟩:=oV h3
 exact ⟨ye,h1,h4⟩
end Go.WK
namespace Go.WK
open Go.RowKit
theorem benv {P:Program} {n:Nat} {w w1:World} {L:List Nat} {F:List Chunk} {pb:Nat} {A:Option Addr} {c:Nat} {l:List UInt8} {d m:Int} (h1:Sat ⟨P,n,[],w,L⟩ (F++prD pb A c l d m) w1) {b t:Nat} {cs:List Value} {i:Nat} (hb:Nth F i (box b t cs)) :
  Rd w1 (some ⟨b,0,none⟩) cs∧b < w1.heap.size∧b ∉ prL pb A:=by
 refine ⟨fun j u hj=>?_,h1.lt (List.mem_append_left _ hb.mem) (k:=b) rfl,uM h1 hb.mem (k:=b) rfl⟩
 have hh:w1.heap[b]? = some (.cells cs.toArray t (0,0)):=h1.holds _ (List.mem_append_left _ hb.mem)
 exact ⟨_,rfl,by rw [jU,Nat.zero_add,cell_of_row w1 b j cs.toArray t (0,0) hh]; simpa using hj⟩
theorem kd_get {k:Int} (h:1≤k∧k≤3):([.string (B []),.string (B [32,105,110,116]),.string (B [32,116,101,120,116]),.string (B [32,98,111,111,108])]:List Value)[k.toNat]? = some (.string (B (nA k))):=by
 rcases (by omega:k=1∨k=2∨k=3) with rfl | rfl | rfl<;>rfl
theorem mayCol_k {a:ColX} (h:mayCol a=true):1≤a.k∧a.k≤3:=by
 unfold mayCol at h
 simp only [Bool.and_eq_true,decide_eq_true_eq] at h
 exact h.2
theorem maySet_1 {a:SetX} (h:maySet a=true):a.e.may=true:=by
 unfold maySet at h
 simp only [Bool.and_eq_true] at h
 exact h.2
theorem wn {n k:Nat} (h:gh n k=true):n≤k:=by
 unfold gh at h
 simp only [Bool.and_eq_true,decide_eq_true_eq] at h
 exact h.2
theorem mayRow_p {l:List Ex} (h:mayRow l=true):l.length≤16∧∀ k,k < l.length→(l.getD k Ex.zero).may=true:=by
 unfold mayRow at h
 simp only [Bool.and_eq_true] at h
 exact ⟨wn h.1,fun k hk=>fu h.2 hk⟩
section
variable {s:StmtX}
theorem st_1 (h:s.k=1):stmT s=cat (raw ([99,114,101,97,116,101,32,116,97,98,108,101,32]++(s.t++[32,40]))) (cat (eX (fun i=>kR (s.cols.getD i ColX.zero)) s.cols.length) (raw [41])):=by unfold stmT; rw [if_pos h]
theorem st_2 (h:s.k=2):stmT s=raw ([100,114,111,112,32,116,97,98,108,101,32]++s.t):=by unfold stmT; rw [if_neg (by omega),if_pos h]
theorem st_3 (h:s.k=3):stmT s=cat (raw ([99,114,101,97,116,101,32]++((if s.un=true then [117,110,105,113,117,101,32] else [])++([105,110,100,101,120,32]++(s.n++([32,111,110,32]++(s.t++[32,40]))))))) (cat (eX (fun i=>raw (s.on.getD i [])) s.on.length) (raw [41])):=by unfold stmT; rw [if_neg (by omega),if_neg (by omega),if_pos h]
theorem st_4 (h:s.k=4):stmT s=raw ([100,114,111,112,32,105,110,100,101,120,32]++s.n):=by unfold stmT; rw [if_neg (by omega),if_neg (by omega),if_neg (by omega),if_pos h]
theorem st_5 (h:s.k=5):stmT s=cat (raw ([105,110,115,101,114,116,32,105,110,116,111,32]++(s.t++[32,118,97,108,117,101,115,32]))) (eX (fun i=>iz (s.rows.getD i [])) s.rows.length):=by unfold stmT; rw [if_neg (by omega),if_neg (by omega),if_neg (by omega),if_neg (by omega),if_pos h]
theorem st_6 (h:s.k=6):stmT s=cat (raw ([100,101,108,101,116,101,32,102,114,111,109,32]++s.t)) (cT s.wh):=by unfold stmT; rw [if_neg (by omega),if_neg (by omega),if_neg (by omega),if_neg (by omega),if_neg (by omega),if_pos h]
theorem st_7 (h:s.k=7):stmT s=cat (raw ([117,112,100,97,116,101,32]++(s.t++[32,115,101,116,32]))) (cat (eX (fun i=>js (s.sets.getD i SetX.zero)) s.sets.length) (cT s.wh)):=by unfold stmT; rw [if_neg (by omega),if_neg (by omega),if_neg (by omega),if_neg (by omega),if_neg (by omega),if_neg (by omega),if_pos h]
theorem st_8 (h:s.k=8):stmT s=jK s.q:=by unfold stmT; rw [if_neg (by omega),if_neg (by omega),if_neg (by omega),if_neg (by omega),if_neg (by omega),if_neg (by omega),if_neg (by omega),if_pos h]
theorem st_9 (h:s.k=9):stmT s=raw [98,101,103,105,110]:=by unfold stmT; rw [if_neg (by omega),if_neg (by omega),if_neg (by omega),if_neg (by omega),if_neg (by omega),if_neg (by omega),if_neg (by omega),if_neg (by omega),if_pos h]
theorem st_10 (h:s.k=10):stmT s=raw [99,111,109,109,105,116]:=by unfold stmT; rw [if_neg (by omega),if_neg (by omega),if_neg (by omega),if_neg (by omega),if_neg (by omega),if_neg (by omega),if_neg (by omega),if_neg (by omega),if_neg (by omega),if_pos h]
theorem st_11 (h:s.k=11):stmT s=raw [114,111,108,108,98,97,99,107]:=by unfold stmT; rw [if_neg (by omega),if_neg (by omega),if_neg (by omega),if_neg (by omega),if_neg (by omega),if_neg (by omega),if_neg (by omega),if_neg (by omega),if_neg (by omega),if_neg (by omega),if_pos h]
theorem part_1 (h:s.k=1):dh s=(nameOk s.t && (gh s.cols.length 16 && ck (fun i=>mayCol (s.cols.getD i ColX.zero)) s.cols.length)):=by unfold dh; rw [if_pos h]
theorem part_2 (h:s.k=2):dh s=nameOk s.t:=by unfold dh; rw [if_neg (by omega),if_pos h]
theorem part_3 (h:s.k=3):dh s=(nameOk s.t && (nameOk s.n && (gh s.on.length 16 && ck (fun i=>nameOk (s.on.getD i [])) s.on.length))):=by unfold dh; rw [if_neg (by omega),if_neg (by omega),if_pos h]
theorem part_4 (h:s.k=4):dh s=nameOk s.n:=by unfold dh; rw [if_neg (by omega),if_neg (by omega),if_neg (by omega),if_pos h]
theorem uN (h:s.k=5):dh s=(nameOk s.t && (decide (0 < s.rows.length) && ck (fun i=>mayRow (s.rows.getD i [])) s.rows.length)):=by unfold dh; rw [if_neg (by omega),if_neg (by omega),if_neg (by omega),if_neg (by omega),if_pos h]
theorem ry (h:s.k=6):dh s=(nameOk s.t && mayb s.wh):=by unfold dh; rw [if_neg (by omega),if_neg (by omega),if_neg (by omega),if_neg (by omega),if_neg (by omega),if_pos h]
theorem oW (h:s.k=7):dh s=(nameOk s.t && (gh s.sets.length 16 && (mayb s.wh && ck (fun i=>maySet (s.sets.getD i SetX.zero)) s.sets.length))):=by unfold dh; rw [if_neg (by omega),if_neg (by omega),if_neg (by omega),if_neg (by omega),if_neg (by omega),if_neg (by omega),if_pos h]
theorem rz (h:s.k=8):dh s=jI s.q:=by unfold dh; rw [if_neg (by omega),if_neg (by omega),if_neg (by omega),if_neg (by omega),if_neg (by omega),if_neg (by omega),if_neg (by omega),if_pos h]
theorem oX (h:¬ (1≤s.k∧s.k≤8)):dh s=decide (9≤s.k∧s.k≤11):=by unfold dh; rw [if_neg (by omega),if_neg (by omega),if_neg (by omega),if_neg (by omega),if_neg (by omega),if_neg (by omega),if_neg (by omega),if_neg (by omega)]
end
end Go.WK
namespace Go.WK
open Go.RowKit
abbrev BIG_:Nat:=70368744177664
structure QBd (q:QryX):Prop where
 ni:q.items.length≤BIG_
 nf:q.from_.length≤BIG_
 no:q.ord.length≤BIG_
 items:∀ i,i < q.items.length→(q.items.getD i ItemX.zero).e.size≤BIG_∧(q.items.getD i ItemX.zero).s.length≤BIG_
 from_:∀ i,i < q.from_.length→(q.from_.getD i SrcX.zero).e.size≤BIG_∧(q.from_.getD i SrcX.zero).t.length≤BIG_∧(q.from_.getD i SrcX.zero).s.length≤BIG_
 ord:∀ i,i < q.ord.length→(q.ord.getD i OrdX.zero).n.length≤BIG_
 wh:q.wh.size≤BIG_
structure SBd (s:StmtX):Prop where
 t:s.t.length≤BIG_
 n:s.n.length≤BIG_
 nc:s.cols.length≤BIG_
 nn:s.on.length≤BIG_
 nr:s.rows.length≤BIG_
 ns:s.sets.length≤BIG_
 cols:∀ i,i < s.cols.length→(s.cols.getD i ColX.zero).n.length≤BIG_
 on:∀ i,i < s.on.length→(s.on.getD i []).length≤BIG_
 rows:∀ i,i < s.rows.length→(s.rows.getD i []).length≤BIG_∧∀ j,j < (s.rows.getD i []).length→((s.rows.getD i []).getD j Ex.zero).size≤BIG_
 sets:∀ i,i < s.sets.length→(s.sets.getD i SetX.zero).e.size≤BIG_∧(s.sets.getD i SetX.zero).n.length≤BIG_
 wh:s.wh.size≤BIG_
 q:QBd s.q
def mqA (q:QryX):Bool:=(((mayb q.wh && decide ((q.from_.length:Int)≤4)) && decide ((q.ord.length:Int)≤16)) && decide (0≤q.lim)) && (q.li || decide (q.lim=0))
def mqB (q:QryX):Bool:=if q.st=true then decide ((q.items.length:Int)=0) else gh q.items.length 16
theorem mayQ_eq (q:QryX):((((mqA q && mqB q) && ck (fun i=>mayI (q.items.getD i ItemX.zero)) q.items.length) && ck (fun i=>mayF i (q.from_.getD i SrcX.zero)) q.from_.length) && ck (fun i=>nameOk (q.ord.getD i OrdX.zero).n) q.ord.length)=jI q:=by
 unfold jI mqA mqB
 have e1:decide ((q.from_.length:Int)≤4)=decide (q.from_.length≤4):=decide_eq_decide.2 (by omega)
 have e2:decide ((q.ord.length:Int)≤16)=decide (q.ord.length≤16):=decide_eq_decide.2 (by omega)
 have e3:decide ((q.items.length:Int)=0)=decide (q.items.length=0):=decide_eq_decide.2 (by omega)
 rw [e1,e2,e3]
 simp only [Bool.and_assoc]
theorem xP (b:Bool) (g:Nat→ItemX) (i:Nat):(((b && ck (fun i=>mayI (g i)) i) && (g i).e.may) && (decide ((g i).s=[]) || nameOk (g i).s))=(b && ck (fun i=>mayI (g i)) (i+1)):=by
 simp only [ck,mayI,Bool.and_assoc]
theorem xQ (b:Bool) (g:Nat→SrcX) (i:Nat):((((b && ck (fun i=>mayF i (g i)) i) && nameOk (g i).t) && (decide ((g i).s=[]) || nameOk (g i).s)) && ((decide ((i:Int)=0) && fg (g i).e) || (decide (0 < (i:Int)) && (g i).e.may)))=(b && ck (fun i=>mayF i (g i)) (i+1)):=by
 simp only [ck,mayF,Bool.and_assoc]
 by_cases h:i=0
 · subst h
   rw [if_pos rfl,decide_eq_true (show ((0:Nat):Int)=0 by rfl),decide_eq_false (show ¬ 0 < ((0:Nat):Int) by decide)]; simp
 · rw [if_neg h,decide_eq_false (show ¬ (i:Int)=0 by omega),decide_eq_true (show 0 < (i:Int) by omega)]; simp
theorem qx (b:Bool) (g:Nat→List UInt8) (i:Nat):((b && ck (fun i=>nameOk (g i)) i) && nameOk (g i))=(b && ck (fun i=>nameOk (g i)) (i+1)):=by
 simp only [ck,Bool.and_assoc]
theorem col_step (b:Bool) (g:Nat→ColX) (i:Nat):((((b && ck (fun i=>mayCol (g i)) i) && nameOk (g i).n) && decide (1≤(g i).k)) && decide ((g i).k≤3))=(b && ck (fun i=>mayCol (g i)) (i+1)):=by
 simp only [ck,mayCol,Bool.and_assoc]
theorem set_step (b:Bool) (g:Nat→SetX) (i:Nat):(((b && ck (fun i=>maySet (g i)) i) && nameOk (g i).n) && (g i).e.may)=(b && ck (fun i=>maySet (g i)) (i+1)):=by
 simp only [ck,maySet,Bool.and_assoc]
theorem ex_step (b:Bool) (g:Nat→Ex) (i:Nat):((b && ck (fun i=>(g i).may) i) && (g i).may)=(b && ck (fun i=>(g i).may) (i+1)):=by
 simp only [ck,Bool.and_assoc]
theorem row_step (b:Bool) (g:Nat→List Ex) (i:Nat):(((b && ck (fun i=>mayRow (g i)) i) && gh (g i).length 16) && ck (fun k=>((g i).getD k Ex.zero).may) (g i).length)=(b && ck (fun i=>mayRow (g i)) (i+1)):=by
 simp only [ck,mayRow,Bool.and_assoc]
def restB (s t:StmtX):Bool :=
 (((((((((((((((decide (s.t=t.t) && decide (s.n=t.n)) && decide ((s.cols.length:Int)=t.cols.length)) && decide ((s.on.length:Int)=t.on.length)) && (s.un == t.un)) && decide ((s.rows.length:Int)=t.rows.length)) && decide ((s.sets.length:Int)=t.sets.length)) && (decide (s.wh.o=t.wh.o) && (decide (t.wh.o≠0) || fg s.wh))) && (s.q.di == t.q.di)) && (s.q.st == t.q.st)) && decide ((s.q.items.length:Int)=t.q.items.length)) && decide ((s.q.from_.length:Int)=t.q.from_.length)) && (decide (s.q.wh.o=t.q.wh.o) && (decide (t.q.wh.o≠0) || fg s.q.wh))) && decide ((s.q.ord.length:Int)=t.q.ord.length)) && (s.q.li == t.q.li)) && decide (s.q.lim=t.q.lim))
theorem lackB (e:Ex):fg e=decide (e=Ex.zero):=by
 rw [Bool.eq_iff_iff,mZ,decide_eq_true_eq]
section
variable {s:StmtX}
theorem keep_1 (h:s.k=1):eu s = { StmtX.zero with k:=1,t:=s.t,cols:=s.cols }:=by unfold eu; rw [if_pos h]
theorem keep_2 (h:s.k=2):eu s = { StmtX.zero with k:=2,t:=s.t }:=by unfold eu; rw [if_neg (by omega),if_pos h]
theorem keep_3 (h:s.k=3):eu s = { StmtX.zero with k:=3,t:=s.t,n:=s.n,on:=s.on,un:=s.un }:=by unfold eu; rw [if_neg (by omega),if_neg (by omega),if_pos h]
theorem keep_4 (h:s.k=4):eu s = { StmtX.zero with k:=4,n:=s.n }:=by unfold eu; rw [if_neg (by omega),if_neg (by omega),if_neg (by omega),if_pos h]
theorem keep_5 (h:s.k=5):eu s = { StmtX.zero with k:=5,t:=s.t,rows:=s.rows }:=by unfold eu; rw [if_neg (by omega),if_neg (by omega),if_neg (by omega),if_neg (by omega),if_pos h]
theorem keep_6 (h:s.k=6):eu s = { StmtX.zero with k:=6,t:=s.t,wh:=s.wh }:=by unfold eu; rw [if_neg (by omega),if_neg (by omega),if_neg (by omega),if_neg (by omega),if_neg (by omega),if_pos h]
theorem keep_7 (h:s.k=7):eu s = { StmtX.zero with k:=7,t:=s.t,sets:=s.sets,wh:=s.wh }:=by unfold eu; rw [if_neg (by omega),if_neg (by omega),if_neg (by omega),if_neg (by omega),if_neg (by omega),if_neg (by omega),if_pos h]
theorem keep_8 (h:s.k=8):eu s = { StmtX.zero with k:=8,q:=s.q }:=by unfold eu; rw [if_neg (by omega),if_neg (by omega),if_neg (by omega),if_neg (by omega),if_neg (by omega),if_neg (by omega),if_neg (by omega),if_pos h]
theorem uO (h:¬ (1≤s.k∧s.k≤8)):eu s = { StmtX.zero with k:=s.k }:=by unfold eu; rw [if_neg (by omega),if_neg (by omega),if_neg (by omega),if_neg (by omega),if_neg (by omega),if_neg (by omega),if_neg (by omega),if_neg (by omega)]
end
theorem len0 {α:Type} (l:List α):((l.length:Int)=(([]:List α).length:Int))↔l=[]:=by
 rw [← List.length_eq_zero_iff]; simp
theorem wq (e:Ex):(decide (e.o=Ex.zero.o) && (decide (Ex.zero.o≠0) || fg e))=true↔e=Ex.zero:=by
 have h0:Ex.zero.o=0:=rfl
 rw [h0,lackB]
 simp only [ne_eq,not_true_eq_false,decide_false,Bool.false_or,Bool.and_eq_true,decide_eq_true_eq]
 exact ⟨fun h=>h.2,fun h=>⟨by rw [h]; rfl,h⟩⟩
theorem wr {e:Ex} (h:mayb e=true):(decide (e.o=e.o) && (decide (e.o≠0) || fg e))=true:=by
 rw [decide_eq_true rfl,Bool.true_and]
 by_cases h0:e.o=0
 · rw [xM h h0]; rfl
 · rw [decide_eq_true h0]; rfl
theorem mayQ_wh {q:QryX} (h:jI q=true):mayb q.wh=true:=by
 unfold jI at h
 simp only [Bool.and_eq_true] at h
 exact h.1.1
theorem gk {s t:StmtX} (hk:s.k=t.k) (hc:s.cols=t.cols∨t.cols=[]) (hn:s.on=t.on∨t.on=[]) (hr:s.rows=t.rows∨t.rows=[]) (hs:s.sets=t.sets∨t.sets=[]) (hw:(t.wh=s.wh∧mayb s.wh=true)∨t.wh=Ex.zero)
  (hq:(t.q=s.q∧mayb s.q.wh=true)∨t.q=QryX.zero):restB s t=decide (s=t):=by
 have L:∀ {α:Type} (a b:List α),(a=b∨b=[])→(((a.length:Int)=(b.length:Int))↔a=b):=fun a b h=>by
  rcases h with h | h
  · subst h; simp
  · subst h; exact len0 a
 have hW:(decide (s.wh.o=t.wh.o) && (decide (t.wh.o≠0) || fg s.wh))=true↔s.wh=t.wh:=by
  rcases hw with ⟨h1,h2⟩ | h1
  · rw [h1]; exact iff_of_true (wr h2) rfl
  · rw [h1]; exact wq _
 have hV:(decide (s.q.wh.o=t.q.wh.o) && (decide (t.q.wh.o≠0) || fg s.q.wh))=true↔s.q.wh=t.q.wh:=by
  rcases hq with ⟨h1,h2⟩ | h1
  · rw [h1]; exact iff_of_true (wr h2) rfl
  · rw [h1]; exact wq _
 have hI:s.q.items=t.q.items∨t.q.items=[]:=by
  rcases hq with ⟨h1,_⟩ | h1
  · exact .inl (by rw [h1])
  · exact .inr (by rw [h1]; rfl)
 have hF:s.q.from_=t.q.from_∨t.q.from_=[]:=by
  rcases hq with ⟨h1,_⟩ | h1
  · exact .inl (by rw [h1])
  · exact .inr (by rw [h1]; rfl)
 have hO:s.q.ord=t.q.ord∨t.q.ord=[]:=by
  rcases hq with ⟨h1,_⟩ | h1
  · exact .inl (by rw [h1])
  · exact .inr (by rw [h1]; rfl)
 rw [Bool.eq_iff_iff,decide_eq_true_eq]
 unfold restB
 obtain ⟨bW,hbW⟩:∃ b,b=(decide (s.wh.o=t.wh.o) && (decide (t.wh.o≠0) || fg s.wh)):=⟨_,rfl⟩
 obtain ⟨bV,hbV⟩:∃ b,b=(decide (s.q.wh.o=t.q.wh.o) && (decide (t.q.wh.o≠0) || fg s.q.wh)):=⟨_,rfl⟩
 rw [← hbW] at hW ⊢
 rw [← hbV] at hV ⊢
 simp only [Bool.and_eq_true,decide_eq_true_eq,beq_iff_eq,hW,hV,L _ _ hc,L _ _ hn,L _ _ hr,L _ _ hs,L _ _ hI,L _ _ hF,L _ _ hO]
 obtain ⟨k1,t1,n1,c1,o1,u1,r1,s1,w1,⟨d1,st1,i1,f1,v1,or1,l1,m1⟩⟩:=s
 obtain ⟨k2,t2,n2,c2,o2,u2,r2,s2,w2,⟨d2,st2,i2,f2,v2,or2,l2,m2⟩⟩:=t
 simp only at hk
 simp only [StmtX.mk.injEq,QryX.mk.injEq]
 constructor
 · rintro ⟨⟨⟨⟨⟨⟨⟨⟨⟨⟨⟨⟨⟨⟨⟨a1,a2⟩,a3⟩,a4⟩,a5⟩,a6⟩,a7⟩,a8⟩,a9⟩,b1⟩,b2⟩,b3⟩,b4⟩,b5⟩,b6⟩,b7⟩
   exact ⟨hk,a1,a2,a3,a4,a5,a6,a7,a8,a9,b1,b2,b3,b4,b5,b6,b7⟩
 · rintro ⟨_,a1,a2,a3,a4,a5,a6,a7,a8,a9,b1,b2,b3,b4,b5,b6,b7⟩
   exact ⟨⟨⟨⟨⟨⟨⟨⟨⟨⟨⟨⟨⟨⟨⟨a1,a2⟩,a3⟩,a4⟩,a5⟩,a6⟩,a7⟩,a8⟩,a9⟩,b1⟩,b2⟩,b3⟩,b4⟩,b5⟩,b6⟩,b7⟩
theorem rest_may (s:StmtX):(dh s && restB s (eu s))=fK s:=by
 unfold fK
 cases hp:dh s with
 | false=>rfl
 | true =>
  rw [Bool.true_and,Bool.true_and]
  have hcs:s.k=1∨s.k=2∨s.k=3∨s.k=4∨s.k=5∨s.k=6∨s.k=7∨s.k=8∨¬ (1≤s.k∧s.k≤8):=by omega
  rcases hcs with h | h | h | h | h | h | h | h | h
  · rw [keep_1 h]; exact gk h (.inl rfl) (.inr rfl) (.inr rfl) (.inr rfl) (.inr rfl) (.inr rfl)
  · rw [keep_2 h]; exact gk h (.inr rfl) (.inr rfl) (.inr rfl) (.inr rfl) (.inr rfl) (.inr rfl)
  · rw [keep_3 h]; exact gk h (.inr rfl) (.inl rfl) (.inr rfl) (.inr rfl) (.inr rfl) (.inr rfl)
  · rw [keep_4 h]; exact gk h (.inr rfl) (.inr rfl) (.inr rfl) (.inr rfl) (.inr rfl) (.inr rfl)
  · rw [keep_5 h]; exact gk h (.inr rfl) (.inr rfl) (.inl rfl) (.inr rfl) (.inr rfl) (.inr rfl)
  · rw [ry h,Bool.and_eq_true] at hp
    rw [keep_6 h]; exact gk h (.inr rfl) (.inr rfl) (.inr rfl) (.inr rfl) (.inl ⟨rfl,hp.2⟩) (.inr rfl)
  · rw [oW h] at hp
    simp only [Bool.and_eq_true] at hp
    rw [keep_7 h]; exact gk h (.inr rfl) (.inr rfl) (.inr rfl) (.inl rfl) (.inl ⟨rfl,hp.2.2.1⟩) (.inr rfl)
  · rw [rz h] at hp
    rw [keep_8 h]; exact gk h (.inr rfl) (.inr rfl) (.inr rfl) (.inr rfl) (.inr rfl) (.inl ⟨rfl,mayQ_wh hp⟩)
  · rw [uO h]; exact gk rfl (.inr rfl) (.inr rfl) (.inr rfl) (.inr rfl) (.inr rfl) (.inr rfl)
end Go.WK
namespace Go.WK
open Go.RowKit
inductive OT
 | nil
 | fix (i:Nat) (t:OT)
 | op (i:Nat) (t:OT)
 | two (i j:Nat) (s t:OT)
def OT.len:OT→Nat
 | .nil=>0
 | .fix _ t=>t.len+1
 | .op _ t=>t.len+1
 | .two _ _ s _=>s.len+1
def fh (md:Region.Mode) (ops:Array Oper):OT→Array Bool→Bool
 | .nil,listed=>(Region.ready md ops listed).isEmpty
 | .fix i t,listed=>(Region.ready md ops listed).contains i && (Region.free md ops listed i && fh md ops t (listed.setIfInBounds i true))
 | .op i t,listed=>Region.ready md ops listed == [i] && fh md ops t (listed.setIfInBounds i true)
 | .two i j s t,listed=>Region.ready md ops listed == [i,j] && (s.len == t.len && (fh md ops s (listed.setIfInBounds i true) && fh md ops t (listed.setIfInBounds j true)))
def mixBT (md:Region.Mode) (ops:Array Oper) (t:OT):Bool:=Region.noSelect ops && ((t.len == ops.size) && fh md ops t (Array.replicate ops.size false))
def eE (P:Program) (ops:Array Oper) (C:World→Prop) (Q:Act→World→Prop):OT→Act→World→Prop
 | .nil,a,w=>Q a w
 | .fix i t,a,w=>∃ o v,ops[i]? = some o∧YieldsF P ops C o v a∧∀ w',Chg [] w w'→eE P ops C Q t (a.put o.dst v) w'
 | .op i t,a,w=>wpOp P ops jm i (fun a' w'=>C w'∧∀ w'',Chg [] w' w''→eE P ops C Q t a' w'') a w
 | .two i j s t,a,w=>wpOp P ops jm i (fun a' w'=>C w'∧∀ w'',Chg [] w' w''→eE P ops C Q s a' w'') a w∧wpOp P ops jm j (fun a' w'=>C w'∧∀ w'',Chg [] w' w''→eE P ops C Q t a' w'') a w
section
variable {P:Program} {ops:Array Oper} {md:Region.Mode} {C:World→Prop}
theorem cl {Q:Act→World→Prop} (hs:Region.noSelect ops=true) (hext:∀ w w',C w→Chg [] w w'→C w'):∀ (t:OT) (listed:Array Bool) (a:Act) (w:World),
  fh md ops t listed=true→Shut md ops listed→C w→eE P ops C Q t a w→dY P md ops C (fun _=>true) Q t.len listed a w
 | .nil,_,_,_,hB,_,_,h=>⟨by simpa [fh] using hB,h⟩
 | .fix i t,listed,a,w,hB,hcl,hC,h=>by
  obtain ⟨o,v,hi,hy,hk⟩:=h
  simp only [fh,Bool.and_eq_true] at hB
  obtain ⟨hr,hf,hB'⟩:=hB
  exact fV hi (Region.noSelect_spec hs) hext (fun lst j hs' hi' hji hj=>rfl) t.len listed a w hcl (Region.free_spec hi hf) (by simpa using hr) hy hC
   (fun w' hw'=>cl hs hext t _ _ w' hB' (hcl.set (by simpa using hr)) (hext _ _ hC hw') (hk w' hw'))
 | .op i t,listed,a,w,hB,hcl,hC,h=>by
  simp only [fh,Bool.and_eq_true,beq_iff_eq] at hB
  obtain ⟨hr,hB'⟩:=hB
  show dY P md ops C _ Q (t.len+1) listed a w
  refine ⟨fun h0=>(by rw [hr] at h0; cases h0),fun j hj=>?_⟩
  rw [hr] at hj
  obtain rfl:j=i:=by simpa using hj
  exact wpOp_mono (fun a' w' h'=>⟨fun _=>h'.1,fun w'' hw''=>cl hs hext t _ a' w'' hB' (hcl.set (by rw [hr]; exact List.mem_cons_self)) (hext _ _ h'.1 (cU hw'')) (h'.2 w'' (cU hw''))⟩) h
 | .two i k s t,listed,a,w,hB,hcl,hC,h=>by
  simp only [fh,Bool.and_eq_true,beq_iff_eq] at hB
  obtain ⟨hr,hl,hB1,hB2⟩:=hB
  show dY P md ops C _ Q (s.len+1) listed a w
  refine ⟨fun h0=>(by rw [hr] at h0; cases h0),fun j hj=>?_⟩
  have hj0:=hj
  rw [hr] at hj
  rcases (by simpa using hj:j=i∨j=k) with rfl | rfl
  · exact wpOp_mono (fun a' w' h'=>⟨fun _=>h'.1,fun w'' hw''=>cl hs hext s _ a' w'' hB1 (hcl.set hj0) (hext _ _ h'.1 (cU hw'')) (h'.2 w'' (cU hw''))⟩) h.1
  · rw [hl]
    exact wpOp_mono (fun a' w' h'=>⟨fun _=>h'.1,fun w'' hw''=>cl hs hext t _ a' w'' hB2 (hcl.set hj0) (hext _ _ h'.1 (cU hw'')) (h'.2 w'' (cU hw''))⟩) h.2
end
section
variable {cx:Cx} {fs:aW} {H C:List Chunk} {Q:co} {ops:Array Oper}
def j7 (cx:Cx) (C:List Chunk) (ops:Array Oper) (fs:aW) (H:List Chunk) (t:OT) (Q:co):Prop :=
 ∀ a w,Has cx.n cx.ds fs a→Sat cx H w→eE cx.P ops (Sat cx C) (fun a w=>iF cx Q .normal a w) t a w
theorem oY {id:Nat} {l:List Oper} (C:List Chunk) (t:OT) (hm:cx.P.follows .mixedOrders=true) (hB:mixBT .any l.toArray t=true) (hC:∀ w,Sat cx H w→Sat cx C w)
  (h:j7 cx C l.toArray fs H t Q):Tri cx fs H (.region id l.toArray true) Q:=fun a w ha hw=>by
 simp only [mixBT,Bool.and_eq_true,beq_iff_eq] at hB
 have h1:=cl hB.1 (fun w w' h k=>h.ext k) t _ a _ hB.2.2 (fun j oj _ hj=>by rw [fU] at hj; cases hj) (hC _ hw.drew) (h a _ ha hw.drew)
 rw [hB.2.1] at h1
 exact wp_region_any hm (dZ _ _ _ _ h1)
theorem gl (h:Q .normal fs H):j7 cx C ops fs H .nil Q:=fun _ _ ha hw=>⟨fs,H,ha,hw,h⟩
theorem gW {i:Nat} {o:Oper} {t:OT} (hi:ops[i]? = some o) (h:TriX true cx ops fs C [o] (fun e fs' _=>e=.normal∧j7 cx C ops fs' H t Q)):j7 cx C ops fs H (.fix i t) Q:=fun a w ha hw=>by
 have h1:=h a ha
 unfold fb at h1
 by_cases hw':Region.wanted o (yielded ops a.tmps)=true
 · rw [if_pos hw'] at h1
   obtain ⟨v,h2,fs',h3,_,h4⟩:=h1
   exact ⟨o,v,hi,.inl ⟨hw',h2⟩,fun w' hc=>h4 _ w' h3 (hw.ext hc)⟩
 · rw [if_neg hw'] at h1
   obtain ⟨fs',h3,_,h4⟩:=h1
   exact ⟨o,undef,hi,.inr ⟨by simpa using hw',rfl⟩,fun w' hc=>h4 _ w' h3 (hw.ext hc)⟩
theorem oZ {i:Nat} {o:Oper} {t:OT} (hi:ops[i]? = some o) (h:TriX false cx ops fs H [o] (fun e fs' H'=>e=.normal∧(∀ w,Sat cx H' w→Sat cx C w)∧j7 cx C ops fs' H' t Q)) (a:Act) (w:World) (ha:Has cx.n cx.ds fs a) (hw:Sat cx H w) :
  wpOp cx.P ops jm i (fun a' w'=>Sat cx C w'∧∀ w'',Chg [] w' w''→eE cx.P ops (Sat cx C) (fun a w=>iF cx Q .normal a w) t a' w'') a w:=by
 have h1:=h a w ha hw
 unfold wpList at h1
 unfold wpOp
 simp only [hi]
 have key:∀ a' w',wpList cx.P ops (iF cx (fun e fs' H'=>e=.normal∧(∀ w,Sat cx H' w→Sat cx C w)∧j7 cx C ops fs' H' t Q)) [] a' w' →
   Sat cx C w'∧∀ w'',Chg [] w' w''→eE cx.P ops (Sat cx C) (fun a w=>iF cx Q .normal a w) t a' w'':=by
  rintro a' w' ⟨fs',H',h2,h3,_,h4,h5⟩
  exact ⟨h4 _ h3,fun w'' hc=>h5 _ _ h2 (h3.ext hc)⟩
 split
 · rename_i hw'
   rw [if_pos hw'] at h1
   rcases h1 with h1 | ⟨_,a',w',fs',H',_,_,h2,_⟩
   · exact .inl (eL key (fun _ _ _ ⟨_,_,_,_,h,_⟩=>by cases h) (fun _ _ ⟨_,_,_,_,h,_⟩=>by cases h) _ h1)
   · cases h2
 · rename_i hw'
   rw [if_neg hw'] at h1
   exact key _ _ h1
theorem dm {i:Nat} {o:Oper} {t:OT} (hi:ops[i]? = some o) (h:TriX false cx ops fs H [o] (fun e fs' H'=>e=.normal∧(∀ w,Sat cx H' w→Sat cx C w)∧j7 cx C ops fs' H' t Q)):j7 cx C ops fs H (.op i t) Q:=fun a w ha hw=>oZ hi h a w ha hw
theorem iO {i j:Nat} {o p:Oper} {s t:OT} (hi:ops[i]? = some o) (hj:ops[j]? = some p) (h:TriX false cx ops fs H [o] (fun e fs' H'=>e=.normal∧(∀ w,Sat cx H' w→Sat cx C w)∧j7 cx C ops fs' H' s Q))
  (k:TriX false cx ops fs H [p] (fun e fs' H'=>e=.normal∧(∀ w,Sat cx H' w→Sat cx C w)∧j7 cx C ops fs' H' t Q)):j7 cx C ops fs H (.two i j s t) Q:=fun a w ha hw=>⟨oZ hi h a w ha hw,oZ hj k a w ha hw⟩
end
end Go.WK
namespace Go.WK
open Go.RowKit
section ops
variable {cx:Cx} {fs:aW} {H:List Chunk} {Q:co} {ops:Array Oper} {rest:List Oper} {g:Option (Nat × Bool)} {d:Nat} {ty:TypeId} {pos:String} {af:Array Edge}
theorem dk {x y:Operand} {t bt b o i z:Nat} {cs vs:List Value} {v:Value} (cs':List Value) (hz:szB cx.P t=some z) (hn:Nth H i (box b bt cs)) (hok:okW ops fs g=true) (hx:ev fs x=some (.pointer (some ⟨b,o,none⟩))) (hy:ev fs y=some v)
  (hv:v.cells=vs.toArray) (hl:vs.length=z) (hfit:o+z≤cs.length) (h1:allOne vs=true) (he:hY cs o vs=cs') (k:TriX false cx ops fs (iE H i (box b bt cs')) rest Q):TriX false cx ops fs H (⟨none,.store t x y,ty,pos,af,g⟩::rest) Q :=
 aC hz hn hok hx hy hv hl hfit h1 (by rw [he]; exact k)
end ops
end Go.WK
namespace Go.WK
open Go.RowKit
theorem exC_R {w:World} {e:Ex} {cs:List Value} (h:ExC w e cs):∃ y xs,cs=bU e y∧e.as.length≤y.k∧Rd w y.A xs∧ExsC w e.as xs:=by
 obtain ⟨o,v,t,n,c,as⟩:=e
 obtain ⟨A,k,xs,h1,h2,h3,h4⟩:=h
 exact ⟨⟨A,k⟩,xs,h1,h2,h3,h4⟩
theorem gm {α:Type} {a b:List α} (z:α) (h:a.length=b.length) (hs:∀ j,j < a.length→a.getD j z=b.getD j z):a=b:=by
 apply List.ext_getElem h
 intro i h1 h2
 have:=hs i h1
 simpa [List.getD,h1,h2] using this
theorem ex_eq {a b:Ex} (h:((((((decide (a.o≠b.o) || !decide (a.v=b.v)) || decide (a.t≠b.t)) || decide (a.n≠b.n)) || decide (a.c≠b.c)) || decide ((a.as.length:Int)≠b.as.length)))=false) (hs:∀ j,j < a.as.length→a.as.getD j Ex.zero=b.as.getD j Ex.zero):a=b:=by
 simp only [Bool.or_eq_false_iff,Bool.not_eq_false',decide_eq_true_eq,decide_eq_false_iff_not,Decidable.not_not] at h
 obtain ⟨⟨⟨⟨⟨h1,h2⟩,h3⟩,h4⟩,h5⟩,h6⟩:=h
 rw [Ex.eta a,Ex.eta b,h1,h2,h3,h4,h5,gm Ex.zero (by omega) hs]
theorem ex_len {a b:Ex} (h:((((((decide (a.o≠b.o) || !decide (a.v=b.v)) || decide (a.t≠b.t)) || decide (a.n≠b.n)) || decide (a.c≠b.c)) || decide ((a.as.length:Int)≠b.as.length)))=false):a.as.length=b.as.length:=by
 simp only [Bool.or_eq_false_iff,decide_eq_false_iff_not,Decidable.not_not] at h
 omega
theorem ex_ne {a b:Ex} (h:((((((decide (a.o≠b.o) || !decide (a.v=b.v)) || decide (a.t≠b.t)) || decide (a.n≠b.n)) || decide (a.c≠b.c)) || decide ((a.as.length:Int)≠b.as.length)))=true):a≠b:=fun e=>by
 subst e
 simp at h
theorem ws {e:Ex} {i:Nat} (hi:i < e.as.length):(e.as.getD i Ex.zero).size < e.size:=by
 obtain ⟨o,v,t,n,c,as⟩:=e
 exact Ex.size_at hi
theorem as_len {e:Ex}:e.as.length < e.size:=by
 obtain ⟨o,v,t,n,c,as⟩:=e
 have:=Exs.len_size as
 simp only [Ex.size,Ex.as]; omega
end Go.WK
namespace Go.WK
open Go.RowKit
theorem col_same (a b:ColX):gP a.cs b.cs=decide (a=b):=by
 have h1:gP a.cs b.cs=(a.n == b.n && (a.k == b.k && (a.b == b.b && true))):=by simp [ColX.cs,gP,pW]
 rw [h1,Bool.eq_iff_iff]
 obtain ⟨n,k,b1⟩:=a
 obtain ⟨n',k',b2⟩:=b
 simp
theorem ord_same (a b:OrdX):gP a.cs b.cs=decide (a=b):=by
 have h1:gP a.cs b.cs=(a.n == b.n && (a.b == b.b && true)):=by simp [OrdX.cs,gP,pW]
 rw [h1,Bool.eq_iff_iff]
 obtain ⟨n,b1⟩:=a
 obtain ⟨n',b2⟩:=b
 simp
def colKs:List SK:=[.str,.int .i64,.bool]
def ordKs:List SK:=[.str,.bool]
theorem s9 (a:ColX):fX colKs a.cs=true:=by simp [colKs,ColX.cs,fX,SK.fits]
theorem td (a:OrdX):fX ordKs a.cs=true:=by simp [ordKs,OrdX.cs,fX,SK.fits]
section ops
variable {m:Bool} {cx:Cx} {fs:aW} {H:List Chunk} {Q:co} {ops:Array Oper} {rest:List Oper} {g:Option (Nat × Bool)} {d:Nat} {ty:TypeId} {pos:String} {af:Array Edge}
theorem o_neqCol {x y:Operand} {t yt:TypeId} {a b:ColX} (hf:jb cx.P t=some colKs) (hok:okS cx.n ops fs d g=true) (hx:ev fs x=some (.agg a.cs.toArray)) (hy:ev fs y=some (.agg b.cs.toArray)) (k:TriX m cx ops ((d,.bool (!decide (a=b)))::fs) H rest Q) :
  TriX m cx ops fs H (⟨some d,.binOp .neq t x y yt,ty,pos,af,g⟩::rest) Q:=uh hf hok hx hy (s9 a) (s9 b) (by rw [col_same]; exact k)
theorem o_neqOrd {x y:Operand} {t yt:TypeId} {a b:OrdX} (hf:jb cx.P t=some ordKs) (hok:okS cx.n ops fs d g=true) (hx:ev fs x=some (.agg a.cs.toArray)) (hy:ev fs y=some (.agg b.cs.toArray)) (k:TriX m cx ops ((d,.bool (!decide (a=b)))::fs) H rest Q) :
  TriX m cx ops fs H (⟨some d,.binOp .neq t x y yt,ty,pos,af,g⟩::rest) Q:=uh hf hok hx hy (td a) (td b) (by rw [ord_same]; exact k)
end ops
section ops
variable {m:Bool} {cx:Cx} {fs:aW} {H:List Chunk} {Q:co} {ops:Array Oper} {rest:List Oper} {g:Option (Nat × Bool)} {ty:TypeId} {pos:String} {af:Array Edge}
theorem bG {d:Nat} {op:Op} (hw:iG ops fs g=some false) (hd:Nat.blt d cx.n=true) (k:TriX m cx ops ((d,undef)::fs) H rest Q):TriX m cx ops fs H (⟨some d,op,ty,pos,af,g⟩::rest) Q:=by
 cases m with
 | false =>
  intro a w ha hs
  unfold wpList
  rw [if_neg (by rw [cW ha hw _ rfl]; simp)]
  exact k _ _ (ha.put hd undef) hs
 | true =>
  intro a ha
  unfold fb
  rw [if_neg (by rw [cW ha hw _ rfl]; simp)]
  exact k _ (ha.put hd undef)
end ops
theorem upd {α:Type} {f g:Nat→α} {i:Nat} (h:∀ j,j < i→f j=g j) (h1:f i=g i):∀ j,j < i+1→f j=g j:=fun j hj=>by
 rcases Nat.lt_or_ge j i with h2 | h2
 · exact h j h2
 · have e:j=i:=by omega
   rw [e]; exact h1
theorem uP {α:Type} {l m:List α} (h:(l.length:Int)≠(m.length:Int)):l≠m:=fun e=>h (by rw [e])
theorem at_ne {α:Type} {l m:List α} {i:Nat} {z:α} (h:l.getD i z≠m.getD i z):l≠m:=fun e=>h (by rw [e])
theorem wt {a b:ItemX} (h:a.s≠b.s∨a.e≠b.e):a≠b:=fun e=>by subst e; rcases h with h | h<;>exact h rfl
theorem item_eq {a b:ItemX} (h:a.s=b.s) (h1:a.e=b.e):a=b:=by cases a; cases b; simp_all
theorem uQ {a b:SrcX} (h:a.t≠b.t∨a.s≠b.s∨a.e≠b.e):a≠b:=fun e=>by subst e; rcases h with h | h | h<;>exact h rfl
theorem src_eq {a b:SrcX} (h:a.t=b.t) (h1:a.s=b.s) (h2:a.e=b.e):a=b:=by cases a; cases b; simp_all
theorem set_ne {a b:SetX} (h:a.n≠b.n∨a.e≠b.e):a≠b:=fun e=>by subst e; rcases h with h | h<;>exact h rfl
theorem set_eq {a b:SetX} (h:a.n=b.n) (h1:a.e=b.e):a=b:=by cases a; cases b; simp_all
def sqB (a b:QryX):Bool:=(((((((a.di != b.di) || (a.st != b.st)) || (a.li != b.li)) || decide (a.lim≠b.lim)) || decide ((a.items.length:Int)≠b.items.length)) || decide ((a.from_.length:Int)≠b.from_.length)) || decide ((a.ord.length:Int)≠b.ord.length)) || !decide (a.wh=b.wh)
theorem sq_ne {a b:QryX} (h:sqB a b=true):a≠b:=fun e=>by
 subst e
 simp [sqB] at h
theorem sq_no {a b:QryX} (h:sqB a b=false):(a.di=b.di∧a.st=b.st∧a.li=b.li∧a.lim=b.lim∧a.wh=b.wh)∧a.items.length=b.items.length∧a.from_.length=b.from_.length∧a.ord.length=b.ord.length:=by
 unfold sqB at h
 simp only [Bool.or_eq_false_iff,bne_eq_false_iff_eq,decide_eq_false_iff_not,Decidable.not_not,Bool.not_eq_false',decide_eq_true_eq] at h
 obtain ⟨⟨⟨⟨⟨⟨⟨h1,h2⟩,h3⟩,h4⟩,h5⟩,h6⟩,h7⟩,h8⟩:=h
 exact ⟨⟨h1,h2,h3,h4,h8⟩,by omega,by omega,by omega⟩
theorem sq_eq {a b:QryX} (h:sqB a b=false) (h1:∀ j,j < a.items.length→a.items.getD j ItemX.zero=b.items.getD j ItemX.zero) (h2:∀ j,j < a.from_.length→a.from_.getD j SrcX.zero=b.from_.getD j SrcX.zero) (h3:∀ j,j < a.ord.length→a.ord.getD j OrdX.zero=b.ord.getD j OrdX.zero):a=b:=by
 obtain ⟨⟨k1,k2,k3,k4,k5⟩,k6,k7,k8⟩:=sq_no h
 have e1:=gm ItemX.zero k6 h1
 have e2:=gm SrcX.zero k7 h2
 have e3:=gm OrdX.zero k8 h3
 cases a; cases b; simp_all
def ssB (a b:StmtX):Bool:=(((((((((decide (a.k≠b.k) || decide (a.t≠b.t)) || decide (a.n≠b.n)) || (a.un != b.un)) || !decide (a.cols=b.cols)) || !decide (a.on=b.on)) || !decide (a.wh=b.wh)) || !decide (a.q=b.q)) || decide ((a.rows.length:Int)≠b.rows.length)) || decide ((a.sets.length:Int)≠b.sets.length))
theorem ss_ne {a b:StmtX} (h:ssB a b=true):a≠b:=fun e=>by
 subst e
 simp [ssB] at h
theorem ss_no {a b:StmtX} (h:ssB a b=false):(a.k=b.k∧a.t=b.t∧a.n=b.n∧a.un=b.un∧a.cols=b.cols∧a.on=b.on∧a.wh=b.wh∧a.q=b.q)∧a.rows.length=b.rows.length∧a.sets.length=b.sets.length:=by
 unfold ssB at h
 simp only [Bool.or_eq_false_iff,bne_eq_false_iff_eq,decide_eq_false_iff_not,Decidable.not_not,Bool.not_eq_false',decide_eq_true_eq] at h
 obtain ⟨⟨⟨⟨⟨⟨⟨⟨⟨h1,h2⟩,h3⟩,h4⟩,h5⟩,h6⟩,h7⟩,h8⟩,h9⟩,h10⟩:=h
 exact ⟨⟨h1,h2,h3,h4,h5,h6,h7,h8⟩,by omega,by omega⟩
theorem ss_eq {a b:StmtX} (h:ssB a b=false) (h1:∀ j,j < a.rows.length→a.rows.getD j []=b.rows.getD j []) (h2:∀ j,j < a.sets.length→a.sets.getD j SetX.zero=b.sets.getD j SetX.zero):a=b:=by
 obtain ⟨⟨k1,k2,k3,k4,k5,k6,k7,k8⟩,k9,k10⟩:=ss_no h
 have e1:=gm ([]:List Ex) k9 h1
 have e2:=gm SetX.zero k10 h2
 cases a; cases b; simp_all
theorem rows_ne {s t:StmtX} {i:Nat} (h:s.rows.getD i []≠t.rows.getD i []):s≠t:=fun e=>h (by rw [e])
theorem wu {s t:StmtX} {i:Nat} (h:s.sets.getD i SetX.zero≠t.sets.getD i SetX.zero):s≠t:=fun e=>h (by rw [e])
theorem te {s t:QryX} {i:Nat} (h:s.items.getD i ItemX.zero≠t.items.getD i ItemX.zero):s≠t:=fun e=>h (by rw [e])
theorem rA {s t:QryX} {i:Nat} (h:s.from_.getD i SrcX.zero≠t.from_.getD i SrcX.zero):s≠t:=fun e=>h (by rw [e])
theorem ords_ne {s t:QryX} {i:Nat} (h:s.ord.getD i OrdX.zero≠t.ord.getD i OrdX.zero):s≠t:=fun e=>h (by rw [e])
end Go.WK
namespace Go.WK
open Go.RowKit Lib
def nN (r:PX Ex) (e:Ex) (us:List Tok) (d n:Nat):Prop:=(r=.ok (e,us)∧d+n≤24)∨((∃ a,r=.error (191,a))∧24 < d+n)
theorem qy (k:Int) (s:List UInt8) (ts:List Tok):atT k s ts=decide (kt (hd ts)=(k,s)):=by
 unfold atT kt
 rw [Bool.eq_iff_iff]; simp
def kv:List Opr→KT→Option Int
 | [],_=>none
 | o::l,x=>if x=(o.k,o.t) then some o.a else kv l x
theorem gn (l:List Opr) (ts:List Tok):findO l ts=kv l (kt (hd ts)):=by
 induction l with
 | nil=>rfl
 | cons o l ih =>
  unfold findO kv
  rw [qy,ih]
  by_cases h:kt (hd ts)=(o.k,o.t)
  · rw [if_pos h,if_pos (decide_eq_true h)]
  · rw [if_neg h,if_neg (by simpa using h)]
def noC (lv:Nat) (x:KT):Bool:=(decide (1 < lv) || decide (kv orO x=none)) && ((decide (2 < lv) || decide (kv andO x=none)) && ((decide (4 < lv) || (decide (kv cmpO x=none) && decide (x≠(1,isB)))) && ((decide (5 < lv) || decide (kv sumO x=none)) && ((decide (6 < lv) || decide (kv mulO x=none)) && decide (x≠(4,[46]))))))
structure NoC (lv:Nat) (us:List Tok):Prop where
 o1:lv≤1→findO orO us=none
 o2:lv≤2→findO andO us=none
 o4:lv≤4→findO cmpO us=none∧atT 1 isB us=false
 o5:lv≤5→findO sumO us=none
 o6:lv≤6→findO mulO us=none
 dot:atT 4 [46] us=false
theorem NoC.of {lv:Nat} {us:List Tok} {x:KT} (hx:kt (hd us)=x) (h:noC lv x=true):NoC lv us:=by
 subst hx
 unfold noC at h
 simp only [Bool.and_eq_true,Bool.or_eq_true,decide_eq_true_eq] at h
 obtain ⟨h1,h2,h4,h5,h6,h7⟩:=h
 refine ⟨fun h=>?_,fun h=>?_,fun h=>⟨?_, ?_⟩,fun h=>?_,fun h=>?_, ?_⟩
 · rw [gn]; exact h1.resolve_left (by omega)
 · rw [gn]; exact h2.resolve_left (by omega)
 · rw [gn]; exact (h4.resolve_left (by omega)).1
 · rw [qy]; exact decide_eq_false (h4.resolve_left (by omega)).2
 · rw [gn]; exact h5.resolve_left (by omega)
 · rw [gn]; exact h6.resolve_left (by omega)
 · rw [qy]; exact decide_eq_false h7
theorem NoC.mono {lv lv':Nat} {us:List Tok} (h:NoC lv us) (hl:lv≤lv'):NoC lv' us :=
 ⟨fun k=>h.o1 (by omega),fun k=>h.o2 (by omega),fun k=>h.o4 (by omega),fun k=>h.o5 (by omega),fun k=>h.o6 (by omega),h.dot⟩
def m6 (lv:Nat):List Opr:=if lv=1 then orO else if lv=2 then andO else if lv=5 then sumO else mulO
def im (lv:Nat):Prop:=lv=1∨lv=2∨lv=5∨lv=6
theorem wv {lv f d:Nat} {ts:List Tok} (h:im lv):exP (f+1) lv d ts=ib (exP f (lv+1) d) (m6 lv) ts:=by
 rcases h with rfl | rfl | rfl | rfl
 · exact exP1 f d ts
 · exact exP2 f d ts
 · exact exP5 f d ts
 · exact exP6 f d ts
theorem oprs_ok {lv:Nat} (h:im lv):∀ o ∈ m6 lv,o.k≠5:=by
 rcases h with rfl | rfl | rfl | rfl<;>exact dD _ (by simp [m6])
theorem NoC.row {lv:Nat} {us:List Tok} (h:NoC lv us) (hr:im lv):findO (m6 lv) us=none:=by
 rcases hr with rfl | rfl | rfl | rfl
 · exact h.o1 (by omega)
 · exact h.o2 (by omega)
 · exact h.o5 (by omega)
 · exact h.o6 (by omega)
section
variable {us ts:List Tok} {e:Ex} {d n:Nat}
theorem desc1 {f lv:Nat} (h:im lv) (hn:findO (m6 lv) us=none) (hr:nN (exP f (lv+1) d ts) e us d n):nN (exP (f+1) lv d ts) e us d n:=by
 rw [wv h]; unfold ib
 rcases hr with ⟨hr,hd⟩ | ⟨⟨a,hr⟩,hd⟩
 · left; rw [hr]; exact ⟨mW hn,hd⟩
 · right; rw [hr]; exact ⟨⟨a,rfl⟩,hd⟩
theorem desc {us ts:List Tok} {e:Ex} {d n:Nat}:∀ (m lv f:Nat),1≤lv→lv+m≤8→NoC lv us→(lv≤3→3 < lv+m→atT 1 eN ts=false)→(lv≤7→7 < lv+m→atT 4 [45] ts=false)→nN (exP f (lv+m) d ts) e us d n→nN (exP (f+m) lv d ts) e us d n:=by
 intro m
 induction m with
 | zero=>intro lv f _ _ _ _ _ h; exact h
 | succ m ih =>
  intro lv f h1 h2 hn h3 h7 h
  have:=ih (lv+1) f (by omega) (by omega) (hn.mono (by omega)) (fun a b=>h3 (by omega) (by omega)) (fun a b=>h7 (by omega) (by omega)) (by rw [show lv+1+m=lv+(m+1) by omega]; exact h)
  rw [show f+(m+1)=(f+m)+1 by omega]
  have hc:im lv∨lv=3∨lv=4∨lv=7:=by unfold im; omega
  rcases hc with hc | rfl | rfl | rfl
  · exact desc1 hc (hn.row hc) this
  · rw [exP3,if_neg (by rw [h3 (by omega) (by omega)]; decide)]; exact this
  · rw [exP4]
    rcases this with ⟨hr,hd⟩ | ⟨⟨a,hr⟩,hd⟩
    · left; rw [hr]
      refine ⟨?_,hd⟩
      simp only [iX,(hn.o4 (by omega)).1]
      rw [if_neg (by rw [(hn.o4 (by omega)).2]; decide)]
    · right; rw [hr]; exact ⟨⟨a,rfl⟩,hd⟩
  · rw [exP7,if_neg (by rw [h7 (by omega) (by omega)]; decide)]; exact this
end
theorem Good.app {l us:List Tok} (h:Good us):Good (l++us):=by
 induction l with
 | nil=>exact h
 | cons t l ih=>exact .inr ih
theorem m7 {α:Type} {l m:List α} (h:l≠[]):(l++m).head? = l.head?:=by cases l with | nil=>exact absurd rfl h | cons x l=>rfl
theorem tk_ne:∀ (m:Nat) (e:Ex),e.size < m→e.may=true→∀ low:Int,e.tk low≠[]∧(4≤low→(e.tk low).head?≠some (1,eN))∧(8≤low→(e.tk low).head?≠some (4,[45])):=by
 intro m
 induction m with
 | zero=>intro e h; omega
 | succ m ih =>
  intro e hs hm low
  by_cases hlow:lvl e.o < low
  · rw [nX hlow]
    exact ⟨by simp,fun _=>by simp,fun _=>by simp⟩
  rw [rq hlow]
  have hv:=view hm
  cases hv with
  | cst v hv h0 =>
   rw [k_cst]
   refine ⟨by simp,fun _=>?_,fun _=>?_⟩<;>unfold valK<;>(repeat' split)<;>simp [lJ,jo,dc,eN]
  | nam t n hn ht =>
   have key:∀ s,nameOk s=true→s≠eN:=fun s h e=>by subst e; revert h; decide
   rw [k_nam]
   by_cases h1:t=[]
   · rw [if_pos h1]; exact ⟨by simp,fun _=>by simpa using key n hn,fun _=>by simp⟩
   · rw [if_neg h1]; exact ⟨by simp,fun _=>by simpa using key t (ht.resolve_left h1),fun _=>by simp⟩
  | un o a ho ha =>
   have hsz:=ly o a
   have ih:=ih a (by omega) ha
   have hlow:¬ lvl o < low:=hlow
   have hcs:o=5∨o=4∨o=6∨o=7:=by omega
   rcases hcs with rfl | rfl | rfl | rfl
   · have:lvl 5=3:=by decide
     rw [k_not]; exact ⟨by simp,fun _=>by omega,fun _=>by simp⟩
   · have:lvl 4=7:=by decide
     rw [k_neg]; exact ⟨by simp,fun _=>by simp,fun _=>by omega⟩
   · have:lvl 6=4:=by decide
     have h5:=ih 5
     rw [k_nul]
     refine ⟨by simp,fun _=>?_,fun _=>by omega⟩
     rw [m7 h5.1]; exact h5.2.1 (by omega)
   · have:lvl 7=4:=by decide
     have h5:=ih 5
     rw [rr]
     refine ⟨by simp,fun _=>?_,fun _=>by omega⟩
     rw [m7 h5.1]; exact h5.2.1 (by omega)
  | bin o a b ho ha hb =>
   have hsz:=jM o a b
   have ih:=ih a (by omega) ha
   have hlow:¬ lvl o < low:=hlow
   have hl:=lvl_op ho
   rw [s4 a b o ho.1]
   have h5:=ih (if lvl o=4 then 5 else lvl o)
   refine ⟨by simp,fun h4=>?_,fun _=>by omega⟩
   rw [m7 h5.1]; exact h5.2.1 (by split<;>omega)
theorem rB {ts us:List Tok} {ks:List KT} (k:Int) (s:List UInt8) (h:ts.map kt=ks) (hne:ks≠[]):atT k s (ts++us)=decide (ks.head? = some (k,s)):=by
 cases ts with
 | nil=>simp at h; exact absurd h hne
 | cons t l=>subst h; rw [qy]; simp [hd]
def Pex (e:Ex):Prop:=∀ (lv d f:Nat) (ts us:List Tok),d≤24→1≤lv→lv≤8→Good us→ts.map kt=e.tk lv→NoC lv us→8 * (ts++us).length+(9 - lv)≤f→nN (exP f lv d (ts++us)) e us d (e.txt lv).2
def Rex (e:Ex):Prop:=∀ (lv d f:Nat) (ts us:List Tok),d≤24→im lv→Good us→ts.map kt=e.tk lv→NoC (lv+1) us→8 * (ts++us).length+(8 - lv)≤f →
 (ib (exP f (lv+1) d) (m6 lv) (ts++us)=iu (exP f (lv+1) d) (m6 lv) us.length e us∧d+(e.txt lv).2≤24)∨((∃ a,ib (exP f (lv+1) d) (m6 lv) (ts++us)=.error (191,a))∧24 < d+(e.txt lv).2)
theorem tf {n:Int} (h:inR n=true):decZ (itoa n)=n:=by unfold decZ; rw [oB h]
theorem cw (t:Tok) (l:List Tok):hd (t::l)=t:=rfl
theorem bg {t:Tok} {l:List Tok} {x:KT} (h:kt t=x) (k:Int) (s:List UInt8):atT k s (t::l)=decide (x=(k,s)):=by rw [qy,cw,h]
theorem kT {t:Tok} {k:Int} {s:List UInt8} (h:kt t=(k,s)):t.k=k∧t.t=s:=by simpa [kt] using h
theorem xU {v:Val} (hv:may v=true) (h0:v.k=1→0≤v.n) (ho:v.ok) (op:List Tok→PX Ex) (d:Nat) (t:Tok) (us:List Tok) (ht:kt t=valK v):dy op d (t::us)=.ok (cst v,us):=by
 unfold valK at ht
 unfold may at hv
 unfold dy
 by_cases h1:v.k=1
 · rw [if_pos h1] at ht
   obtain ⟨a1,a2⟩:=kT ht
   simp [h1] at hv
   have hr:inR v.n=true:=gL.2 (by unfold Val.ok at ho; omega)
   rw [cw,if_pos a1,a2,tf hr]
   obtain ⟨k,n,s⟩:=v
   simp only at h1 hv; subst h1; subst hv; rfl
 rw [if_neg h1] at ht
 by_cases h2:v.k=2
 · rw [if_pos h2] at ht
   obtain ⟨a1,a2⟩:=kT ht
   simp [h2] at hv
   rw [cw,if_neg (by omega),if_pos a1,a2]
   obtain ⟨k,n,s⟩:=v
   simp only at h2 hv; obtain ⟨hv,_⟩:=hv; subst h2; subst hv; rfl
 rw [if_neg h2] at ht
 by_cases h3:v.k=3
 · rw [if_pos h3] at ht
   simp [h3] at hv
   obtain ⟨hs,hn⟩:=hv
   obtain ⟨k,n,s⟩:=v
   simp only at h3 hs hn ht; subst h3; subst hs
   rcases hn with rfl | rfl
   · rw [if_neg (by decide)] at ht
     have a1:=(kT ht).1
     rw [cw,if_neg (by omega),if_neg (by omega),bg ht,bg ht,bg ht]; rfl
   · rw [if_pos rfl] at ht
     have a1:=(kT ht).1
     rw [cw,if_neg (by omega),if_neg (by omega),bg ht,bg ht]; rfl
 · rw [if_neg h3] at ht
   have h0:v.k=0:=by
    simp [h1,h2,h3] at hv
    exact hv.1
   simp [h0] at hv
   obtain ⟨k,n,s⟩:=v
   simp only at h0 hv; obtain ⟨hn,hs⟩:=hv; subst h0; subst hn; subst hs
   have a1:=(kT ht).1
   rw [cw,if_neg (by omega),if_neg (by omega),bg ht]; rfl
theorem qA {t:Tok} {l:List Tok} {s:List UInt8} (h:kt t=(1,s)) (hs:nameOk s=true):nmT (t::l)=true:=by
 obtain ⟨a1,a2⟩:=kT h
 unfold nmT
 rw [cw,a1,a2,hs]; rfl
theorem qB {t:Tok} {l:List Tok} {s:List UInt8} (h:kt t=(1,s)) (hs:nameOk s=true) (op:List Tok→PX Ex) (d:Nat):dy op d (t::l)=j4 (t::l):=by
 have a1:=(kT h).1
 have key:∀ x:List UInt8,nameOk x=false→decide (((1:Int),s)=(1,x))=false:=fun x hx=>decide_eq_false (fun e=>by cases e; rw [hs] at hx; cases hx)
 unfold dy
 rw [cw,if_neg (by omega),if_neg (by omega),bg h,bg h,bg h,bg h,key _ (by decide),key _ (by decide),key _ (by decide)]
 rw [if_neg (by decide),if_neg (by decide),if_neg (by decide),if_neg (by simp)]
theorem refTok1 {t:Tok} {us:List Tok} {n:List UInt8} (h:kt t=(1,n)) (hn:nameOk n=true) (hd_:atT 4 [46] us=false):j4 (t::us)=.ok (.mk 2 Val.zero [] n 0 [],us):=by
 unfold j4 bC
 rw [if_pos (qA h hn)]
 simp only [List.drop_succ_cons,List.drop_zero,cw]
 rw [if_neg (by rw [hd_]; decide),(kT h).2]
theorem refTok2 {t p q:Tok} {us:List Tok} {m n:List UInt8} (h:kt t=(1,m)) (hp:kt p=(4,[46])) (hq:kt q=(1,n)) (hm:nameOk m=true) (hn:nameOk n=true):j4 (t::p::q::us)=.ok (.mk 2 Val.zero m n 0 [],us):=by
 unfold j4 bC
 rw [if_pos (qA h hm)]
 simp only [List.drop_succ_cons,List.drop_zero,cw]
 rw [if_pos (by rw [bg hp]; decide),if_pos (qA hq hn),(kT h).2]
 simp only [(kT hq).2]
theorem lvl_nat (o:Int):∃ k:Nat,lvl o=(k:Int)∧1≤k∧k≤8:=by
 obtain ⟨h1,h2⟩:=oU o
 exact ⟨(lvl o).toNat,by omega,by omega,by omega⟩
theorem op_row {o:Int} (h:8≤o∧o≤21) (h4:lvl o≠4) {lv:Nat} (hl:lvl o=(lv:Int)):im lv∧kv (m6 lv) (opK o)=some o:=by
 have hcs:o=8∨o=9∨o=10∨o=11∨o=12∨o=13∨o=14∨o=15∨o=16∨o=17∨o=18∨o=19∨o=20∨o=21:=by omega
 unfold im
 rcases hcs with rfl | rfl | rfl | rfl | rfl | rfl | rfl | rfl | rfl | rfl | rfl | rfl | rfl | rfl
 case _=>obtain rfl:lv=5:=Int.ofNat.inj hl.symm; exact ⟨by decide,by decide⟩
 case _=>obtain rfl:lv=5:=Int.ofNat.inj hl.symm; exact ⟨by decide,by decide⟩
 case _=>obtain rfl:lv=6:=Int.ofNat.inj hl.symm; exact ⟨by decide,by decide⟩
 case _=>obtain rfl:lv=6:=Int.ofNat.inj hl.symm; exact ⟨by decide,by decide⟩
 case _=>obtain rfl:lv=6:=Int.ofNat.inj hl.symm; exact ⟨by decide,by decide⟩
 case _=>obtain rfl:lv=5:=Int.ofNat.inj hl.symm; exact ⟨by decide,by decide⟩
 case _=>exact absurd rfl h4
 case _=>exact absurd rfl h4
 case _=>exact absurd rfl h4
 case _=>exact absurd rfl h4
 case _=>exact absurd rfl h4
 case _=>exact absurd rfl h4
 case _=>obtain rfl:lv=2:=Int.ofNat.inj hl.symm; exact ⟨by decide,by decide⟩
 case _=>obtain rfl:lv=1:=Int.ofNat.inj hl.symm; exact ⟨by decide,by decide⟩
theorem op_noc {o:Int} (h:8≤o∧o≤21) {lv:Nat} (hl:lvl o=(lv:Int)):noC (lv+1) (opK o)=true:=by
 have hcs:o=8∨o=9∨o=10∨o=11∨o=12∨o=13∨o=14∨o=15∨o=16∨o=17∨o=18∨o=19∨o=20∨o=21:=by omega
 rcases hcs with rfl | rfl | rfl | rfl | rfl | rfl | rfl | rfl | rfl | rfl | rfl | rfl | rfl | rfl
 case _=>obtain rfl:lv=5:=Int.ofNat.inj hl.symm; decide
 case _=>obtain rfl:lv=5:=Int.ofNat.inj hl.symm; decide
 case _=>obtain rfl:lv=6:=Int.ofNat.inj hl.symm; decide
 case _=>obtain rfl:lv=6:=Int.ofNat.inj hl.symm; decide
 case _=>obtain rfl:lv=6:=Int.ofNat.inj hl.symm; decide
 case _=>obtain rfl:lv=5:=Int.ofNat.inj hl.symm; decide
 case _=>obtain rfl:lv=4:=Int.ofNat.inj hl.symm; decide
 case _=>obtain rfl:lv=4:=Int.ofNat.inj hl.symm; decide
 case _=>obtain rfl:lv=4:=Int.ofNat.inj hl.symm; decide
 case _=>obtain rfl:lv=4:=Int.ofNat.inj hl.symm; decide
 case _=>obtain rfl:lv=4:=Int.ofNat.inj hl.symm; decide
 case _=>obtain rfl:lv=4:=Int.ofNat.inj hl.symm; decide
 case _=>obtain rfl:lv=2:=Int.ofNat.inj hl.symm; decide
 case _=>obtain rfl:lv=1:=Int.ofNat.inj hl.symm; decide
theorem op_cmp {o:Int} (h:8≤o∧o≤21) (h4:lvl o=4):kv cmpO (opK o)=some o:=by
 have hcs:o=14∨o=15∨o=16∨o=17∨o=18∨o=19:=by
  unfold lvl at h4
  repeat' split at h4
  all_goals omega
 rcases hcs with rfl | rfl | rfl | rfl | rfl | rfl<;>decide
end Go.WK
namespace Go.WK
open Go.RowKit Lib
theorem cQ {ts:List Tok} {a b:List KT} (h:ts.map kt=a++b):∃ x y,ts=x++y∧x.map kt=a∧y.map kt=b:=by
 obtain ⟨x,y,h1,h2,h3⟩:=List.map_eq_append_iff.1 h
 exact ⟨x,y,h1,h2,h3⟩
theorem aM {ts:List Tok} {a:KT} {b:List KT} (h:ts.map kt=a::b):∃ x y,ts=x::y∧kt x=a∧y.map kt=b:=by
 obtain ⟨x,y,h1,h2,h3⟩:=List.map_eq_cons_iff.1 h
 exact ⟨x,y,h1,h2,h3⟩
theorem cA {ts:List Tok} (h:ts.map kt=[]):ts=[]:=List.map_eq_nil_iff.1 h
theorem eR {a f:Nat} (h:a < f):∃ g,f=g+1:=⟨f - 1,by omega⟩
theorem xV (f lv d:Nat):∀ us,Good us→fG us (exP f lv d us):=fun us h=>cE f lv d us h
def RowR (e:Ex) (k d f n:Nat) (ts us:List Tok):Prop:=(ib (exP f (k+1) d) (m6 k) (ts++us)=iu (exP f (k+1) d) (m6 k) us.length e us∧d+n≤24)∨((∃ a,ib (exP f (k+1) d) (m6 k) (ts++us)=.error (191,a))∧24 < d+n)
theorem row_done {e:Ex} {k d f n:Nat} {ts us:List Tok} (hk:im k) (hn:NoC k us) (h:RowR e k d f n ts us):nN (exP (f+1) k d (ts++us)) e us d n:=by
 rw [wv hk]
 rcases h with ⟨h,hd⟩ | h
 · left; rw [h]; exact ⟨mW (hn.row hk),hd⟩
 · exact .inr h
theorem bin_row {o:Int} {a b:Ex} {k d f:Nat} {ts us:List Tok} (ho:8≤o∧o≤21) (h4:lvl o≠4) (hk:lvl o=(k:Int)) (hra:Rex a) (hpb:Pex b) (hg:Good us) (ht:ts.map kt=(bin o a b).kcore) (hn:NoC (k+1) us) (hd:d≤24) (hf:8 * (ts++us).length+(8 - k)≤f):RowR (bin o a b) k d f (bin o a b).core.2 ts us:=by
 obtain ⟨hrow,hfind⟩:=op_row ho h4 hk
 have hk7:k≤7:=by unfold im at hrow; omega
 have hk1:1≤k:=by unfold im at hrow; omega
 rw [s4 a b o ho.1,if_neg h4,hk] at ht
 obtain ⟨ta,tr,rfl,hta,htr⟩:=cQ ht
 obtain ⟨t,tb,rfl,hto,htb⟩:=aM htr
 have e1:(ta++t::tb)++us=ta++(t::(tb++us)):=by simp
 rw [e1] at hf
 have hg2:Good (t::(tb++us)):=.inr hg.app
 have hfo:findO (m6 k) (t::(tb++us))=some o:=by rw [gn,cw,hto]; exact hfind
 have r1:=hra k d f ta (t::(tb++us)) hd hrow hg2 hta (NoC.of (x:=opK o) (by rw [cw,hto]) (op_noc ho hk)) hf
 have r2:=hpb (k+1) d f tb us hd (by omega) (by omega) hg (by rw [htb]; rfl) hn (by simp only [List.length_append,List.length_cons] at hf ⊢; omega)
 have hmx:(bin o a b).core.2=max (a.txt (k:Int)).2 (b.txt ((k+1:Nat):Int)).2:=by rw [qt a b o ho.1,if_neg h4,hk]; rfl
 unfold RowR
 rw [hmx,e1]
 rcases r1 with ⟨r1,d1⟩ | ⟨r1,d1⟩
 · rcases r2 with ⟨r2,d2⟩ | ⟨⟨x,r2⟩,d2⟩
   · left
     rw [r1]
     exact ⟨qi (oprs_ok hrow) (xV f (k+1) d) hg2 hfo r2,by omega⟩
   · right
     refine ⟨⟨x, ?_⟩,by omega⟩
     rw [r1]
     exact sN hg2 hfo r2
 · exact .inr ⟨r1,by omega⟩
def nC (e:Ex) (k:Nat):Prop:=∀ (d f:Nat) (ts us:List Tok),d≤24→Good us→ts.map kt=e.kcore→NoC k us→8 * (ts++us).length+(9 - k)≤f→nN (exP f k d (ts++us)) e us d e.core.2
def CoreW (e:Ex) (k:Nat):Prop:=∀ (d f:Nat) (ts us:List Tok),d≤24→Good us→ts.map kt=e.kcore→NoC (k+1) us→8 * (ts++us).length+(8 - k)≤f→RowR e k d f e.core.2 ts us
theorem iP {lv:Nat} (h:lv=3∨lv=4∨lv=7∨lv=8):¬ im lv:=by unfold im; omega
theorem core_cst {v:Val} (hv:may v=true) (h0:v.k=1→0≤v.n) (ho:v.ok):nC (cst v) 8:=fun d f ts us hd hg ht hn hf=>by
 obtain ⟨f,rfl⟩:=eR (show 0 < f by omega)
 rw [k_cst] at ht
 obtain ⟨t,tr,rfl,hto,htr⟩:=aM ht
 obtain rfl:=cA htr
 rw [exP8]
 exact .inl ⟨xU hv h0 ho _ d t us hto,hd⟩
theorem core_nam {t n:List UInt8} (hn:nameOk n=true) (ht:t=[]∨nameOk t=true):nC (.mk 2 Val.zero t n 0 []) 8:=fun d f ts us hd hg htk hc hf=>by
 obtain ⟨f,rfl⟩:=eR (show 0 < f by omega)
 rw [k_nam] at htk
 rw [exP8]
 by_cases h1:t=[]
 · rw [if_pos h1] at htk
   subst h1
   obtain ⟨x,tr,rfl,hto,htr⟩:=aM htk
   obtain rfl:=cA htr
   left
   exact ⟨(qB hto hn _ d).trans (refTok1 hto hn hc.dot),hd⟩
 · have ht:=ht.resolve_left h1
   rw [if_neg h1] at htk
   obtain ⟨x,tr,rfl,hx,htr⟩:=aM htk
   obtain ⟨y,tr,rfl,hy,htr⟩:=aM htr
   obtain ⟨z,tr,rfl,hz,htr⟩:=aM htr
   obtain rfl:=cA htr
   left
   exact ⟨(qB hx ht _ d).trans (refTok2 hx hy hz ht hn),hd⟩
theorem core_not {a:Ex} (hp:Pex a):nC (un 5 a) 3:=fun d f ts us hd hg ht hn hf=>by
 obtain ⟨f,rfl⟩:=eR (show 0 < f by omega)
 rw [k_not] at ht
 obtain ⟨t,ta,rfl,hto,hta⟩:=aM ht
 rw [List.cons_append,exP3,if_pos (by rw [bg hto]; decide),s5]
 show nN _ _ _ _ ((a.txt ((3:Nat):Int)).2+1)
 by_cases h24:24 < d+1
 · rw [if_pos h24]; exact .inr ⟨⟨_,rfl⟩,by omega⟩
 · rw [if_neg h24]
   have r:=hp 3 (d+1) f ta us (by omega) (by omega) (by omega) hg hta hn (by simp only [List.cons_append,List.length_cons] at hf ⊢; omega)
   rcases r with ⟨r,hd2⟩ | ⟨⟨x,r⟩,hd2⟩
   · left
     have r:exP f 3 (d+1) ((t::(ta++us)).drop 1)=.ok (a,us):=r
     rw [r]; exact ⟨rfl,by omega⟩
   · right
     have r:exP f 3 (d+1) ((t::(ta++us)).drop 1)=.error (191,x):=r
     rw [r]; exact ⟨⟨x,rfl⟩,by omega⟩
theorem core_neg {a:Ex} (hp:Pex a):nC (un 4 a) 7:=fun d f ts us hd hg ht hn hf=>by
 obtain ⟨f,rfl⟩:=eR (show 0 < f by omega)
 rw [k_neg] at ht
 obtain ⟨t,ta,rfl,hto,hta⟩:=aM ht
 rw [List.cons_append,exP7,if_pos (by rw [bg hto]; decide),s6]
 show nN _ _ _ _ ((a.txt ((7:Nat):Int)).2+1)
 by_cases h24:24 < d+1
 · rw [if_pos h24]; exact .inr ⟨⟨_,rfl⟩,by omega⟩
 · rw [if_neg h24]
   have r:=hp 7 (d+1) f ta us (by omega) (by omega) (by omega) hg hta hn (by simp only [List.cons_append,List.length_cons] at hf ⊢; omega)
   rcases r with ⟨r,hd2⟩ | ⟨⟨x,r⟩,hd2⟩
   · left
     have r:exP f 7 (d+1) ((t::(ta++us)).drop 1)=.ok (a,us):=r
     rw [r]; exact ⟨rfl,by omega⟩
   · right
     have r:exP f 7 (d+1) ((t::(ta++us)).drop 1)=.error (191,x):=r
     rw [r]; exact ⟨⟨x,rfl⟩,by omega⟩
theorem core_nul {a:Ex} (hp:Pex a):nC (un 6 a) 4:=fun d f ts us hd hg ht hn hf=>by
 obtain ⟨f,rfl⟩:=eR (show 0 < f by omega)
 rw [k_nul] at ht
 obtain ⟨ta,tr,rfl,hta,htr⟩:=cQ ht
 obtain ⟨x,tr,rfl,hx,htr⟩:=aM htr
 obtain ⟨y,tr,rfl,hy,htr⟩:=aM htr
 obtain rfl:=cA htr
 have e1:(ta++[x,y])++us=ta++(x::y::us):=by simp
 rw [e1] at hf ⊢
 have r:=hp 5 d f ta (x::y::us) hd (by omega) (by omega) (.inr (.inr hg)) hta (NoC.of (x:=(1,isB)) (by rw [cw,hx]) (by decide)) (by omega)
 rw [exP4,s7]
 rcases r with ⟨r,hd2⟩ | ⟨⟨z,r⟩,hd2⟩
 · left
   rw [r]
   refine ⟨?_,hd2⟩
   simp only [iX,gn,cw,hx]
   rw [show kv cmpO (1,isB)=none by decide]
   simp only [bg hx,List.drop_succ_cons,List.drop_zero,bg hy]
   rfl
 · right; rw [r]; exact ⟨⟨z,rfl⟩,hd2⟩
theorem xW {a:Ex} (hp:Pex a):nC (un 7 a) 4:=fun d f ts us hd hg ht hn hf=>by
 obtain ⟨f,rfl⟩:=eR (show 0 < f by omega)
 rw [rr] at ht
 obtain ⟨ta,tr,rfl,hta,htr⟩:=cQ ht
 obtain ⟨x,tr,rfl,hx,htr⟩:=aM htr
 obtain ⟨y,tr,rfl,hy,htr⟩:=aM htr
 obtain ⟨z,tr,rfl,hz,htr⟩:=aM htr
 obtain rfl:=cA htr
 have e1:(ta++[x,y,z])++us=ta++(x::y::z::us):=by simp
 rw [e1] at hf ⊢
 have r:=hp 5 d f ta (x::y::z::us) hd (by omega) (by omega) (.inr (.inr (.inr hg))) hta (NoC.of (x:=(1,isB)) (by rw [cw,hx]) (by decide)) (by omega)
 rw [exP4,oT]
 rcases r with ⟨r,hd2⟩ | ⟨⟨q,r⟩,hd2⟩
 · left
   rw [r]
   refine ⟨?_,hd2⟩
   simp only [iX,gn,cw,hx]
   rw [show kv cmpO (1,isB)=none by decide]
   simp only [bg hx,List.drop_succ_cons,List.drop_zero,bg hy,bg hz]
   rfl
 · right; rw [r]; exact ⟨⟨q,rfl⟩,hd2⟩
theorem core_cmp {o:Int} {a b:Ex} (ho:8≤o∧o≤21) (h4:lvl o=4) (hpa:Pex a) (hpb:Pex b):nC (bin o a b) 4:=fun d f ts us hd hg ht hn hf=>by
 obtain ⟨f,rfl⟩:=eR (show 0 < f by omega)
 rw [s4 a b o ho.1,if_pos h4,h4] at ht
 obtain ⟨ta,tr,rfl,hta,htr⟩:=cQ ht
 obtain ⟨t,tb,rfl,hto,htb⟩:=aM htr
 have e1:(ta++t::tb)++us=ta++(t::(tb++us)):=by simp
 rw [e1] at hf ⊢
 have r1:=hpa 5 d f ta (t::(tb++us)) hd (by omega) (by omega) (.inr hg.app) hta (NoC.of (x:=opK o) (by rw [cw,hto]) (op_noc (lv:=4) ho h4)) (by omega)
 have r2:=hpb 5 d f tb us hd (by omega) (by omega) hg htb (hn.mono (by omega)) (by simp only [List.length_append,List.length_cons] at hf ⊢; omega)
 have hmx:(bin o a b).core.2=max (a.txt 5).2 (b.txt 5).2:=by rw [qt a b o ho.1,if_pos h4,h4]; rfl
 have n1:(a.txt 5).2=(a.txt ((5:Nat):Int)).2:=rfl
 have n2:(b.txt 5).2=(b.txt ((5:Nat):Int)).2:=rfl
 rw [exP4,hmx,n1,n2]
 rcases r1 with ⟨r1,d1⟩ | ⟨⟨z,r1⟩,d1⟩
 · rw [r1]
   simp only [iX,gn,cw,hto,op_cmp ho h4,List.drop_succ_cons,List.drop_zero]
   rcases r2 with ⟨r2,d2⟩ | ⟨⟨z,r2⟩,d2⟩
   · left; rw [r2]; exact ⟨rfl,by omega⟩
   · right; rw [r2]; exact ⟨⟨z,rfl⟩,by omega⟩
 · right; rw [r1]; exact ⟨⟨z,rfl⟩,by omega⟩
theorem gX {e : Ex} (hm : e.may = true) {k : Nat} (hk : lvl e.o = (k : Int)) (hk1 : 1 ≤ k) (hk8 : k ≤ 8) (hC : nC e k) (hW : im k → CoreW e k) : Pex e ∧ Rex e := by
  have hne := tk_ne (e.size + 1) e (by omega) hm
  have hcore : ∀ low : Int,low ≤ (k : Int) → e.tk low = e.kcore ∧ e.txt low = e.core := fun low h => ⟨rq (by omega),cV (by omega)⟩
  have hwrap : ∀ low : Int,(k : Int) < low → e.tk low = (4,[40]) :: (e.kcore ++ [(4,[41])]) ∧ (e.txt low).2 = e.core.2 + 1 := fun low h => ⟨nX (by omega),by rw [kQ (by omega)]⟩
  have hlow : ∀ (lv d f : Nat) (ts us : List Tok),d ≤ 24 → 1 ≤ lv → lv ≤ k → Good us → ts.map kt = e.kcore → NoC lv us → 8 * (ts ++ us).length + (9 - lv) ≤ f → nN (exP f lv d (ts ++ us)) e us d e.core.2 := by
    intro lv d f ts us hd h1 h2 hg ht hn hf
    obtain ⟨f,rfl⟩ : ∃ g,f = g + (k - lv) := ⟨f - (k - lv),by omega⟩
    refine desc (k - lv) lv f h1 (by omega) hn (fun _ h => ?_) (fun _ h => ?_) ?_
    · have e4 := hcore 4 (by omega)
      have := hne 4
      rw [e4.1] at this
      rw [rB 1 eN ht this.1]
      exact decide_eq_false (this.2.1 (by omega))
    · have e8 := hcore 8 (by omega)
      have := hne 8
      rw [e8.1] at this
      rw [rB 4 [45] ht this.1]
      exact decide_eq_false (this.2.2 (by omega))
    · rw [show lv + (k - lv) = k by omega]
      exact hC d f ts us hd hg ht (hn.mono h2) (by omega)
  have h8 : k < 8 → ∀ (d f : Nat) (ts us : List Tok),d ≤ 24 → Good us → ts.map kt = (4,[40]) :: (e.kcore ++ [(4,[41])]) → NoC 8 us → 8 * (ts ++ us).length + 1 ≤ f → nN (exP f 8 d (ts ++ us)) e us d (e.core.2 + 1) := by
    intro hk7 d f ts us hd hg ht hn hf
    obtain ⟨f,rfl⟩ := eR (show 0 < f by omega)
    obtain ⟨t,tr,rfl,hto,htr⟩ := aM ht
    obtain ⟨tc,ty,rfl,htc,hty⟩ := cQ htr
    obtain ⟨y,tz,rfl,hy,htz⟩ := aM hty
    obtain rfl := cA htz
    have e1 : (t :: (tc ++ [y])) ++ us = t :: (tc ++ (y :: us)) := by simp
    rw [e1] at hf ⊢
    have a1 := (kT hto).1
    rw [exP8]
    unfold dy
    rw [cw,if_neg (by omega),if_neg (by omega),bg hto,bg hto,bg hto,bg hto,if_neg (by simp),if_neg (by simp),if_neg (by simp),if_pos (by simp)]
    by_cases h24 : 24 < d + 1
    · rw [if_pos h24]; exact .inr ⟨⟨_,rfl⟩,by omega⟩
    · rw [if_neg h24,List.drop_succ_cons,List.drop_zero]
      have r := hlow 1 (d + 1) f tc (y :: us) (by omega) (Nat.le_refl 1) hk1 (.inr hg) htc (NoC.of (x := (4,[41])) (by rw [cw,hy]) (by decide)) (by simp only [List.length_cons,List.length_append] at hf ⊢; omega)
      rcases r with ⟨r,d2⟩ | ⟨⟨z,r⟩,d2⟩
      · left
        rw [r]
        unfold lT
        simp only [bg hy,decide_true,if_true,List.drop_succ_cons,List.drop_zero]
        exact ⟨trivial,by omega⟩
      · right; rw [r]; exact ⟨⟨z,rfl⟩,by omega⟩
  have hP : Pex e := by
    intro lv d f ts us hd h1 h2 hg ht hn hf
    by_cases hlv : lv ≤ k
    · have e1 := hcore (lv : Int) (by omega)
      rw [e1.1] at ht
      rw [e1.2]
      exact hlow lv d f ts us hd h1 hlv hg ht hn hf
    · have e1 := hwrap (lv : Int) (by omega)
      rw [e1.1] at ht
      rw [e1.2]
      obtain ⟨f,rfl⟩ : ∃ g,f = g + (8 - lv) := ⟨f - (8 - lv),by omega⟩
      have hat : ∀ (q : Int) (s : List UInt8),(q,s) ≠ (4,[40]) → atT q s (ts ++ us) = false := fun q s hq => by
        rw [rB q s ht (by simp)]
        exact decide_eq_false (fun e => by simp at e; exact hq (by rw [← e.1, ← e.2]))
      refine desc (8 - lv) lv f h1 (by omega) hn (fun _ _ => hat _ _ (by decide)) (fun _ _ => hat _ _ (by decide)) ?_
      rw [show lv + (8 - lv) = 8 by omega]
      exact h8 (by omega) d f ts us hd hg ht (hn.mono h2) (by omega)
  refine ⟨hP, ?_⟩
  intro lv d f ts us hd hrow hg ht hn hf
  have hl : 1 ≤ lv ∧ lv ≤ 6 := by unfold im at hrow; omega
  by_cases hlv : lv = k
  · subst hlv
    have e1 := hcore (lv : Int) (by omega)
    rw [e1.1] at ht
    rw [e1.2]
    exact hW hrow d f ts us hd hg ht hn hf
  · have e1 : e.tk (lv : Int) = e.tk ((lv + 1 : Nat) : Int) ∧ e.txt (lv : Int) = e.txt ((lv + 1 : Nat) : Int) := by
      unfold Ex.tk Ex.txt lL fZ
      simp only [hk]
      by_cases h : (k : Int) < (lv : Int)
      · rw [if_pos h,if_pos h,if_pos (by omega),if_pos (by omega)]; exact ⟨rfl,rfl⟩
      · rw [if_neg h,if_neg h,if_neg (by omega),if_neg (by omega)]; exact ⟨rfl,rfl⟩
    rw [e1.1] at ht
    rw [e1.2]
    have r := hP (lv + 1) d f ts us hd (by omega) (by omega) hg ht hn (by omega)
    unfold ib
    rcases r with ⟨r,d2⟩ | ⟨⟨z,r⟩,d2⟩
    · left; rw [r]; exact ⟨rfl,d2⟩
    · right; rw [r]; exact ⟨⟨z,rfl⟩,d2⟩
theorem ex_parse:∀ (m:Nat) (e:Ex),e.size < m→e.may=true→e.ok→Pex e∧Rex e:=by
 intro m
 induction m with
 | zero=>intro e h; omega
 | succ m ih =>
  intro e hs hm ho
  have hv:=view hm
  cases hv with
  | cst v hv h0 =>
   obtain ⟨_,hov,_⟩:=ho
   exact gX hm (k:=8) rfl (by omega) (by omega) (core_cst hv h0 hov) (fun h=>absurd h (iP (by omega)))
  | nam t n hn ht=>exact gX hm (k:=8) rfl (by omega) (by omega) (core_nam hn ht) (fun h=>absurd h (iP (by omega)))
  | un o a ho4 ha =>
   have hsz:=ly o a
   obtain ⟨_,_,_,hoa,_⟩:=ho
   have hp:=(ih a (by omega) ha hoa).1
   have hcs:o=5∨o=4∨o=6∨o=7:=by omega
   rcases hcs with rfl | rfl | rfl | rfl
   · exact gX hm (k:=3) rfl (by omega) (by omega) (core_not hp) (fun h=>absurd h (iP (by omega)))
   · exact gX hm (k:=7) rfl (by omega) (by omega) (core_neg hp) (fun h=>absurd h (iP (by omega)))
   · exact gX hm (k:=4) rfl (by omega) (by omega) (core_nul hp) (fun h=>absurd h (iP (by omega)))
   · exact gX hm (k:=4) rfl (by omega) (by omega) (xW hp) (fun h=>absurd h (iP (by omega)))
  | bin o a b ho8 ha hb =>
   have hsz:=jM o a b
   obtain ⟨_,_,_,hoa,hob,_⟩:=ho
   have ha:=ih a (by omega) ha hoa
   have hb:=ih b (by omega) hb hob
   by_cases h4:lvl o=4
   · exact gX hm (k:=4) h4 (by omega) (by omega) (core_cmp ho8 h4 ha.1 hb.1) (fun h=>absurd h (iP (by omega)))
   · obtain ⟨k,hk,hk1,hk8⟩:=lvl_nat o
     have hrow:=(op_row ho8 h4 hk).1
     have hW:CoreW (bin o a b) k:=fun d f ts us hd hg ht hn hf=>bin_row ho8 h4 hk ha.2 hb.1 hg ht hn hd hf
     refine gX hm hk hk1 hk8 (fun d f ts us hd hg ht hn hf=>?_) (fun _=>hW)
     obtain ⟨f,rfl⟩:=eR (show 0 < f by omega)
     exact row_done hrow hn (hW d f ts us hd hg ht (hn.mono (by omega)) (by omega))
end Go.WK
namespace Go.WK
open Go.RowKit Lib
def BrP (ks:List KT) (e:Ex) (n:Nat):Prop:=∀ (d f:Nat) (ts us:List Tok),d≤24→Good us→ts.map kt=ks→NoC 1 us→8 * (ts++us).length+8≤f→nN (exP f 1 d (ts++us)) e us d n
theorem BrP.ex {e:Ex} (hm:e.may=true) (ho:e.ok):BrP (e.tk 1) e (e.txt 1).2:=fun d f ts us hd hg ht hn hf =>
 (ex_parse (e.size+1) e (by omega) hm ho).1 1 d f ts us hd (Nat.le_refl 1) (by omega) hg ht hn (by omega)
def begK (x:KT):Bool:=if x.1=2∨x.1=3 then true else if x.1=4 then decide (x.2=[40]) || decide (x.2=[45]) else if x.1=1 then (if x.2=dc∨x.2=lJ∨x.2=jo∨x.2=eN then true else nameOk x.2) else false
theorem begT_kt (ts:List Tok):gU ts=begK (kt (hd ts)):=by
 unfold gU begK nmT kt
 by_cases h2:(hd ts).k=2∨(hd ts).k=3
 · rw [if_pos h2,if_pos h2]
 rw [if_neg h2,if_neg h2]
 by_cases h4:(hd ts).k=4
 · rw [if_pos h4,if_pos h4]
 rw [if_neg h4,if_neg h4]
 by_cases h1:(hd ts).k=1
 · rw [if_pos h1,if_pos h1,decide_eq_true h1]; rfl
 · rw [if_neg h1,if_neg h1]
theorem o3 {n:List UInt8} (h:nameOk n=true):begK (1,n)=true:=by
 unfold begK
 simp only
 rw [if_neg (by omega),if_neg (by omega),if_pos trivial]
 split
 · rfl
 · exact h
theorem tk_beg:∀ (m:Nat) (e:Ex),e.size < m→e.may=true→∀ low:Int, ∃ x l,e.tk low=x::l∧begK x=true:=by
 intro m
 induction m with
 | zero=>intro e h; omega
 | succ m ih =>
  intro e hs hm low
  by_cases hlow:lvl e.o < low
  · exact ⟨_,_,nX hlow,by decide⟩
  rw [rq hlow]
  have app:∀ {a b:List KT} {x:KT} {l:List KT},a=x::l→begK x=true→∃ x l,a++b=x::l∧begK x=true:=fun {a b x l} h hb=>⟨x,l++b,by rw [h]; rfl,hb⟩
  have hv:=view hm
  cases hv with
  | cst v hv h0 =>
   refine ⟨_,_,k_cst v, ?_⟩
   unfold valK
   by_cases h1:v.k=1
   · rw [if_pos h1]; rfl
   rw [if_neg h1]
   by_cases h2:v.k=2
   · rw [if_pos h2]; rfl
   rw [if_neg h2]
   by_cases h3:v.k=3
   · rw [if_pos h3]
     by_cases h4:v.n=1
     · rw [if_pos h4]; decide
     · rw [if_neg h4]; decide
   · rw [if_neg h3]; decide
  | nam t n hn ht =>
   rw [k_nam]
   by_cases h1:t=[]
   · rw [if_pos h1]; exact ⟨_,_,rfl,o3 hn⟩
   · rw [if_neg h1]; exact ⟨_,_,rfl,o3 (ht.resolve_left h1)⟩
  | un o a ho ha =>
   have hsz:=ly o a
   have ih:=ih a (by omega) ha
   have hcs:o=5∨o=4∨o=6∨o=7:=by omega
   rcases hcs with rfl | rfl | rfl | rfl
   · exact ⟨_,_,k_not a,by decide⟩
   · exact ⟨_,_,k_neg a,by decide⟩
   · obtain ⟨x,l,h1,h2⟩:=ih 5
     rw [k_nul]; exact app h1 h2
   · obtain ⟨x,l,h1,h2⟩:=ih 5
     rw [rr]; exact app h1 h2
  | bin o a b ho ha hb =>
   have hsz:=jM o a b
   obtain ⟨x,l,h1,h2⟩:=ih a (by omega) ha (if lvl o=4 then 5 else lvl o)
   rw [s4 a b o ho.1]; exact app h1 h2
theorem kt_len {ts:List Tok} {ks:List KT} (h:ts.map kt=ks):ts.length=ks.length:=by rw [← h]; simp
theorem lexL_of {s:List UInt8} {ks:List KT} (h:dW s ks) (hl:s.length≤4096):∃ ts,gz s=.ok ts∧ts.map kt=ks++[(5,[])]:=by
 obtain ⟨ts,h1,h2⟩:=h (s.length+1) 0 (by omega)
 exact ⟨ts,by unfold gz; rw [if_neg (by omega),h1],h2⟩
end Go.WK
namespace Go.WK
open Go.RowKit
def nmX (s:List UInt8):Ex:=.mk 2 Val.zero [] s 0 []
def go:StmtX:={ StmtX.zero with k:=8,q:={ QryX.zero with items:=[⟨nmX [97],[]⟩,⟨.mk 2 Val.zero [116] [98] 0 [],[99]⟩],from_:=[⟨[116],[],Ex.zero⟩] } }
def awT1:List UInt8:=[83,69,76,69,67,84,32,97,44,32,116,46,98,32,65,83,32,99,32,70,82,79,77,32,116]
def awT2:List UInt8:=[115,101,108,101,99,116,32,97,32,61,32,98,32,61,32,99]
def awT3:List UInt8:=[115,101,108,101,99,116,32,97,44,32,116,46,98,32,97,115,32,99,32,102,114,111,109,32,116]
def notA:Ex:=.mk 5 Val.zero [] [] 0 [nmX [97]]
theorem aw_1:cr awT1=.ok go:=by kernel_rfl
theorem aw_2:cr awT2=.error (190,13):=by kernel_rfl
theorem aw_3:prS go=(awT3,0):=by kernel_rfl
theorem aw_4:prX notA=([110,111,116,32,97],0):=by kernel_rfl
theorem aw_5:fK go=true:=by kernel_rfl
theorem aw_6:(stmT go).1.length=25:=by kernel_rfl
theorem aw_7:(notA.txt 1).1.length=5:=by kernel_rfl
theorem aw_8:notA.size=3:=by kernel_rfl
theorem aw_s1 (ts:List Tok) (h:gz awT1=.ok ts):atT 1 ft ts=true:=by
 have e:gz awT1=.ok [⟨1,[115,101,108,101,99,116],0⟩,⟨1,[97],7⟩,⟨4,[44],8⟩,⟨1,[116],10⟩,⟨4,[46],11⟩,⟨1,[98],12⟩,⟨1,[97,115],14⟩,⟨1,[99],17⟩,⟨1,[102,114,111,109],19⟩,⟨1,[116],24⟩,⟨5,[],25⟩]:=by kernel_rfl
 rw [e] at h; cases h; rfl
theorem aw_s2 (ts:List Tok) (h:gz awT2=.ok ts):atT 1 ft ts=true:=by
 have e:gz awT2=.ok [⟨1,[115,101,108,101,99,116],0⟩,⟨1,[97],7⟩,⟨4,[61],9⟩,⟨1,[98],11⟩,⟨4,[61],13⟩,⟨1,[99],15⟩,⟨5,[],16⟩]:=by kernel_rfl
 rw [e] at h; cases h; rfl
def awY (b c:Nat):Lay:={ Lay.nil with q:=⟨⟨some ⟨b,0,none⟩,2⟩,⟨some ⟨c,0,none⟩,1⟩,SL.nil,SL.nil⟩ }
def awI:List Value:=bU (nmX [97]) SL.nil++([.string (B [])]++(bU (.mk 2 Val.zero [116] [98] 0 []) SL.nil++[.string (B [99])]))
def awF:List Value:=[.string (B [116]),.string (B [])]++bU Ex.zero SL.nil
theorem qC (bl:List Nat) (w:World) (o:Int) (v:Val) (t n:List UInt8) (c:Int):ExR bl w (.mk o v t n c []) SL.nil:=⟨none,0,[],rfl,Nat.le_refl _,Rd.nil _ _,(fun _ h=>by cases h),rfl⟩
theorem my {α:Type} (K:Kd α) (bl:List Nat) (w:World):SlR K bl w [] SL.nil []:=⟨Nat.le_refl _,Rd.nil _ _,(fun _ h=>by cases h),rfl⟩
theorem aw_at {w:World} {b c:Nat} (hI:Rd w (some ⟨b,0,none⟩) awI) (hF:Rd w (some ⟨c,0,none⟩) awF):SAt [b,c] w go (awY b c):=by
 refine ⟨[],[],[],[],awI,awF,[],my _ _ _,my _ _ _,my _ _ _,my _ _ _,qC _ _ _ _ _ _ _,⟨⟨Nat.le_refl _,hI,fun a ha _=>?_, ?_⟩,⟨Nat.le_refl _,hF,fun a ha _=>?_, ?_⟩,qC _ _ _ _ _ _ _,my _ _ _⟩⟩
 · cases ha; simp
 · exact ⟨bU (nmX [97]) SL.nil++[.string (B [])],bU (.mk 2 Val.zero [116] [98] 0 []) SL.nil++[.string (B [99])],rfl,⟨_,rfl,qC _ _ _ _ _ _ _⟩,_,[],by simp,⟨_,rfl,qC _ _ _ _ _ _ _⟩,rfl⟩
 · cases ha; simp
 · exact ⟨awF,[],by simp,⟨_,rfl,qC _ _ _ _ _ _ _⟩,rfl⟩
theorem nota_at {w:World} {b:Nat} (h:Rd w (some ⟨b,0,none⟩) (bU (nmX [97]) SL.nil)):ExR [b] w notA ⟨some ⟨b,0,none⟩,1⟩ :=
 ⟨some ⟨b,0,none⟩,1,bU (nmX [97]) SL.nil,rfl,Nat.le_refl _,h,(fun a ha _=>by cases ha; simp),bU (nmX [97]) SL.nil,[],by simp,qC _ _ _ _ _ _ _,rfl⟩
theorem nm_ok (s:List UInt8):(nmX s).ok:=⟨by omega,by unfold Val.ok Val.zero; simp,by omega,trivial⟩
theorem nota_ok:notA.ok:=⟨by omega,by unfold Val.ok Val.zero; simp,by omega,nm_ok _,trivial⟩
theorem eS:Ex.zero.ok:=⟨by omega,by unfold Val.ok Val.zero; simp,by omega,trivial⟩
theorem aw_ok:SOk go:=by
 refine ⟨⟨by decide,by decide⟩,fun i hi=>absurd hi (by simp [go,StmtX.zero]),fun i hi=>absurd hi (by simp [go,StmtX.zero]),fun i hi=>absurd hi (by simp [go,StmtX.zero]),eS,⟨fun i hi=>?_,fun i hi=>?_,eS,rfl⟩⟩
 · have hi:i < 2:=hi
   rcases (by omega:i=0∨i=1) with rfl | rfl
   · exact nm_ok _
   · exact ⟨by omega,by unfold Val.ok Val.zero; simp,by omega,trivial⟩
 · have hi:i < 1:=hi
   obtain rfl:i=0:=by omega
   exact eS
theorem aw_bd:SBd go:=by
 refine ⟨by decide,by decide,by decide,by decide,by decide,by decide,fun i hi=>absurd hi (by simp [go,StmtX.zero]),fun i hi=>absurd hi (by simp [go,StmtX.zero]),fun i hi=>absurd hi (by simp [go,StmtX.zero]),fun i hi=>absurd hi (by simp [go,StmtX.zero]),by decide,⟨by decide,by decide,by decide,fun i hi=>?_,fun i hi=>?_,fun i hi=>absurd hi (by simp [go,QryX.zero]),by decide⟩⟩
 · have hi:i < 2:=hi
   rcases (by omega:i=0∨i=1) with rfl | rfl
   · exact ⟨by decide,by decide⟩
   · exact ⟨by decide,by decide⟩
 · have hi:i < 1:=hi
   obtain rfl:i=0:=by omega
   exact ⟨by decide,by decide,by decide⟩
theorem stCs_inj {s:StmtX} {y z:Lay} (h:bL s y=bL s z):y=z:=by
 obtain ⟨⟨a1,a2⟩,⟨b1,b2⟩,⟨c1,c2⟩,⟨d1,d2⟩,⟨e1,e2⟩,⟨⟨f1,f2⟩,⟨g1,g2⟩,⟨i1,i2⟩,⟨j1,j2⟩⟩⟩:=y
 obtain ⟨⟨a1',a2'⟩,⟨b1',b2'⟩,⟨c1',c2'⟩,⟨d1',d2'⟩,⟨e1',e2'⟩,⟨⟨f1',f2'⟩,⟨g1',g2'⟩,⟨i1',i2'⟩,⟨j1',j2'⟩⟩⟩:=z
 simp only [bL,List.cons.injEq,Value.slice.injEq,true_and,and_true] at h
 simp only [Lay.mk.injEq,SL.mk.injEq,QLay.mk.injEq]
 obtain ⟨h1,h2,h3,h4,h5,h6,h7,h8,h9⟩:=h
 exact ⟨h1,h2,h3,h4,h5,h6,h7,h8,h9⟩
theorem m8 {bl:List Nat} {w:World} {s:StmtX} {y:Lay} (h:StK bl w s (bL s y)):SAt bl w s y:=by
 obtain ⟨y',h1,h2⟩:=s8 h
 rw [stCs_inj h1]; exact h2
end Go.WK
namespace Go.WK
open Go.RowKit
section
variable {ts:List Tok} {x:Flt} {f d:Nat}
theorem eF (h:nmT ts=false):bC ts=.error (190,(hd ts).a):=by unfold bC; rw [if_neg (by rw [h]; decide)]; rfl
theorem bT (h:nmT ts=true):bC ts=.ok ((hd ts).t,ts.drop 1):=by unfold bC; rw [if_pos h]
theorem gp {s:List UInt8} (h:atT 1 s ts=false):bH s ts=.error (190,(hd ts).a):=by unfold bH; rw [if_neg (by rw [h]; decide)]
theorem ci {s:List UInt8} (h:atT 1 s ts=true):bH s ts=.ok (ts.drop 1):=by unfold bH; rw [if_pos h]
theorem o7 {s:List UInt8} (h:atT 4 s ts=false):fz s ts=.error (190,(hd ts).a):=by unfold fz; rw [if_neg (by rw [h]; decide)]
theorem lz {s:List UInt8} (h:atT 4 s ts=true):fz s ts=.ok (ts.drop 1):=by unfold fz; rw [if_pos h]
def j8 (ts:List Tok):PT ColX:=match bC ts with
 | .error x=>.error x
 | .ok (n,us)=>if cC us=0 then oE us else
  if atT 1 eN (us.drop 1)=true then (match bH dc ((us.drop 1).drop 1) with | .error x=>.error x | .ok vs=>.ok (⟨n,cC us,true⟩,vs)) else .ok (⟨n,cC us,false⟩,us.drop 1)
theorem uR (l:List ColX) (ts:List Tok):lG l ts=match j8 ts with | .error x=>.error x | .ok (c,us)=>.ok (l++[c],us):=by
 unfold lG j8
 cases bC ts with
 | error x=>rfl
 | ok r =>
  obtain ⟨n,us⟩:=r
  simp only
  split
  · rfl
  · split
    · cases bH dc ((us.drop 1).drop 1)<;>rfl
    · rfl
theorem colP_err {l:List ColX} (h:j8 ts=.error x):lG l ts=.error x:=by rw [uR,h]
theorem colP_ok {l:List ColX} {c:ColX} {us:List Tok} (h:j8 ts=.ok (c,us)):lG l ts=.ok (l++[c],us):=by rw [uR,h]
theorem colX_bad (h:nmT ts=false):j8 ts=.error (190,(hd ts).a):=by unfold j8; rw [eF h]
theorem xX (h:nmT ts=true) (h1:atT 1 intB (ts.drop 1)=false) (h2:atT 1 ql (ts.drop 1)=false) (h3:atT 1 sO (ts.drop 1)=false):j8 ts=.error (190,(hd (ts.drop 1)).a):=by
 unfold j8; rw [bT h]; simp only
 rw [if_pos (by unfold cC; rw [h1,h2,h3]; rfl)]; rfl
theorem xY {k:Int} (h:nmT ts=true) (hk:cC (ts.drop 1)=k) (h0:k≠0) (h1:atT 1 eN ((ts.drop 1).drop 1)=true) (h2:atT 1 dc (((ts.drop 1).drop 1).drop 1)=false):j8 ts=.error (190,(hd (((ts.drop 1).drop 1).drop 1)).a):=by
 unfold j8; rw [bT h]; simp only
 rw [hk,if_neg h0,if_pos h1,gp h2]
theorem colX_two {k:Int} (h:nmT ts=true) (hk:cC (ts.drop 1)=k) (h0:k≠0) (h1:atT 1 eN ((ts.drop 1).drop 1)=true) (h2:atT 1 dc (((ts.drop 1).drop 1).drop 1)=true):j8 ts=.ok (⟨(hd ts).t,k,true⟩,(((ts.drop 1).drop 1).drop 1).drop 1):=by
 unfold j8; rw [bT h]; simp only
 rw [hk,if_neg h0,if_pos h1,ci h2]
theorem colX_one {k:Int} (h:nmT ts=true) (hk:cC (ts.drop 1)=k) (h0:k≠0) (h1:atT 1 eN ((ts.drop 1).drop 1)=false):j8 ts=.ok (⟨(hd ts).t,k,false⟩,(ts.drop 1).drop 1):=by
 unfold j8; rw [bT h]; simp only
 rw [hk,if_neg h0,if_neg (by rw [h1]; decide)]
theorem kind_1 (h:atT 1 intB ts=true):cC ts=1:=by unfold cC; rw [if_pos h]
theorem kind_2 (h1:atT 1 intB ts=false) (h:atT 1 ql ts=true):cC ts=2:=by unfold cC; rw [h1,if_neg (by decide),if_pos h]
theorem kind_3 (h1:atT 1 intB ts=false) (h2:atT 1 ql ts=false) (h:atT 1 sO ts=true):cC ts=3:=by unfold cC; rw [h1,h2,if_neg (by decide),if_neg (by decide),if_pos h]
theorem xZ {c:ColX} {us:List Tok} (hg:Good ts) (h:j8 ts=.ok (c,us)):Cuts ts us:=by
 unfold j8 at h
 cases h1:bC ts with
 | error x=>simp only [h1] at h; cases h
 | ok r =>
  obtain ⟨n,t1⟩:=r
  simp only [h1] at h
  have c1:=bQ hg h1
  split at h
  · cases h
  rename_i hk
  have hat:∃ s,atT 1 s t1=true:=by
   unfold cC at hk
   split at hk
   · rename_i h0; exact ⟨_,h0⟩
   split at hk
   · rename_i h0; exact ⟨_,h0⟩
   split at hk
   · rename_i h0; exact ⟨_,h0⟩
   · exact absurd rfl hk
  obtain ⟨s,hs⟩:=hat
  have c2:=aH c1 (by decide) hs
  split at h
  · rename_i h2
    have c3:=aH c2 (by decide) h2
    unfold bH at h
    split at h
    · cases h
    · rename_i vs hv
      split at hv
      · rename_i h4
        cases hv
        simp only [Except.ok.injEq,Prod.mk.injEq] at h
        rw [← h.2]; exact aH c3 (by decide) h4
      · cases hv
  · simp only [Except.ok.injEq,Prod.mk.injEq] at h
    rw [← h.2]; exact c2
theorem pc {l l':List ColX} {us:List Tok} (hg:Good ts) (h:lG l ts=.ok (l',us)):Cuts ts us:=by
 rw [uR] at h
 cases h1:j8 ts with
 | error x=>simp only [h1] at h; cases h
 | ok r =>
  obtain ⟨c,vs⟩:=r
  simp only [h1,Except.ok.injEq,Prod.mk.injEq] at h
  rw [← h.2]; exact xZ hg h1
theorem onP_bad {l:List (List UInt8)} (h:nmT ts=false):onP l ts=.error (190,(hd ts).a):=by unfold onP; rw [eF h]
theorem onP_ok {l:List (List UInt8)} (h:nmT ts=true):onP l ts=.ok (l++[(hd ts).t],ts.drop 1):=by unfold onP; rw [bT h]
theorem rD {l l':List (List UInt8)} {us:List Tok} (hg:Good ts) (h:onP l ts=.ok (l',us)):Cuts ts us:=by
 unfold onP at h
 cases h1:bC ts with
 | error x=>simp only [h1] at h; cases h
 | ok r =>
  obtain ⟨n,vs⟩:=r
  simp only [h1,Except.ok.injEq,Prod.mk.injEq] at h
  rw [← h.2]; exact bQ hg h1
theorem ww {l:List SetX} (h:nmT ts=false):iY f d l ts=.error (190,(hd ts).a):=by unfold iY; rw [eF h]
theorem wx {l:List SetX} (h:nmT ts=true) (h2:atT 4 [61] (ts.drop 1)=false):iY f d l ts=.error (190,(hd (ts.drop 1)).a):=by unfold iY; rw [bT h]; simp only [o7 h2]
theorem wy {l:List SetX} (h:nmT ts=true) (h2:atT 4 [61] (ts.drop 1)=true) (h3:exP f 1 d ((ts.drop 1).drop 1)=.error x):iY f d l ts=.error x:=by unfold iY; rw [bT h]; simp only [lz h2,h3]
theorem wz {l:List SetX} {e:Ex} {us:List Tok} (h:nmT ts=true) (h2:atT 4 [61] (ts.drop 1)=true) (h3:exP f 1 d ((ts.drop 1).drop 1)=.ok (e,us)):iY f d l ts=.ok (l++[⟨(hd ts).t,e⟩],us):=by unfold iY; rw [bT h]; simp only [lz h2,h3]
theorem pd {l l':List SetX} {us:List Tok} (hg:Good ts) (h:iY f d l ts=.ok (l',us)):Cuts ts us:=by
 cases h1:nmT ts with
 | false=>rw [ww h1] at h; cases h
 | true =>
  have c1:Cuts ts (ts.drop 1):=⟨List.drop_suffix 1 ts,hg.name h1⟩
  cases h2:atT 4 [61] (ts.drop 1) with
  | false=>rw [wx h1 h2] at h; cases h
  | true =>
   have c2:=aH c1 (by decide) h2
   cases h3:exP f 1 d ((ts.drop 1).drop 1) with
   | error x=>rw [wy h1 h2 h3] at h; cases h
   | ok r =>
    obtain ⟨e,vs⟩:=r
    rw [wz h1 h2 h3] at h
    simp only [Except.ok.injEq,Prod.mk.injEq] at h
    rw [← h.2]; exact c2.trans (cE f 1 d _ c2.2 e vs h3).1
theorem pf {l:List Ex} (h3:exP f 1 d ts=.error x):jr f d l ts=.error x:=by unfold jr; rw [h3]
theorem j9 {l:List Ex} {e:Ex} {us:List Tok} (h3:exP f 1 d ts=.ok (e,us)):jr f d l ts=.ok (l++[e],us):=by unfold jr; rw [h3]
theorem kU {l l':List Ex} {us:List Tok} (hg:Good ts) (h:jr f d l ts=.ok (l',us)):Cuts ts us:=by
 cases h3:exP f 1 d ts with
 | error x=>rw [pf h3] at h; cases h
 | ok r =>
  obtain ⟨e,vs⟩:=r
  rw [j9 h3] at h
  simp only [Except.ok.injEq,Prod.mk.injEq] at h
  rw [← h.2]; exact (cE f 1 d _ hg e vs h3).1
section
variable {τ:Type} {can:List Tok→Bool} {one:List τ→List Tok→PT (List τ)} {l:List τ} {us:List Tok}
theorem tg (h:atT 4 [40] ts=false):inP can one ts=.error (190,(hd ts).a):=by unfold inP; rw [o7 h]
theorem th (h:atT 4 [40] ts=true) (h2:cM can one 17 0 [] (ts.drop 1)=.error x):inP can one ts=.error x:=by unfold inP; rw [lz h]; simp only [h2]
theorem tj (h:atT 4 [40] ts=true) (h2:cM can one 17 0 [] (ts.drop 1)=.ok (l,us)) (h3:atT 4 [41] us=false):inP can one ts=.error (190,(hd us).a):=by unfold inP; rw [lz h]; simp only [h2,o7 h3]
theorem tl (h:atT 4 [40] ts=true) (h2:cM can one 17 0 [] (ts.drop 1)=.ok (l,us)) (h3:atT 4 [41] us=true):inP can one ts=.ok (l,us.drop 1):=by unfold inP; rw [lz h]; simp only [h2,lz h3]
end
theorem lW {k:Nat} {l:List (List Ex)} (h:inP gU (jr f d) ts=.error x):dR f d (k+1) l ts=.error x:=by rw [dR,h]
theorem pg {k:Nat} {l:List (List Ex)} {r:List Ex} {us:List Tok} (h:inP gU (jr f d) ts=.ok (r,us)) (h2:atT 4 [44] us=true):dR f d (k+1) l ts=dR f d k (l++[r]) (us.drop 1):=by rw [dR,h]; simp only [h2,if_true]
theorem qD {k:Nat} {l:List (List Ex)} {r:List Ex} {us:List Tok} (h:inP gU (jr f d) ts=.ok (r,us)) (h2:atT 4 [44] us=false):dR f d (k+1) l ts=.ok (l++[r],us):=by rw [dR,h]; simp only [h2,Bool.false_eq_true,if_false]
end
section
variable {ts t1 t2 t3 t4:List Tok} {x:Flt} {f d:Nat} {r:PT StmtX} {n t:List UInt8} {e:Ex}
theorem cr_t (h:atT 1 eA ts=true):er ts=(match bC (ts.drop 1) with | .error x=>.error x | .ok (t,us)=>match inP nmT lG us with | .error x=>.error x | .ok (l,vs)=>.ok ({ StmtX.zero with k:=1,t:=t,cols:=l },vs)):=by unfold er; rw [if_pos h]<;>rfl
theorem cr_i (h:atT 1 eA ts=false):er ts=(match bH eg (if atT 1 cq ts=true then ts.drop 1 else ts) with
  | .error x=>.error x
  | .ok us=>match bC us with
   | .error x=>.error x
   | .ok (n,vs)=>match bH onB vs with
    | .error x=>.error x
    | .ok zs=>match bC zs with
     | .error x=>.error x
     | .ok (t,xs)=>match inP nmT onP xs with
      | .error x=>.error x
      | .ok (l,ys)=>.ok ({ StmtX.zero with k:=3,un:=atT 1 cq ts,n:=n,t:=t,on:=l },ys)):=by unfold er; rw [if_neg (by rw [h]; decide)]<;>rfl
end
abbrev lsE {α:Type} (K:Kd α) (sb t e:Nat) (cs:LS α→List Value) (s:LS α):List Chunk:=[box sb t (cs s),row (.slice s.A s.l.length s.c) e K.z s.l.length s.xs,du K s.bl s.l s.xs]
theorem lsEL {α:Type} (K:Kd α) (sb t e:Nat) (cs:LS α→List Value) (s:LS α):(∀ c ∈ lsE K sb t e cs s,∀ k,c.fp k→k ∈ lsL sb s)∧(∀ k ∈ lsL sb s, ∃ c ∈ lsE K sb t e cs s,c.fp k):=by
 obtain ⟨h1,h2⟩:=kN K sb e cs s
 refine ⟨fun c hc=>?_,fun k hk=>?_⟩
 · simp only [lsE,List.mem_cons,List.not_mem_nil,or_false] at hc
   rcases hc with rfl | rfl | rfl
   · exact h1 (box sb 37 (cs s)) List.mem_cons_self
   · exact h1 _ (List.mem_cons_of_mem _ List.mem_cons_self)
   · exact h1 _ (List.mem_cons_of_mem _ (List.mem_cons_of_mem _ List.mem_cons_self))
 · obtain ⟨c,hc,hf⟩:=h2 k hk
   simp only [lsD,List.mem_cons,List.not_mem_nil,or_false] at hc
   rcases hc with rfl | rfl | rfl
   · exact ⟨_,List.mem_cons_self,hf⟩
   · exact ⟨_,List.mem_cons_of_mem _ List.mem_cons_self,hf⟩
   · exact ⟨_,List.mem_cons_of_mem _ (List.mem_cons_of_mem _ List.mem_cons_self),hf⟩
theorem Sat.moreRow {cx:Cx} {H:List Chunk} {w:World} {A:Option Addr} {n c e:Nat} {xs ys:List Value} {bl bm:List Nat} {l:List (List Ex)} {r:List Ex} (h:Sat cx (du rowKd bl l xs::row (.slice A n c) e dU.z n ys::du dU bm r ys::H) w) (hn:n=r.length) :
  Sat cx (du rowKd (bl++(blkA A++bm)) (l++[r]) (xs++[.slice A n c])::H) w:=by
 refine Sat.fuse (l:=[_,_,_]) h _ (fun hh=>?_) (fun j hj=>?_)
 · have k1:=hh _ (Nth.mem .z)
   have k2:=hh _ (Nth.mem (.s .z))
   have k3:=hh _ (Nth.mem (.s (.s .z)))
   refine ⟨rowKd.seq_app (rowKd.seq_mono (fun k hk=>List.mem_append_left _ hk) k1.1) ⟨[.slice A n c],[],rfl,⟨_,rfl,dU.sl_mono (fun k hk=>List.mem_append_right _ hk) (fJ dU k2 hn k3.1)⟩,rfl⟩,fun j hj=>?_⟩
   rcases List.mem_append.1 hj with hj | hj
   · exact k1.2 j hj
   · rcases List.mem_append.1 hj with hj | hj
     · exact (row (.slice A n c) e dU.z n ys).lt w j k2 (eh hj)
     · exact k3.2 j hj
 · rcases List.mem_append.1 hj with hj | hj
   · exact ⟨_,Nth.mem .z,hj⟩
   · rcases List.mem_append.1 hj with hj | hj
     · exact ⟨_,Nth.mem (.s .z),eh hj⟩
     · exact ⟨_,Nth.mem (.s (.s .z)),hj⟩
abbrev zEx:List Value:=[.int .i64 0,.int .i64 0,.int .i64 0,.string .empty,.string .empty,.string .empty,.int .i64 0,.slice none 0 0]
abbrev zQr:List Value:=[.bool false,.bool false,.slice none 0 0,.slice none 0 0,.int .i64 0,.int .i64 0,.int .i64 0,.string .empty,.string .empty,.string .empty,.int .i64 0,.slice none 0 0,.slice none 0 0,.bool false,.int .i64 0]
theorem tm (bl:List Nat) (w:World):ExK bl w Ex.zero zEx:=⟨none,0,[],rfl,Nat.le_refl _,Rd.nil _ _,(fun _ h=>by cases h),rfl⟩
theorem qE (bl:List Nat) (w:World):QK bl w QryX.zero (.slice none 0 0) (.slice none 0 0) (.slice none 0 0) zEx:=⟨itemKd.sl_nil _ _,srcKd.sl_nil _ _,tm _ _,ordKd.sl_nil _ _⟩
section
variable {cx:Cx} {H:List Chunk} {w:World} {A:Option Addr} {n c e:Nat} {xs cs:List Value} {bl bm:List Nat}
theorem Sat.stPlain (k:Int) (t m:List UInt8) (h:Sat cx H w):Sat cx (stC [] { StmtX.zero with k:=k,t:=t,n:=m } ([.int .i64 k,.string (B t),.string (B m),.slice none 0 0,.slice none 0 0,.bool false,.slice none 0 0,.slice none 0 0]++(zEx++zQr))::H) w :=
 h.fuse (l:=[]) _ (fun _=>⟨⟨_,_,_,_,_,_,_,_,_,rfl,colKd.sl_nil _ _,nameKd.sl_nil _ _,rowKd.sl_nil _ _,setKd.sl_nil _ _,tm _ _,qE _ _⟩,fun k hk=>by cases hk⟩) (fun k hk=>by cases hk)
theorem Sat.stCols {l:List ColX} (t:List UInt8) (h:Sat cx (row (.slice A n c) e colKd.z n xs::du colKd bl l xs::H) w) (hn:n=l.length):Sat cx (stC (blkA A++bl) { StmtX.zero with k:=1,t:=t,cols:=l } ([.int .i64 1,.string (B t),.string .empty,.slice A n c,.slice none 0 0,.bool false,.slice none 0 0,.slice none 0 0]++(zEx++zQr))::H) w:=by
 refine Sat.fuse (l:=[_,_]) h _ (fun hh=>?_) (fun j hj=>?_)
 · have k1:=hh _ (Nth.mem .z)
   have k2:=hh _ (Nth.mem (.s .z))
   refine ⟨⟨_,_,_,_,_,_,_,_,_,rfl,fJ colKd k1 hn k2.1,nameKd.sl_nil _ _,rowKd.sl_nil _ _,setKd.sl_nil _ _,tm _ _,qE _ _⟩,fun j hj=>?_⟩
   rcases List.mem_append.1 hj with hj | hj
   · exact (row (.slice A n c) e colKd.z n xs).lt w j k1 (eh hj)
   · exact k2.2 j hj
 · rcases List.mem_append.1 hj with hj | hj
   · exact ⟨_,Nth.mem .z,eh hj⟩
   · exact ⟨_,Nth.mem (.s .z),hj⟩
theorem Sat.stOn {l:List (List UInt8)} (t m:List UInt8) (u:Bool) (h:Sat cx (row (.slice A n c) e nameKd.z n xs::du nameKd bl l xs::H) w) (hn:n=l.length):Sat cx (stC (blkA A++bl) { StmtX.zero with k:=3,t:=t,n:=m,on:=l,un:=u } ([.int .i64 3,.string (B t),.string (B m),.slice none 0 0,.slice A n c,.bool u,.slice none 0 0,.slice none 0 0]++(zEx++zQr))::H) w:=by
 refine Sat.fuse (l:=[_,_]) h _ (fun hh=>?_) (fun j hj=>?_)
 · have k1:=hh _ (Nth.mem .z)
   have k2:=hh _ (Nth.mem (.s .z))
   refine ⟨⟨_,_,_,_,_,_,_,_,_,rfl,colKd.sl_nil _ _,fJ nameKd k1 hn k2.1,rowKd.sl_nil _ _,setKd.sl_nil _ _,tm _ _,qE _ _⟩,fun j hj=>?_⟩
   rcases List.mem_append.1 hj with hj | hj
   · exact (row (.slice A n c) e nameKd.z n xs).lt w j k1 (eh hj)
   · exact k2.2 j hj
 · rcases List.mem_append.1 hj with hj | hj
   · exact ⟨_,Nth.mem .z,eh hj⟩
   · exact ⟨_,Nth.mem (.s .z),hj⟩
theorem Sat.stRows {l:List (List Ex)} (t:List UInt8) (h:Sat cx (row (.slice A n c) e rowKd.z n xs::du rowKd bl l xs::H) w) (hn:n=l.length):Sat cx (stC (blkA A++bl) { StmtX.zero with k:=5,t:=t,rows:=l } ([.int .i64 5,.string (B t),.string .empty,.slice none 0 0,.slice none 0 0,.bool false,.slice A n c,.slice none 0 0]++(zEx++zQr))::H) w:=by
 refine Sat.fuse (l:=[_,_]) h _ (fun hh=>?_) (fun j hj=>?_)
 · have k1:=hh _ (Nth.mem .z)
   have k2:=hh _ (Nth.mem (.s .z))
   refine ⟨⟨_,_,_,_,_,_,_,_,_,rfl,colKd.sl_nil _ _,nameKd.sl_nil _ _,fJ rowKd k1 hn k2.1,setKd.sl_nil _ _,tm _ _,qE _ _⟩,fun j hj=>?_⟩
   rcases List.mem_append.1 hj with hj | hj
   · exact (row (.slice A n c) e rowKd.z n xs).lt w j k1 (eh hj)
   · exact k2.2 j hj
 · rcases List.mem_append.1 hj with hj | hj
   · exact ⟨_,Nth.mem .z,eh hj⟩
   · exact ⟨_,Nth.mem (.s .z),hj⟩
theorem Sat.stWh {ex:Ex} (t:List UInt8) (h:Sat cx (gB bl ex cs::H) w):Sat cx (stC bl { StmtX.zero with k:=6,t:=t,wh:=ex } ([.int .i64 6,.string (B t),.string .empty,.slice none 0 0,.slice none 0 0,.bool false,.slice none 0 0,.slice none 0 0]++(cs++zQr))::H) w:=by
 refine Sat.fuse (l:=[_]) h _ (fun hh=>?_) (fun j hj=>⟨_,List.mem_cons_self,hj⟩)
 have k1:=hh _ (Nth.mem .z)
 exact ⟨⟨_,_,_,_,_,_,_,_,_,rfl,colKd.sl_nil _ _,nameKd.sl_nil _ _,rowKd.sl_nil _ _,setKd.sl_nil _ _,k1.1,qE _ _⟩,k1.2⟩
theorem Sat.stSets {l:List SetX} {ex:Ex} (t:List UInt8) (h:Sat cx (row (.slice A n c) e setKd.z n xs::du setKd bl l xs::gB bm ex cs::H) w) (hn:n=l.length):Sat cx (stC ((blkA A++bl)++bm) { StmtX.zero with k:=7,t:=t,sets:=l,wh:=ex } ([.int .i64 7,.string (B t),.string .empty,.slice none 0 0,.slice none 0 0,.bool false,.slice none 0 0,.slice A n c]++(cs++zQr))::H) w:=by
 refine Sat.fuse (l:=[_,_,_]) h _ (fun hh=>?_) (fun j hj=>?_)
 · have k1:=hh _ (Nth.mem .z)
   have k2:=hh _ (Nth.mem (.s .z))
   have k3:=hh _ (Nth.mem (.s (.s .z)))
   refine ⟨⟨_,_,_,_,_,_,_,_,_,rfl,colKd.sl_nil _ _,nameKd.sl_nil _ _,rowKd.sl_nil _ _,setKd.sl_mono (fun k hk=>List.mem_append_left _ hk) (fJ setKd k1 hn k2.1),ExK.mono (fun k hk=>List.mem_append_right _ hk) _ _ k3.1,qE _ _⟩,fun j hj=>?_⟩
   rcases List.mem_append.1 hj with hj | hj
   · rcases List.mem_append.1 hj with hj | hj
     · exact (row (.slice A n c) e setKd.z n xs).lt w j k1 (eh hj)
     · exact k2.2 j hj
   · exact k3.2 j hj
 · rcases List.mem_append.1 hj with hj | hj
   · rcases List.mem_append.1 hj with hj | hj
     · exact ⟨_,Nth.mem .z,eh hj⟩
     · exact ⟨_,Nth.mem (.s .z),hj⟩
   · exact ⟨_,Nth.mem (.s (.s .z)),hj⟩
end
def nO (ts:List Tok):PT Int:=if atT 1 ie ts=true then .ok (9,ts.drop 1) else if atT 1 ga ts=true then .ok (10,ts.drop 1) else if atT 1 ef ts=true then .ok (11,ts.drop 1) else oE ts
theorem oth_1 {ts:List Tok} (h:atT 1 ie ts=true):nO ts=.ok (9,ts.drop 1):=by unfold nO; rw [if_pos h]
theorem oth_2 {ts:List Tok} (h0:atT 1 ie ts=false) (h:atT 1 ga ts=true):nO ts=.ok (10,ts.drop 1):=by unfold nO; rw [if_neg (cB h0),if_pos h]
theorem oth_3 {ts:List Tok} (h0:atT 1 ie ts=false) (h1:atT 1 ga ts=false) (h:atT 1 ef ts=true):nO ts=.ok (11,ts.drop 1):=by unfold nO; rw [if_neg (cB h0),if_neg (cB h1),if_pos h]
theorem oth_4 {ts:List Tok} (h0:atT 1 ie ts=false) (h1:atT 1 ga ts=false) (h2:atT 1 ef ts=false):nO ts=.error (190,(hd ts).a):=by unfold nO; rw [if_neg (cB h0),if_neg (cB h1),if_neg (cB h2)]; rfl
theorem jO (xs zs cs:List Value) (h:zs.length=cs.length):hY (xs++zs) xs.length cs=xs++cs:=by
 rw [lj cs _ _ (by rw [List.length_append,h]; exact Nat.le_refl _),List.take_left' rfl,List.drop_eq_nil_of_le (by rw [List.length_append,h]; exact Nat.le_refl _),List.append_nil]
section
variable {f d:Nat} {ts us:List Tok} {x:Flt} {s:StmtX}
theorem ph (h:atT 1 eO ts=true):cv f d ts=er (ts.drop 1):=by unfold cv; rw [if_pos h]
theorem kV (h0:atT 1 eO ts=false) (h:atT 1 kr ts=true):cv f d ts=gD (ts.drop 1):=by unfold cv; rw [if_neg (cB h0),if_pos h]
theorem iQ (h0:atT 1 eO ts=false) (h1:atT 1 kr ts=false) (h:atT 1 iv ts=true):cv f d ts=dI f d (ts.drop 1):=by unfold cv; rw [if_neg (cB h0),if_neg (cB h1),if_pos h]
theorem ka (h0:atT 1 eO ts=false) (h1:atT 1 kr ts=false) (h2:atT 1 iv ts=false) (h:atT 1 ix ts=true):cv f d ts=eb f d (ts.drop 1):=by unfold cv; rw [if_neg (cB h0),if_neg (cB h1),if_neg (cB h2),if_pos h]
theorem iR (h0:atT 1 eO ts=false) (h1:atT 1 kr ts=false) (h2:atT 1 iv ts=false) (h3:atT 1 ix ts=false) (h:atT 1 jd ts=true):cv f d ts=dJ f d (ts.drop 1):=by unfold cv; rw [if_neg (cB h0),if_neg (cB h1),if_neg (cB h2),if_neg (cB h3),if_pos h]
theorem wA (h0:atT 1 eO ts=false) (h1:atT 1 kr ts=false) (h2:atT 1 iv ts=false) (h3:atT 1 ix ts=false) (h4:atT 1 jd ts=false) (h5:atT 1 ft ts=false):cv f d ts=match nO ts with | .error x=>.error x | .ok (k,us)=>.ok ({ StmtX.zero with k:=k },us):=by
 unfold cv nO; rw [if_neg (cB h0),if_neg (cB h1),if_neg (cB h2),if_neg (cB h3),if_neg (cB h4),if_neg (cB h5)]
 by_cases k1:atT 1 ie ts=true
 · rw [if_pos k1,if_pos k1]
 rw [if_neg k1,if_neg k1]
 by_cases k2:atT 1 ga ts=true
 · rw [if_pos k2,if_pos k2]
 rw [if_neg k2,if_neg k2]
 by_cases k3:atT 1 ef ts=true
 · rw [if_pos k3,if_pos k3]
 · rw [if_neg k3,if_neg k3]; rfl
end
theorem qF {f d m n:Nat} {l:List (List Ex)} {r:List Ex} {V us:List Tok} {F:PT (List (List Ex))} (hk:F=dR f d (m+1) l V) (h:inP gU (jr f d) V=.ok (r,us)) :
  F=(if n+1=0∨atT 4 [44] us=true then dR f d m (l++[r]) (if n+1=0 then us else us.drop 1) else .ok (l++[r],us)):=by
 rw [hk]
 cases hc:atT 4 [44] us with
 | true=>rw [pg h hc,if_pos (.inr rfl),if_neg (Nat.succ_ne_zero n)]
 | false=>rw [qD h hc,if_neg (by rintro (e | e); exact Nat.succ_ne_zero n e; cases e)]
section
variable {f d:Nat} {ts us t1 t2:List Tok} {x:Flt} {l:List (List Ex)} {m:List SetX} {e:Ex}
theorem drop_t1 (h:atT 1 eA ts=true) (h2:nmT (ts.drop 1)=false):gD ts=.error (190,(hd (ts.drop 1)).a):=by unfold gD; rw [if_pos h]; simp only [eF h2]
theorem drop_t2 (h:atT 1 eA ts=true) (h2:nmT (ts.drop 1)=true):gD ts=.ok ({ StmtX.zero with k:=2,t:=(hd (ts.drop 1)).t },(ts.drop 1).drop 1):=by unfold gD; rw [if_pos h]; simp only [bT h2]
theorem drop_i1 (h:atT 1 eA ts=false) (h1:atT 1 eg ts=false):gD ts=.error (190,(hd ts).a):=by unfold gD; rw [if_neg (cB h)]; simp only [gp h1]
theorem drop_i2 (h:atT 1 eA ts=false) (h1:atT 1 eg ts=true) (h2:nmT (ts.drop 1)=false):gD ts=.error (190,(hd (ts.drop 1)).a):=by unfold gD; rw [if_neg (cB h)]; simp only [ci h1,eF h2]
theorem drop_i3 (h:atT 1 eA ts=false) (h1:atT 1 eg ts=true) (h2:nmT (ts.drop 1)=true):gD ts=.ok ({ StmtX.zero with k:=4,n:=(hd (ts.drop 1)).t },(ts.drop 1).drop 1):=by unfold gD; rw [if_neg (cB h)]; simp only [ci h1,bT h2]
theorem ins_1 (h:atT 1 kM ts=false):dI f d ts=.error (190,(hd ts).a):=by unfold dI; rw [gp h]
theorem ins_2 (h:atT 1 kM ts=true) (h2:nmT (ts.drop 1)=false):dI f d ts=.error (190,(hd (ts.drop 1)).a):=by unfold dI; rw [ci h]; simp only [eF h2]
theorem ins_3 (h:atT 1 kM ts=true) (h2:nmT (ts.drop 1)=true) (h3:atT 1 iw ((ts.drop 1).drop 1)=false):dI f d ts=.error (190,(hd ((ts.drop 1).drop 1)).a):=by unfold dI; rw [ci h]; simp only [bT h2,gp h3]
theorem ins_4 (h:atT 1 kM ts=true) (h2:nmT (ts.drop 1)=true) (h3:atT 1 iw ((ts.drop 1).drop 1)=true) (h4:dR f d (((ts.drop 1).drop 1).drop 1).length [] (((ts.drop 1).drop 1).drop 1)=.error x):dI f d ts=.error x:=by unfold dI; rw [ci h]; simp only [bT h2,ci h3,h4]
theorem ins_5 (h:atT 1 kM ts=true) (h2:nmT (ts.drop 1)=true) (h3:atT 1 iw ((ts.drop 1).drop 1)=true) (h4:dR f d (((ts.drop 1).drop 1).drop 1).length [] (((ts.drop 1).drop 1).drop 1)=.ok (l,us)):dI f d ts=.ok ({ StmtX.zero with k:=5,t:=(hd (ts.drop 1)).t,rows:=l },us):=by unfold dI; rw [ci h]; simp only [bT h2,ci h3,h4]
theorem del_1 (h:atT 1 eV ts=false):eb f d ts=.error (190,(hd ts).a):=by unfold eb; rw [gp h]
theorem del_2 (h:atT 1 eV ts=true) (h2:nmT (ts.drop 1)=false):eb f d ts=.error (190,(hd (ts.drop 1)).a):=by unfold eb; rw [ci h]; simp only [eF h2]
theorem del_3 (h:atT 1 eV ts=true) (h2:nmT (ts.drop 1)=true) (h3:cN f d ((ts.drop 1).drop 1)=.error x):eb f d ts=.error x:=by unfold eb; rw [ci h]; simp only [bT h2,h3]
theorem del_4 (h:atT 1 eV ts=true) (h2:nmT (ts.drop 1)=true) (h3:cN f d ((ts.drop 1).drop 1)=.ok (e,us)):eb f d ts=.ok ({ StmtX.zero with k:=6,t:=(hd (ts.drop 1)).t,wh:=e },us):=by unfold eb; rw [ci h]; simp only [bT h2,h3]
theorem upd_1 (h:nmT ts=false):dJ f d ts=.error (190,(hd ts).a):=by unfold dJ; rw [eF h]
theorem upd_2 (h:nmT ts=true) (h2:atT 1 oL (ts.drop 1)=false):dJ f d ts=.error (190,(hd (ts.drop 1)).a):=by unfold dJ; rw [bT h]; simp only [gp h2]
theorem upd_3 (h:nmT ts=true) (h2:atT 1 oL (ts.drop 1)=true) (h3:cM nmT (iY f d) 17 0 [] ((ts.drop 1).drop 1)=.error x):dJ f d ts=.error x:=by unfold dJ; rw [bT h]; simp only [ci h2,h3]
theorem upd_4 (h:nmT ts=true) (h2:atT 1 oL (ts.drop 1)=true) (h3:cM nmT (iY f d) 17 0 [] ((ts.drop 1).drop 1)=.ok (m,t1)) (h4:cN f d t1=.error x):dJ f d ts=.error x:=by unfold dJ; rw [bT h]; simp only [ci h2,h3,h4]
theorem upd_5 (h:nmT ts=true) (h2:atT 1 oL (ts.drop 1)=true) (h3:cM nmT (iY f d) 17 0 [] ((ts.drop 1).drop 1)=.ok (m,t1)) (h4:cN f d t1=.ok (e,us)):dJ f d ts=.ok ({ StmtX.zero with k:=7,t:=(hd ts).t,sets:=m,wh:=e },us):=by unfold dJ; rw [bT h]; simp only [ci h2,h3,h4]
end
section
variable {f d:Nat} {ts us:List Tok}
theorem rE {τ:Type} {can:List Tok→Bool} {one:List τ→List Tok→PT (List τ)} {l:List τ} (ho:∀ s us s' us',Good us→one s us=.ok (s',us')→Cuts us us') (hg:Good ts) (h:inP can one ts=.ok (l,us)):Cuts ts us:=by
 cases h1:atT 4 [40] ts with
 | false=>rw [tg h1] at h; cases h
 | true =>
  have c1:=aH (Cuts.refl hg) (by decide) h1
  cases h2:cM can one 17 0 [] (ts.drop 1) with
  | error x=>rw [th h1 h2] at h; cases h
  | ok r =>
   obtain ⟨m,vs⟩:=r
   have c2:=c1.trans (dG ho _ _ _ _ _ _ c1.2 h2)
   cases h3:atT 4 [41] vs with
   | false=>rw [tj h1 h2 h3] at h; cases h
   | true =>
    rw [tl h1 h2 h3] at h
    simp only [Except.ok.injEq,Prod.mk.injEq] at h
    rw [← h.2]; exact aH c2 (by decide) h3
theorem qG:∀ (k:Nat) (l l':List (List Ex)) (ts us:List Tok),Good ts→dR f d k l ts=.ok (l',us)→Cuts ts us
 | 0,l,l',ts,us,hg,h=>by
  simp only [dR,Except.ok.injEq,Prod.mk.injEq] at h
  rw [← h.2]; exact Cuts.refl hg
 | k+1,l,l',ts,us,hg,h=>by
  cases h1:inP gU (jr f d) ts with
  | error x=>rw [lW h1] at h; cases h
  | ok r =>
   obtain ⟨r,vs⟩:=r
   have c1:=rE (fun _ _ _ _ hg h=>kU hg h) hg h1
   cases h2:atT 4 [44] vs with
   | false =>
    rw [qD h1 h2] at h
    simp only [Except.ok.injEq,Prod.mk.injEq] at h
    rw [← h.2]; exact c1
   | true =>
    rw [pg h1 h2] at h
    have c2:=aH c1 (by decide) h2
    exact c2.trans (qG k _ _ _ _ c2.2 h)
theorem uS {q:QryX} (hg:Good ts) (h:cP f d ts=.ok (q,us)):Cuts ts us:=by
 unfold cP at h
 have c0:=mX hg
 cases h1:gc f d (cu ts) with
 | error x=>simp only [h1] at h; cases h
 | ok r =>
  obtain ⟨its,t1⟩:=r
  simp only [h1] at h
  have c1:=c0.trans (xA c0.2 h1)
  cases h2:eB f d t1 with
  | error x=>simp only [h2] at h; cases h
  | ok r =>
   obtain ⟨fr,t2⟩:=r
   simp only [h2] at h
   have c2:=c1.trans (qo c1.2 h2)
   cases h3:cN f d t2 with
   | error x=>simp only [h3] at h; cases h
   | ok r =>
    obtain ⟨wh,t3⟩:=r
    simp only [h3] at h
    have c3:=c2.trans (iN c2.2 h3)
    cases h4:eC t3 with
    | error x=>simp only [h4] at h; cases h
    | ok r =>
     obtain ⟨os,t4⟩:=r
     simp only [h4] at h
     have c4:=c3.trans (oP c3.2 h4)
     cases h5:eW t4 with
     | error x=>simp only [h5] at h; cases h
     | ok r =>
      obtain ⟨⟨li,lim⟩,t5⟩:=r
      simp only [h5,Except.ok.injEq,Prod.mk.injEq] at h
      rw [← h.2]; exact c4.trans (uC c4.2 h5)
theorem gF {s:List UInt8} (hg:Good ts) (h:bH s ts=.ok us):Cuts ts us:=by
 cases h1:atT 1 s ts with
 | false=>rw [gp h1] at h; cases h
 | true=>rw [ci h1] at h; cases h; exact aH (Cuts.refl hg) (by decide) h1
theorem tn {s:StmtX} (hg:Good ts) (h:er ts=.ok (s,us)):Cuts ts us:=by
 cases h0:atT 1 eA ts with
 | true =>
  rw [cr_t h0] at h
  have c0:=aH (Cuts.refl hg) (by decide) h0
  cases h1:bC (ts.drop 1) with
  | error x=>simp only [h1] at h; cases h
  | ok r =>
   obtain ⟨t,t1⟩:=r
   simp only [h1] at h
   have c1:=c0.trans (bQ c0.2 h1)
   cases h2:inP nmT lG t1 with
   | error x=>simp only [h2] at h; cases h
   | ok r =>
    obtain ⟨l,t2⟩:=r
    simp only [h2,Except.ok.injEq,Prod.mk.injEq] at h
    rw [← h.2]; exact c1.trans (rE (fun _ _ _ _ hg h=>pc hg h) c1.2 h2)
 | false =>
  rw [cr_i h0] at h
  have c0:Cuts ts (if atT 1 cq ts=true then ts.drop 1 else ts):=by
   split
   · rename_i h0; exact aH (Cuts.refl hg) (by decide) h0
   · exact Cuts.refl hg
  cases h1:bH eg (if atT 1 cq ts=true then ts.drop 1 else ts) with
  | error x=>simp only [h1] at h; cases h
  | ok t1 =>
   simp only [h1] at h
   have c1:=c0.trans (gF c0.2 h1)
   cases h2:bC t1 with
   | error x=>simp only [h2] at h; cases h
   | ok r =>
    obtain ⟨n,t2⟩:=r
    simp only [h2] at h
    have c2:=c1.trans (bQ c1.2 h2)
    cases h3:bH onB t2 with
    | error x=>simp only [h3] at h; cases h
    | ok t3 =>
     simp only [h3] at h
     have c3:=c2.trans (gF c2.2 h3)
     cases h4:bC t3 with
     | error x=>simp only [h4] at h; cases h
     | ok r =>
      obtain ⟨t,t4⟩:=r
      simp only [h4] at h
      have c4:=c3.trans (bQ c3.2 h4)
      cases h5:inP nmT onP t4 with
      | error x=>simp only [h5] at h; cases h
      | ok r =>
       obtain ⟨l,t5⟩:=r
       simp only [h5,Except.ok.injEq,Prod.mk.injEq] at h
       rw [← h.2]; exact c4.trans (rE (fun _ _ _ _ hg h=>rD hg h) c4.2 h5)
theorem x6 {s:StmtX} (hg:Good ts) (h:cv f d ts=.ok (s,us)):Cuts ts us:=by
 have cut:∀ {w:List UInt8},atT 1 w ts=true→Cuts ts (ts.drop 1):=fun hw=>aH (Cuts.refl hg) (by decide) hw
 unfold cv at h
 split at h
 · rename_i h0; exact (cut h0).trans (tn (cut h0).2 h)
 split at h
 · rename_i h0
   have c0:=cut h0
   unfold gD at h
   split at h
   · rename_i h1
     have c1:=aH c0 (by decide) h1
     cases h2:bC ((ts.drop 1).drop 1) with
     | error x=>simp only [h2] at h; cases h
     | ok r =>
      obtain ⟨t,t1⟩:=r
      simp only [h2,Except.ok.injEq,Prod.mk.injEq] at h
      rw [← h.2]; exact c1.trans (bQ c1.2 h2)
   · cases h1:bH eg (ts.drop 1) with
     | error x=>simp only [h1] at h; cases h
     | ok t1 =>
      simp only [h1] at h
      have c1:=c0.trans (gF c0.2 h1)
      cases h2:bC t1 with
      | error x=>simp only [h2] at h; cases h
      | ok r =>
       obtain ⟨t,t2⟩:=r
       simp only [h2,Except.ok.injEq,Prod.mk.injEq] at h
       rw [← h.2]; exact c1.trans (bQ c1.2 h2)
 split at h
 · rename_i h0
   have c0:=cut h0
   unfold dI at h
   cases h1:bH kM (ts.drop 1) with
   | error x=>simp only [h1] at h; cases h
   | ok t1 =>
    simp only [h1] at h
    have c1:=c0.trans (gF c0.2 h1)
    cases h2:bC t1 with
    | error x=>simp only [h2] at h; cases h
    | ok r =>
     obtain ⟨t,t2⟩:=r
     simp only [h2] at h
     have c2:=c1.trans (bQ c1.2 h2)
     cases h3:bH iw t2 with
     | error x=>simp only [h3] at h; cases h
     | ok t3 =>
      simp only [h3] at h
      have c3:=c2.trans (gF c2.2 h3)
      cases h4:dR f d t3.length [] t3 with
      | error x=>simp only [h4] at h; cases h
      | ok r =>
       obtain ⟨l,t4⟩:=r
       simp only [h4,Except.ok.injEq,Prod.mk.injEq] at h
       rw [← h.2]; exact c3.trans (qG _ _ _ _ _ c3.2 h4)
 split at h
 · rename_i h0
   have c0:=cut h0
   unfold eb at h
   cases h1:bH eV (ts.drop 1) with
   | error x=>simp only [h1] at h; cases h
   | ok t1 =>
    simp only [h1] at h
    have c1:=c0.trans (gF c0.2 h1)
    cases h2:bC t1 with
    | error x=>simp only [h2] at h; cases h
    | ok r =>
     obtain ⟨t,t2⟩:=r
     simp only [h2] at h
     have c2:=c1.trans (bQ c1.2 h2)
     cases h3:cN f d t2 with
     | error x=>simp only [h3] at h; cases h
     | ok r =>
      obtain ⟨e,t3⟩:=r
      simp only [h3,Except.ok.injEq,Prod.mk.injEq] at h
      rw [← h.2]; exact c2.trans (iN c2.2 h3)
 split at h
 · rename_i h0
   have c0:=cut h0
   unfold dJ at h
   cases h2:bC (ts.drop 1) with
   | error x=>simp only [h2] at h; cases h
   | ok r =>
    obtain ⟨t,t2⟩:=r
    simp only [h2] at h
    have c2:=c0.trans (bQ c0.2 h2)
    cases h1:bH oL t2 with
    | error x=>simp only [h1] at h; cases h
    | ok t1 =>
     simp only [h1] at h
     have c1:=c2.trans (gF c2.2 h1)
     cases h4:cM nmT (iY f d) 17 0 [] t1 with
     | error x=>simp only [h4] at h; cases h
     | ok r =>
      obtain ⟨l,t4⟩:=r
      simp only [h4] at h
      have c4:=c1.trans (dG (fun _ _ _ _ hg h=>pd hg h) _ _ _ _ _ _ c1.2 h4)
      cases h3:cN f d t4 with
      | error x=>simp only [h3] at h; cases h
      | ok r =>
       obtain ⟨e,t3⟩:=r
       simp only [h3,Except.ok.injEq,Prod.mk.injEq] at h
       rw [← h.2]; exact c4.trans (iN c4.2 h3)
 split at h
 · rename_i h0
   have c0:=cut h0
   unfold gM at h
   cases h1:cP f d (ts.drop 1) with
   | error x=>simp only [h1] at h; cases h
   | ok r =>
    obtain ⟨q,t1⟩:=r
    simp only [h1,Except.ok.injEq,Prod.mk.injEq] at h
    rw [← h.2]; exact c0.trans (uS c0.2 h1)
 split at h
 · rename_i h0; simp only [Except.ok.injEq,Prod.mk.injEq] at h; rw [← h.2]; exact cut h0
 split at h
 · rename_i h0; simp only [Except.ok.injEq,Prod.mk.injEq] at h; rw [← h.2]; exact cut h0
 split at h
 · rename_i h0; simp only [Except.ok.injEq,Prod.mk.injEq] at h; rw [← h.2]; exact cut h0
 · cases h
end
end Go.WK
namespace Go.WK.MP
open Go.RowKit Go.WK
inductive OT where
 | nil
 | fix (i:Nat) (t:OT)
 | op (i:Nat) (t:OT)
 | two (i j:Nat) (s t:OT)
def OT.len:OT→Nat
 | .nil=>0
 | .fix _ t=>t.len+1
 | .op _ t=>t.len+1
 | .two _ _ s _=>s.len+1
def OT.noFix:OT→Bool
 | .nil=>true
 | .fix _ _=>false
 | .op _ t=>t.noFix
 | .two _ _ s t=>s.noFix && t.noFix
def mixT (md:Region.Mode) (ops:Array Oper) (loose:List Nat):OT→Array Bool→Bool
 | .nil,listed=>(Region.ready md ops listed).isEmpty
 | .fix i l,listed=>(Region.ready md ops listed).contains i && (Region.free md ops listed i && (loose.all (fun j=>(nv md i ops.toList #[]).getD j false) && mixT md ops loose l (listed.setIfInBounds i true)))
 | .op i l,listed=>Region.ready md ops listed == [i] && ((!loose.contains i || l.noFix) && mixT md ops loose l (listed.setIfInBounds i true))
 | .two i j s t,listed=>Region.ready md ops listed == [i,j] && ((!loose.contains i || s.noFix) && ((!loose.contains j || t.noFix) && (s.len == t.len && (mixT md ops loose s (listed.setIfInBounds i true) && mixT md ops loose t (listed.setIfInBounds j true)))))
def mixTB (md:Region.Mode) (ops:Array Oper) (loose:List Nat) (l:OT):Bool:=Region.noSelect ops && ((l.len == ops.size) && mixT md ops loose l (Array.replicate ops.size false))
section
variable {P:Program} {ops:Array Oper} {md:Region.Mode} {C:World→Prop} {kp:Nat→Bool} {K:List PanicEntry→Act→World→Prop}
def eE (P:Program) (ops:Array Oper) (C:World→Prop) (loose:List Nat) (K:List PanicEntry→Act→World→Prop) (Q:Act→World→Prop):OT→Act→World→Prop
 | .nil,a,w=>Q a w
 | .fix i l,a,w=>∃ o v,ops[i]? = some o∧YieldsF P ops C o v a∧∀ w',Chg [] w w'→eE P ops C loose K Q l (a.put o.dst v) w'
 | .op i l,a,w=>wpOp P ops (pEx K) i (fun a' w'=>((!loose.contains i)=true→C w')∧∀ w'',adv (!loose.contains i) w' w''→eE P ops C loose K Q l a' w'') a w
 | .two i j s t,a,w=>wpOp P ops (pEx K) i (fun a' w'=>((!loose.contains i)=true→C w')∧∀ w'',adv (!loose.contains i) w' w''→eE P ops C loose K Q s a' w'') a w ∧
   wpOp P ops (pEx K) j (fun a' w'=>((!loose.contains j)=true→C w')∧∀ w'',adv (!loose.contains j) w' w''→eE P ops C loose K Q t a' w'') a w
theorem cl (hK:∀ ch a i v w,K ch (a.put i v) w→K ch a w) {Q:Act→World→Prop} {loose:List Nat} (hs:Region.noSelect ops=true) (hext:∀ w w',C w→Chg [] w w'→C w'):∀ (l:OT) (listed:Array Bool) (a:Act) (w:World),
  mixT md ops loose l listed=true→Shut md ops listed→(l.noFix=false→C w)→eE P ops C loose K Q l a w→dY P md ops C (fun j=>!loose.contains j) K Q l.len listed a w
 | .nil,_,_,_,hB,_,_,h=>⟨by simpa [mixT] using hB,h⟩
 | .fix i l,listed,a,w,hB,hcl,hC,h=>by
  obtain ⟨o,v,hi,hy,hk⟩:=h
  simp only [mixT,Bool.and_eq_true] at hB
  obtain ⟨hr,hf,hk',hB'⟩:=hB
  have hCw:=hC rfl
  refine fV hK hi (Region.noSelect_spec hs) hext (fun lst j hs' hi' hji hj=>?_) l.len listed a w hcl (Region.free_spec hi hf) (by simpa using hr) hy hCw
   (fun w' hw'=>cl hK hs hext l _ _ w' hB' (hcl.set (by simpa using hr)) (fun _=>hext _ _ hCw hw') (hk w' hw'))
  cases hc:loose.contains j with
  | false=>rfl
  | true=>exact absurd hj (mN hs' hi' hji (List.all_eq_true.1 hk' j (by simpa using hc)))
 | .op i l,listed,a,w,hB,hcl,hC,h=>by
  simp only [mixT,Bool.and_eq_true,beq_iff_eq] at hB
  obtain ⟨hr,hl,hB'⟩:=hB
  show dY P md ops C _ K Q (l.len+1) listed a w
  refine ⟨fun h0=>(by rw [hr] at h0; cases h0),fun j hj=>?_⟩
  rw [hr] at hj
  obtain rfl:j=i:=by simpa using hj
  refine wpOp_mono (fun a' w' h'=>⟨h'.1,fun w'' hw''=>cl hK hs hext l _ a' w'' hB' (hcl.set (by rw [hr]; exact List.mem_cons_self)) (fun hnf=>?_) (h'.2 w'' hw'')⟩) h
  rw [hnf,Bool.or_false] at hl
  exact hext _ _ (h'.1 hl) (cU hw'')
 | .two i j s t,listed,a,w,hB,hcl,hC,h=>by
  simp only [mixT,Bool.and_eq_true,beq_iff_eq] at hB
  obtain ⟨hr,hl1,hl2,hlen,hB1,hB2⟩:=hB
  show dY P md ops C _ K Q (s.len+1) listed a w
  refine ⟨fun h0=>(by rw [hr] at h0; cases h0),fun k hk=>?_⟩
  rw [hr] at hk
  have hk:k=i∨k=j:=by simpa using hk
  rcases hk with rfl | rfl
  · refine wpOp_mono (fun a' w' h'=>⟨h'.1,fun w'' hw''=>cl hK hs hext s _ a' w'' hB1 (hcl.set (by rw [hr]; exact List.mem_cons_self)) (fun hnf=>?_) (h'.2 w'' hw'')⟩) h.1
    rw [hnf,Bool.or_false] at hl1
    exact hext _ _ (h'.1 hl1) (cU hw'')
  · rw [hlen]
    refine wpOp_mono (fun a' w' h'=>⟨h'.1,fun w'' hw''=>cl hK hs hext t _ a' w'' hB2 (hcl.set (by rw [hr]; exact List.mem_cons_of_mem _ List.mem_cons_self)) (fun hnf=>?_) (h'.2 w'' hw'')⟩) h.2
    rw [hnf,Bool.or_false] at hl2
    exact hext _ _ (h'.1 hl2) (cU hw'')
end
section
variable {cx:Cx} {fs:aW} {H C:List Chunk} {Q:co} {ops:Array Oper} {loose:List Nat} {ord s t:OT}
def j7 (cx:Cx) (C:List Chunk) (ops:Array Oper) (loose:List Nat) (fs:aW) (H:List Chunk) (ord:OT) (Q:co):Prop :=
 ∀ a w,Has cx.n cx.ds fs a→Sat cx H w→eE cx.P ops (Sat cx C) loose (pK cx Q) (fun a w=>iF cx Q .normal a w) ord a w
theorem oY {id:Nat} {l:List Oper} (C:List Chunk) (ord:OT) (loose:List Nat) (hm:cx.P.follows .mixedOrders=true) (hB:mixTB .any l.toArray loose ord=true) (hC:∀ w,Sat cx H w→Sat cx C w)
  (h:j7 cx C l.toArray loose fs H ord Q):Tri cx fs H (.region id l.toArray true) Q:=fun a w ha hw=>by
 simp only [mixTB,Bool.and_eq_true,beq_iff_eq] at hB
 have h1:=cl (K:=pK cx Q) (fun ch a i v w=>pK_put ch a i v w) hB.1 (fun w w' h k=>h.ext k) ord _ a _ hB.2.2 (fun j oj _ hj=>by rw [fU] at hj; cases hj) (fun _=>hC _ hw.drew) (h a _ ha hw.drew)
 rw [hB.2.1] at h1
 exact wp_region_any hm (dZ (fun ch a w hk=>⟨[],[],⟨hk.1.1,hk.1.2,fun d v hd=>by cases hd⟩,hk.2.1,hk.2.2⟩) _ _ _ _ h1)
theorem gl (h:Q .normal fs H):j7 cx C ops loose fs H .nil Q:=fun _ _ ha hw=>⟨fs,H,ha,hw,h⟩
theorem gW {i:Nat} {o:Oper} (hi:ops[i]? = some o) (h:TriX true cx ops fs C [o] (fun e fs' _=>e=.normal∧j7 cx C ops loose fs' H ord Q)):j7 cx C ops loose fs H (.fix i ord) Q:=fun a w ha hw=>by
 have h1:=h a ha
 unfold fb at h1
 by_cases hw':Region.wanted o (yielded ops a.tmps)=true
 · rw [if_pos hw'] at h1
   obtain ⟨v,h2,fs',h3,_,h4⟩:=h1
   exact ⟨o,v,hi,.inl ⟨hw',h2⟩,fun w' hc=>h4 _ w' h3 (hw.ext hc)⟩
 · rw [if_neg hw'] at h1
   obtain ⟨fs',h3,_,h4⟩:=h1
   exact ⟨o,undef,hi,.inr ⟨by simpa using hw',rfl⟩,fun w' hc=>h4 _ w' h3 (hw.ext hc)⟩
abbrev mqT (cx:Cx) (C:List Chunk) (ops:Array Oper) (loose:List Nat) (i:Nat) (ord:OT) (Q:co):co:=mq Q fun fs' H'=>((!loose.contains i)=true→∀ w,Sat cx H' w→Sat cx C w)∧j7 cx C ops loose fs' H' ord Q
theorem uT {i:Nat} {o:Oper} (hi:ops[i]? = some o) (h:TriX false cx ops fs H [o] (mqT cx C ops loose i ord Q)) {a:Act} {w:World} (ha:Has cx.n cx.ds fs a) (hw:Sat cx H w) :
  wpOp cx.P ops (pEx (pK cx Q)) i (fun a' w'=>((!loose.contains i)=true→Sat cx C w')∧∀ w'',adv (!loose.contains i) w' w''→eE cx.P ops (Sat cx C) loose (pK cx Q) (fun a w=>iF cx Q .normal a w) ord a' w'') a w:=by
 have h1:=h a w ha hw
 unfold wpList at h1
 unfold wpOp
 simp only [hi]
 have key:∀ a' w',wpList cx.P ops (iF cx (mqT cx C ops loose i ord Q)) [] a' w' →
   ((!loose.contains i)=true→Sat cx C w')∧∀ w'',adv (!loose.contains i) w' w''→eE cx.P ops (Sat cx C) loose (pK cx Q) (fun a w=>iF cx Q .normal a w) ord a' w'':=by
  rintro a' w' ⟨fs',H',h2,h3,h4,h5⟩
  exact ⟨fun hk=>h4 hk _ h3,fun w'' hc=>h5 _ _ h2 (h3.ext (cU hc))⟩
 split
 · rename_i hw'
   rw [if_pos hw'] at h1
   rcases h1 with h1 | ⟨_,a',w',fs',H',_,_,h2⟩
   · refine .inl (eL key (fun ch a w ⟨fs',H',h2,h3,h4⟩=>⟨⟨h2.ds,h2.size⟩,h3.sublist (List.nil_sublist _),h4⟩) (fun _ _ ⟨_,_,_,_,h⟩=>h.elim) _ h1)
   · exact h2.elim
 · rename_i hw'
   rw [if_neg hw'] at h1
   exact key _ _ h1
theorem dm {i:Nat} {o:Oper} (hi:ops[i]? = some o) (h:TriX false cx ops fs H [o] (mqT cx C ops loose i ord Q)):j7 cx C ops loose fs H (.op i ord) Q:=fun _ _ ha hw=>uT hi h ha hw
theorem iO {i j:Nat} {o p:Oper} (hi:ops[i]? = some o) (hj:ops[j]? = some p) (h:TriX false cx ops fs H [o] (mqT cx C ops loose i s Q)) (k:TriX false cx ops fs H [p] (mqT cx C ops loose j t Q)):j7 cx C ops loose fs H (.two i j s t) Q:=fun _ _ ha hw =>
 ⟨uT hi h ha hw,uT hj k ha hw⟩
end
end Go.WK.MP
namespace Go.WK
open Go.RowKit Go.ChangeShapes Go.WideShapes Go.ChangeAt Go.ChangeMaps
variable {H:Type} {enc:TypeId × Value→H}
theorem pQ {P:Program} {w0:World} {laid:List (String × DataW Unit)} (args:Array Value) (hf:w0.layFits P laid []=true) (hi:w0.layIfaces P laid (w0.layVars P laid)=true):laidMet P laid ((w0.layVars P laid).forCall (fun _ _=>0) ⟨#[],args,[]⟩).memory:=by
 have e1:(laid.filter fun x=>(laid.map (·.1)).contains x.1)=laid:=List.filter_eq_self.2 fun x hx=>List.contains_iff_mem.2 (List.mem_map.2 ⟨x,hx,rfl⟩)
 have e2:(laid.filter fun x=>!(laid.map (·.1)).contains x.1)=[]:=List.filter_eq_nil_iff.2 fun x hx=>by rw [List.contains_iff_mem.2 (List.mem_map.2 ⟨x,hx,rfl⟩)]; simp
 have h:laidMet P laid (w0.layVars P laid):=laidMet_layVars (w0:=w0) (laid.map (·.1)) [] (by rw [e1]) (by rw [e1]; exact hf) (by rw [e1]; exact hi) (by rw [e2]; exact LaidIn.none)
 exact h.of_heap (by simp [World.memory,World.forCall,Input.heap])
theorem pi {P:Program} {laid:List (String × DataW Unit)} {w:World} {x:String × DataW Unit} (h:laidMetH P laid w) (e:(laid.filter fun x=>x.2.handleName?.isSome)=[x]):laidMet P (laid.filter fun x=>x.2.handleName?.isNone) w∧handlesMet P [x] w:=by
 unfold laidMetH at h
 rw [e] at h
 exact h
theorem pR {P:Program} {laid l2:List (String × DataW Unit)} {w:World} {x:String × DataW Unit} (e:(laid.filter fun x=>x.2.handleName?.isSome)=[x]) (e2:(laid.filter fun x=>x.2.handleName?.isNone)=l2) (h1:laidMet P l2 w) (h2:handlesMet P [x] w):laidMetH P laid w:=by
 unfold laidMetH
 rw [e,e2]
 exact ⟨h1,h2⟩
end Go.WK
namespace Go.WK
open Go.RowKit Go.ChangeShapes Go.WideShapes Go.ChangeAt Go.ChangeMaps
section
variable {H:Type} {enc:TypeId × Value→H}
theorem lX {C:Checked} {os:Os} {f:FuncId} {fn:Func} {s:OpenSpec} {conds:List PathCond} {apart:Bool} {laid:List (String × DataW Unit)} (modest:Bool) (w0:World) (args:Array Value) (hos:w0.os=os)
  (hsh:(w0.forCall (fun _ _=>0) ⟨#[],args,[]⟩).Shaped C.prog)
  (hok:Input.okWideB C.prog (w0.forCall (fun _ _=>0) ⟨#[],args,[]⟩) f ⟨#[],args,[]⟩=true)
  (hrow:s.preRow enc C.prog fn conds apart laid (w0.forCall (fun _ _=>0) ⟨#[],args,[]⟩).memory args) :
  ∃ (w:World) (tape:Tape) (i:Input),w.os=os∧(w.forCall tape i).Shaped C.prog∧i.vars=[]∧Input.okWide C.prog (w.forCall tape i) .any w.heap.size f i ∧
   s.preRow enc C.prog fn conds apart laid (w.forCall tape i).memory i.args∧({ modest:=modest }:Assume).holds C.prog (lone (Frame.enter C.prog f i.args .normal) [] (w.forCall tape i)) :=
 ⟨w0,fun _ _=>0,⟨#[],args,[]⟩,hos,hsh,(Input.okWide_of_okWideB (base:=0) hok).1,(Input.okWide_of_okWideB hok).2,hrow,by
  simp only [Assume.holds]
  exact ⟨by simp,by simp,fun _=>Modest.zero,by simp,by simp⟩⟩
end
mutual
theorem ExC.k {w:World}:∀ (e:Ex) (cs:List Value),ExC w e cs→∃ bl,(∀ k ∈ bl,k < w.heap.size)∧ExK bl w e cs
 | .mk o v t n c as,cs,h=>by
  obtain ⟨A,k,xs,h1,h2,h3,h4⟩:=h
  obtain ⟨bl,hb,hx⟩:=ExsC.k as xs h4
  by_cases hn:as=[]
  · exact ⟨bl,hb,A,k,xs,h1,h2,h3,fun _ _ h=>absurd hn h,hx⟩
  · have hl:=h4.len
    have hp:0 < as.length:=List.length_pos_iff.2 hn
    obtain ⟨u,hu⟩:∃ u,xs[0]? = some u:=⟨_,List.getElem?_eq_getElem (by omega)⟩
    obtain ⟨a,rfl,hc⟩:=h3 0 u hu
    have ha:a.block < w.heap.size:=World.block_lt_of_cell? w (a.add 0) hc
    refine ⟨a.block::bl,fun k hk=>?_,some a,k,xs,h1,h2,h3,fun a' e _=>?_,ExsK.mono (fun k hk=>List.mem_cons_of_mem _ hk) as xs hx⟩
    · rcases List.mem_cons.1 hk with rfl | hk
      · exact ha
      · exact hb k hk
    · cases e; exact List.mem_cons_self
theorem ExsC.k {w:World}:∀ (l:List Ex) (xs:List Value),ExsC w l xs→∃ bl,(∀ k ∈ bl,k < w.heap.size)∧ExsK bl w l xs
 | [],xs,h=>⟨[],(by simp),h⟩
 | e::es,xs,h=>by
  obtain ⟨y,ys,h1,h2,h3⟩:=h
  obtain ⟨b1,k1,m1⟩:=ExC.k e y h2
  obtain ⟨b2,k2,m2⟩:=ExsC.k es ys h3
  refine ⟨b1++b2,fun k hk=>?_,y,ys,h1,ExK.mono (fun k hk=>List.mem_append_left _ hk) e y m1,ExsK.mono (fun k hk=>List.mem_append_right _ hk) es ys m2⟩
  rcases List.mem_append.1 hk with hk | hk
  · exact k1 k hk
  · exact k2 k hk
end
section
variable {H:Type} {enc:TypeId × Value→H} {P:Program}
end
theorem op_len (o:Int):(jE o).length≤3:=by
 have key:∀ (c:Prop) [Decidable c] (a b:List UInt8),a.length≤3→b.length≤3→(if c then a else b).length≤3:=by intro c _ a b h1 h2; split<;>assumption
 unfold jE
 iterate 14 (refine key _ _ _ (by decide) ?_)
 decide
theorem wB (v:Val) (h:v.ok):(prV v).1.length≤2 * v.s.length+20:=by
 have hi:(Lib.itoa v.n).length≤20:=by
  have hn:=h.2
  by_cases h0:v.n < 0
  · rw [sJ h0]
    have:=vQ (u:=v.n.natAbs) (by omega)
    simp only [List.length_cons]; omega
  · rw [kJ h0]
    have:=vQ (u:=v.n.toNat) (by omega)
    omega
 have hd:=rm v.s
 unfold prV
 split
 · simp only
   split
   · omega
   · split
     · simp only [List.length_cons,List.length_append,List.length_nil]; omega
     · split
       · split<;>simp only [List.length_cons,List.length_nil]<;>omega
       · simp only [List.length_cons,List.length_nil]; omega
 · simp only [List.length_nil]; omega
theorem txt_len:∀ (m:Nat) (e:Ex),e.size < m→e.may=true→e.ok→∀ low:Int,(e.txt low).1.length≤32 * e.size:=by
 intro m
 induction m with
 | zero=>intro e h; omega
 | succ m ih =>
  intro e hs hm ho low
  have core:e.core.1.length+2≤32 * e.size:=by
   have hv:=view hm
   cases hv with
   | cst v hv h0 =>
    rw [c_cst]
    have:=wB v ho.2.1
    have e1:(cst v).size=v.s.length+1:=by simp [cst,Ex.size,Exs.size]
    simp only; omega
   | nam t n hn ht =>
    rw [c_nam]
    have e1:(Ex.mk 2 Val.zero t n 0 []).size=t.length+n.length+1:=by simp [Ex.size,Exs.size,Val.zero]
    simp only
    split
    · omega
    · simp only [List.length_append,List.length_cons]; omega
   | un o a ho' ha =>
    have hsz:=ly o a
    have ih:=ih a (by omega) ha ho.2.2.2.1
    have hcs:o=5∨o=4∨o=6∨o=7:=by omega
    rcases hcs with rfl | rfl | rfl | rfl
    · rw [s5]; have:=ih 3; simp only [List.length_append,List.length_cons,List.length_nil]; omega
    · rw [s6]; have:=ih 7; simp only [List.length_append,List.length_cons]; split<;>simp only [List.length_cons,List.length_nil]<;>omega
    · rw [s7]; have:=ih 5; simp only [List.length_append,List.length_cons,List.length_nil]; omega
    · rw [oT]; have:=ih 5; simp only [List.length_append,List.length_cons,List.length_nil]; omega
   | bin o a b ho' ha hb =>
    have hsz:=jM o a b
    have hs2:(bin o a b).size=a.size+b.size+1:=by simp [bin,Ex.size,Exs.size,Val.zero]
    have iha:=ih a (by omega) ha ho.2.2.2.1 (if lvl o=4 then 5 else lvl o)
    have ihb:=ih b (by omega) hb ho.2.2.2.2.1 (lvl o+1)
    have:=op_len o
    rw [qt a b o ho'.1]
    simp only [List.length_append,List.length_cons,List.length_nil]; omega
  by_cases hlow:lvl e.o < low
  · rw [kQ hlow]; simp only [List.length_append,List.length_cons,List.length_nil]; omega
  · rw [cV hlow]; omega
end Go.WK
namespace Go.WK
open Go.RowKit
theorem k_rng {s:StmtX} (h:fK s=true):1≤s.k∧s.k≤11:=by
 unfold fK at h
 simp only [Bool.and_eq_true] at h
 have h1:=h.1
 by_cases h9:s.k < 1∨8 < s.k
 · rw [oX (by omega)] at h1
   have:=of_decide_eq_true h1
   omega
 · omega
theorem may_part {s:StmtX} (h:fK s=true):dh s=true:=by
 unfold fK at h
 simp only [Bool.and_eq_true] at h
 exact h.1
theorem item_may {q:QryX} (h:jI q=true) {i:Nat} (hi:i < q.items.length):(q.items.getD i ItemX.zero).e.may=true:=by
 simp only [jI,Bool.and_eq_true] at h
 have h1:=fu h.2.2.1 hi
 simp only [mayI,Bool.and_eq_true] at h1
 exact h1.1
theorem src_may {q:QryX} (h:jI q=true) {i:Nat} (hi:i < q.from_.length) (h0:¬ (i:Int)=0):(q.from_.getD i SrcX.zero).e.may=true:=by
 simp only [jI,Bool.and_eq_true] at h
 have h1:=fu h.2.2.2.1 hi
 simp only [mayF,Bool.and_eq_true] at h1
 rw [if_neg (by omega)] at h1
 exact h1.2.2
theorem qwh_may {q:QryX} (h:jI q=true) (ho:q.wh.o≠0):q.wh.may=true:=by
 simp only [jI,Bool.and_eq_true] at h
 exact mw h.1.1 ho
theorem src_zero {i:Nat} (h:(i:Int)=0) (a:SrcX):dL i a=cat (raw ([32,102,114,111,109,32]++a.t)) (raw (asT a.s)):=by
 obtain rfl:i=0:=by omega
 simp [dL,cat,raw]
theorem src_succ {i:Nat} (h:¬ (i:Int)=0) (a:SrcX):dL i a=cat (raw ([32,106,111,105,110,32]++a.t)) (cat (raw (asT a.s)) (cat (raw [32,111,110,32]) (a.e.txt 1))):=by
 have h1:¬ i=0:=by omega
 simp [dL,cat,raw,h1]
theorem row_may {s:StmtX} (h:dh s=true) (hk:s.k=5) {i k:Nat} (hi:i < s.rows.length) (hk2:k < (s.rows.getD i []).length):((s.rows.getD i []).getD k Ex.zero).may=true:=by
 rw [uN hk] at h
 simp only [Bool.and_eq_true] at h
 have h1:=fu h.2.2 hi
 simp only [mayRow,Bool.and_eq_true] at h1
 exact fu h1.2 hk2
theorem wh6_may {s:StmtX} (h:dh s=true) (hk:s.k=6) (ho:s.wh.o≠0):s.wh.may=true:=by
 rw [ry hk] at h
 simp only [Bool.and_eq_true] at h
 exact mw h.2 ho
theorem wh7_may {s:StmtX} (h:dh s=true) (hk:s.k=7) (ho:s.wh.o≠0):s.wh.may=true:=by
 rw [oW hk] at h
 simp only [Bool.and_eq_true] at h
 exact mw h.2.2.1 ho
theorem set_may {s:StmtX} (h:dh s=true) (hk:s.k=7) {i:Nat} (hi:i < s.sets.length):(s.sets.getD i SetX.zero).e.may=true:=by
 rw [oW hk] at h
 simp only [Bool.and_eq_true] at h
 have h1:=fu h.2.2.2 hi
 simp only [maySet,Bool.and_eq_true] at h1
 exact h1.2
theorem qry_may {s:StmtX} (h:dh s=true) (hk:s.k=8):jI s.q=true:=by rw [← rz hk]; exact h
theorem rowT_eq (l:List Ex):iz l=cat (raw [40]) (cat (eX (fun k=>(l.getD k Ex.zero).txt 1) l.length) (raw [41])):=rfl
theorem setT_eq (a:SetX):js a=cat (raw (a.n++[32,61,32])) (a.e.txt 1):=rfl
theorem kb (a b:Txt):(cat a b).1.length=a.1.length+b.1.length:=by simp [cat]
theorem iA (s:List UInt8):(raw s).1.length=s.length:=rfl
end Go.WK
namespace Go.WK
open Go.RowKit Go.ChangeShapes Go.WideShapes Go.ChangeAt Go.ChangeMaps
def dS {α:Type} (f:α→Nat):List α→Nat
 | []=>0
 | a::l=>f a+dS f l
theorem iB {α:Type} (f:α→Nat) (zero:α):∀ {l:List α} {i:Nat},i < l.length→f (l.getD i zero)≤dS f l
 | [],i,h=>by simp at h
 | a::l,0,_=>by simp only [List.getD_cons_zero,dS]; omega
 | a::l,i+1,h=>by
  have:=iB f zero (l:=l) (i:=i) (by simpa using h)
  simp only [List.getD_cons_succ,dS]; omega
theorem gq {α:Type} (f:α→Nat) (h1:∀ a,1≤f a):∀ l:List α,l.length≤dS f l
 | []=>Nat.le_refl _
 | a::l=>by
  have:=gq f h1 l
  have:=h1 a
  simp only [List.length_cons,dS]; omega
theorem tq {α β:Type} (f:α→Nat) (g:β→Nat) (V:Nat→α) (D:Nat→β):∀ l:List Nat,(∀ i ∈ l,f (V i)≤g (D i))→dS f (l.map V)≤dS g (l.map D)
 | [],_=>Nat.le_refl _
 | i::l,h=>by
  have h1:=h i List.mem_cons_self
  have h2:=tq f g V D l (fun j hj=>h j (List.mem_cons_of_mem _ hj))
  simp only [List.map_cons,dS]; omega
theorem cut {α:Type} (cs:List α) (a z b:Nat) (h:a+z=b):cs.drop a=(cs.drop a).take z++cs.drop b:=by
 subst h
 rw [← List.drop_drop]
 exact (List.take_append_drop z (cs.drop a)).symm
theorem dB {α:Type} (cs:List α) (a z b:Nat) (h:a+z=b) {p r:List α} (hp:(cs.drop a).take z=p) (hr:cs.drop b=r):cs.drop a=p++r:=by
 have:=cut cs a z b h
 rw [hp,hr] at this
 exact this
theorem sl_of_R {α:Type} {K:Kd α} {bl:List Nat} {w:World} {l:List α} {y:SL} {xs:List Value} (h:SlR K bl w l y xs):K.sl bl w l (.slice y.A l.length y.k) :=
 ⟨y.A,y.k,xs,rfl,h.1,h.2.1,fun a ha hl=>h.2.2.1 a ha (fun hx=>hl (by
  have h1:=h.len
  rw [hx] at h1
  have hz:=K.pos
  cases l with
  | nil=>rfl
  | cons c l=>rw [List.length_cons,Nat.add_mul] at h1; simp at h1; omega)),h.2.2.2⟩
section
variable {H:Type} {enc:TypeId × Value→H} {P:Program}
theorem jg {α : Type} (K : Kd α) (zero : α) (bulk : DataW H → Nat) (f : α → Nat) (Q : α → Prop) {w : World} {ta e : TypeId} (hnil : 1 ≤ bulk .nil) (hbulk : ∀ l sp,dS bulk l + 1 ≤ bulk (.slice l sp)) (hta : P.underlying ta = some (.slice e)) (hc : P.cellsOf e = K.z)
    (hel : ∀ n cs d p,DataW.trod enc P w 0 (fun _ => true) true n e cs = some (d,p) → ∃ (x : α) (bl : List Nat),K.rel bl w x cs ∧ (∀ k ∈ bl,k < w.heap.size) ∧ Q x ∧ f x ≤ bulk d)
    {n : Nat} {cs : List Value} {d : DataW H} {p : List MemPlace} (h : DataW.trod enc P w 0 (fun _ => true) true n ta cs = some (d,p)) :
    ∃ (l : List α) (y : SL) (bl : List Nat) (xs : List Value),cs = [.slice y.A l.length y.k] ∧ SlR K bl w l y xs ∧ (∀ k ∈ bl,k < w.heap.size) ∧ (∀ i,i < l.length → Q (l.getD i zero)) ∧ dS f l + 1 ≤ bulk d := by
  rcases Deep.open_slice hta h with ⟨rfl,hx⟩ | ⟨a,len,cap,m,n',D,Pl,rfl,_,hl,hm,hmm,hx,he⟩
  · simp only [Prod.mk.injEq] at hx
    obtain ⟨rfl,_⟩ := hx
    exact ⟨[],⟨none,0⟩,[],[],rfl,⟨Nat.le_refl _,Rd.nil _ _,(fun _ h => by cases h),rfl⟩,fun k hk => by simp at hk,fun i hi => by simp at hi,hnil⟩
  · simp only [Prod.mk.injEq] at hx
    obtain ⟨rfl,_⟩ := hx
    simp only [if_true] at hmm
    subst m
    have : Inhabited α := ⟨zero⟩
    obtain ⟨V,hV⟩ := Deep.choose_lt (α := α) (n := len) (p := fun i u => ∃ cs',w.cells? 0 (a.add (i * K.z)) K.z = some cs' ∧ ∃ bl,K.rel bl w u cs' ∧ (∀ k ∈ bl,k < w.heap.size) ∧ Q u ∧ f u ≤ bulk (D i)) (fun i hi => by
      obtain ⟨cs',k1,k2⟩ := he i (by omega)
      rw [hc] at k1
      obtain ⟨u,bl,k3,k4,k5,k6⟩ := hel _ _ _ _ k2
      exact ⟨u,cs',k1,bl,k3,k4,k5,k6⟩)
    obtain ⟨C,hC⟩ := Deep.choose_lt (α := List Value) (n := len) (p := fun i cs' => w.cells? 0 (a.add (i * K.z)) K.z = some cs' ∧ ∃ bl,K.rel bl w (V i) cs' ∧ (∀ k ∈ bl,k < w.heap.size) ∧ Q (V i) ∧ f (V i) ≤ bulk (D i)) (fun i hi => hV i hi)
    obtain ⟨L,hL⟩ := Deep.choose_lt (α := List Nat) (n := len) (p := fun i bl => K.rel bl w (V i) (C i) ∧ (∀ k ∈ bl,k < w.heap.size) ∧ Q (V i) ∧ f (V i) ≤ bulk (D i)) (fun i hi => (hC i hi).2)
    have hlen : ∀ k,k ≤ len → ((List.range k).flatMap C).length = k * K.z := by
      intro k
      induction k with
      | zero => intro _; simp
      | succ k ihk =>
        intro hk
        rw [List.range_succ,List.flatMap_append,List.length_append,ihk (by omega)]
        simp only [List.flatMap_cons,List.flatMap_nil,List.append_nil]
        rw [K.len (hL k (by omega)).1,Nat.add_mul,Nat.one_mul]
    have hrd : ∀ k,k ≤ len → ∀ j u,((List.range k).flatMap C)[j]? = some u → w.cell? (a.add j) = some u := by
      intro k
      induction k with
      | zero => intro _ j u hu; simp at hu
      | succ k ihk =>
        intro hk j u hu
        have h8 := hlen k (by omega)
        rw [List.range_succ,List.flatMap_append] at hu
        simp only [List.flatMap_cons,List.flatMap_nil,List.append_nil] at hu
        rcases Nat.lt_or_ge j (k * K.z) with hj | hj
        · rw [List.getElem?_append_left (by omega)] at hu
          exact ihk (by omega) j u hu
        · rw [List.getElem?_append_right (by omega),h8] at hu
          obtain ⟨_,hl8,hcell⟩ := World.cells?_some (hC k (by omega)).1
          have hj2 : j - k * K.z < (C k).length := (List.getElem?_eq_some_iff.1 hu).1
          have := hcell (j - k * K.z) (by omega)
          rw [hu,ja,show k * K.z + (j - k * K.z) = j by omega] at this
          exact this
    have hseq : ∀ k,k ≤ len → K.seq (a.block :: (List.range len).flatMap L) w ((List.range k).map V) ((List.range k).flatMap C) := by
      intro k
      induction k with
      | zero => intro _; rfl
      | succ k ihk =>
        intro hk
        rw [List.range_succ,List.flatMap_append,List.map_append]
        simp only [List.flatMap_cons,List.flatMap_nil,List.append_nil,List.map_cons,List.map_nil]
        refine K.seq_app (ihk (by omega)) ⟨C k,[],by simp,K.mono (fun j hj => List.mem_cons_of_mem _ (List.mem_flatMap.2 ⟨k,List.mem_range.2 (by omega),hj⟩)) (hL k (by omega)).1,rfl⟩
    have hget : ∀ i,i < len → ((List.range len).map V).getD i zero = V i := fun i hi => by simp [List.getD,hi]
    have hfit : dS f ((List.range len).map V) + 1 ≤ bulk (.slice ((List.range len).map D) ((List.range (cap - len)).map fun j => D (len + j))) := by
      have h1 := tq f bulk V D (List.range len) (fun i hi => (hL i (List.mem_range.1 hi)).2.2.2)
      have h2 := hbulk ((List.range len).map D) ((List.range (cap - len)).map fun j => D (len + j))
      omega
    have hQ : ∀ i,i < ((List.range len).map V).length → Q (((List.range len).map V).getD i zero) := fun i hi => by
      have hi : i < len := by simpa using hi
      rw [hget i hi]
      exact (hL i hi).2.2.1
    by_cases h0 : len = 0
    · subst h0
      exact ⟨[],⟨some a,cap⟩,[],[],rfl,⟨Nat.zero_le _,(fun j u hu => by simp at hu),(fun _ _ hx => absurd rfl hx),rfl⟩,fun k hk => by simp at hk,fun i hi => by simp at hi,hfit⟩
    · have hab : a.block < w.heap.size := by
        obtain ⟨_,hl8,hcell⟩ := World.cells?_some (hC 0 (by omega)).1
        have hz := K.pos
        have hcl := K.len (hL 0 (by omega)).1
        have := hcell 0 (by omega)
        rw [List.getElem?_eq_getElem (by omega)] at this
        rw [Nat.zero_mul] at this
        have h2 := World.block_lt_of_cell? w _ this
        exact h2
      refine ⟨(List.range len).map V,⟨some a,cap⟩,a.block :: (List.range len).flatMap L,(List.range len).flatMap C,by simp,⟨by simpa using hl,fun j u hu => ⟨a,rfl,hrd len (Nat.le_refl _) j u hu⟩,fun a' e _ => by cases e; exact List.mem_cons_self,hseq len (Nat.le_refl _)⟩,fun k hk => ?_,hQ,hfit⟩
      rcases List.mem_cons.1 hk with rfl | hk
      · exact hab
      · obtain ⟨i,hi,hk⟩ := List.mem_flatMap.1 hk
        exact (hL i (List.mem_range.1 hi)).2.1 k hk
end
def fI (a:ItemX):Nat:=a.e.size+a.s.length+1
def fF (a:SrcX):Nat:=a.t.length+a.s.length+a.e.size+1
def fO (a:OrdX):Nat:=a.n.length+1
def fC (a:ColX):Nat:=a.n.length+1
def fN (s:List UInt8):Nat:=s.length+1
def fR (l:List Ex):Nat:=dS Ex.size l+1
def fT (a:SetX):Nat:=a.n.length+a.e.size+1
def fQ (q:QryX):Nat:=dS fI q.items+dS fF q.from_+q.wh.size+dS fO q.ord
def fS (s:StmtX):Nat:=s.t.length+s.n.length+dS fC s.cols+dS fN s.on+dS fR s.rows+dS fT s.sets+s.wh.size+fQ s.q
theorem ex_pos (e:Ex):1≤e.size:=by cases e; simp only [Ex.size]; omega
theorem qry_bd {q:QryX} (h:fQ q≤70368744177664):QBd q:=by
 unfold fQ at h
 have i1:=gq fI (fun _=>Nat.le_add_left _ _) q.items
 have i2:=gq fF (fun _=>Nat.le_add_left _ _) q.from_
 have i3:=gq fO (fun _=>Nat.le_add_left _ _) q.ord
 refine ⟨by show _≤70368744177664; omega,by show _≤70368744177664; omega,by show _≤70368744177664; omega,fun i hi=>?_,fun i hi=>?_,fun i hi=>?_,by show _≤70368744177664; omega⟩
 · have:=iB fI ItemX.zero hi
   unfold fI at this
   show _≤70368744177664∧_≤70368744177664
   unfold fI at h; omega
 · have:=iB fF SrcX.zero hi
   unfold fF at this
   show _≤70368744177664∧_≤70368744177664∧_≤70368744177664
   unfold fF at h; omega
 · have:=iB fO OrdX.zero hi
   unfold fO at this
   show _≤70368744177664
   unfold fO at h; omega
theorem stm_bd {s:StmtX} (h:fS s≤70368744177664):SBd s:=by
 unfold fS at h
 have i1:=gq fC (fun _=>Nat.le_add_left _ _) s.cols
 have i2:=gq fN (fun _=>Nat.le_add_left _ _) s.on
 have i3:=gq fR (fun _=>Nat.le_add_left _ _) s.rows
 have i4:=gq fT (fun _=>Nat.le_add_left _ _) s.sets
 refine ⟨by show _≤70368744177664; omega,by show _≤70368744177664; omega,by show _≤70368744177664; omega,by show _≤70368744177664; omega,by show _≤70368744177664; omega,by show _≤70368744177664; omega,fun i hi=>?_,fun i hi=>?_,fun i hi=>?_,fun i hi=>?_,by show _≤70368744177664; omega,qry_bd (by omega)⟩
 · have:=iB fC ColX.zero hi
   unfold fC at this
   show _≤70368744177664
   unfold fC at h; omega
 · have:=iB fN [] hi
   unfold fN at this
   show _≤70368744177664
   unfold fN at h; omega
 · have:=iB fR [] hi
   have hlr:=gq Ex.size ex_pos (s.rows.getD i [])
   unfold fR at this
   refine ⟨by show _≤70368744177664; unfold fR at h; omega,fun j hj=>?_⟩
   have:=iB Ex.size Ex.zero hj
   show _≤70368744177664
   unfold fR at h; omega
 · have:=iB fT SetX.zero hi
   unfold fT at this
   show _≤70368744177664∧_≤70368744177664
   unfold fT at h; omega
theorem wC {α:Type} (f:α→Nat) (zero:α):∀ (l:List α) (g:Nat→Txt),(∀ i,i < l.length→(g i).1.length≤64 * f (l.getD i zero))→(upT g l.length).1.length≤64 * dS f l:=by
 have key:∀ (l:List α) (g:Nat→Txt),(upT g (l.length+1)).1.length=(g 0).1.length+(upT (fun i=>g (i+1)) l.length).1.length:=by
  intro l g
  induction l.length with
  | zero=>simp [upT,cat]
  | succ n ih =>
   have e:∀ (g:Nat→Txt) (n:Nat),(upT g (n+1)).1.length=(upT g n).1.length+(g n).1.length:=fun g n=>by simp [upT,cat]
   rw [e,ih,e]; omega
 intro l
 induction l with
 | nil=>intro g _; exact Nat.le_refl _
 | cons a l ih =>
  intro g h
  rw [List.length_cons,key,dS]
  have h0:=h 0 (by simp)
  have h1:=ih (fun i=>g (i+1)) (fun i hi=>by have:=h (i+1) (by simpa using hi); simpa using this)
  simp only [List.getD_cons_zero] at h0
  omega
theorem iS {α:Type} (f:α→Nat) (zero:α) (l:List α) (g:Nat→Txt) (h:∀ i,i < l.length→(g i).1.length+2≤64 * f (l.getD i zero)):(eX g l.length).1.length≤64 * dS f l :=
 wC f zero l _ (fun i hi=>by
  have h1:=h i hi
  have h2:(cm i).length≤2:=by unfold cm; split<;>simp
  simp only [cat,raw,List.length_append]; omega)
theorem wD (s:List UInt8):(asT s).length≤4+s.length:=by
 unfold asT
 split
 · simp
 · simp only [List.length_append,List.length_cons,List.length_nil]; omega
theorem mz {e:Ex} (hm:e.may=true) (ho:e.ok):(e.txt 1).1.length≤32 * e.size:=txt_len _ e (Nat.lt_succ_self _) hm ho 1
theorem lY {e:Ex} (hm:e.o≠0→e.may=true) (ho:e.ok):(cT e).1.length≤7+32 * e.size:=by
 unfold cT
 by_cases h:e.o=0
 · rw [if_pos h]; simp
 · rw [if_neg h]
   have:=mz (hm h) ho
   simp only [cat,raw,List.length_append,List.length_cons,List.length_nil]; omega
theorem lim_len {q:QryX} (h:inR q.lim=true):(limT q).length≤27:=by
 have hi:=wB ⟨1,q.lim,[]⟩ ⟨by show (_:Int)≤1∧(1:Int)≤_; decide,gL.1 h⟩
 have e:(prV ⟨1,q.lim,[]⟩).1=Lib.itoa q.lim:=by rw [pr_num]
 rw [e] at hi
 unfold limT
 split
 · simp only [List.length_append,List.length_cons,List.length_nil] at hi ⊢; omega
 · simp
theorem qryT_len {q:QryX} (hm:jI q=true) (ho:QOk q):(jK q).1.length≤64 * fQ q+80:=by
 have h1:=iS fI ItemX.zero q.items (fun i=>eD (q.items.getD i ItemX.zero)) (fun i hi=>by
  have a:=mz (item_may hm hi) (ho.items i hi)
  have b:=wD (q.items.getD i ItemX.zero).s
  simp only [eD,fI,cat,raw,List.length_append]; omega)
 have h2:=wC fF SrcX.zero q.from_ (fun i=>dL i (q.from_.getD i SrcX.zero)) (fun i hi=>by
  have b:=wD (q.from_.getD i SrcX.zero).s
  by_cases h0:(i:Int)=0
  · simp only [src_zero h0,fF,cat,raw,List.length_append,List.length_cons,List.length_nil]; omega
  · have a:=mz (src_may hm hi h0) (ho.from_ i hi)
    simp only [src_succ h0,fF,cat,raw,List.length_append,List.length_cons,List.length_nil]; omega)
 have h3:=iS fO OrdX.zero q.ord (fun i=>jJ (q.ord.getD i OrdX.zero)) (fun i hi=>by
  have b:(nB (q.ord.getD i OrdX.zero).b).length≤5:=by unfold nB; split<;>simp
  simp only [jJ,fO,raw,List.length_append]; omega)
 have h4:=lY (qwh_may hm) ho.wh
 have h5:=lim_len ho.lim
 have h6:(lK q.ord.length).length≤10:=by unfold lK; split<;>simp
 have h7:(iZ q).length≤17:=by unfold iZ; (repeat' split)<;>simp
 unfold jK fQ
 simp only [cat,raw,List.length_append] at h1 h2 h3 ⊢
 omega
theorem tt {s:StmtX} (hm:fK s=true) (ho:SOk s):(stmT s).1.length≤64 * fS s+200:=by
 have hk:=k_rng hm
 have hp:=may_part hm
 have hfs:fS s=s.t.length+s.n.length+dS fC s.cols+dS fN s.on+dS fR s.rows+dS fT s.sets+s.wh.size+fQ s.q:=rfl
 obtain h | h | h | h | h | h | h | h | h | h | h:s.k=1∨s.k=2∨s.k=3∨s.k=4∨s.k=5∨s.k=6∨s.k=7∨s.k=8∨s.k=9∨s.k=10∨s.k=11:=by omega
 · have h1:=iS fC ColX.zero s.cols (fun i=>kR (s.cols.getD i ColX.zero)) (fun i hi=>by
   have a:(nA (s.cols.getD i ColX.zero).k).length≤5:=by unfold nA; (repeat' split)<;>simp
   have b:(gi (s.cols.getD i ColX.zero).b).length≤9:=by unfold gi; split<;>simp
   simp only [kR,fC,raw,List.length_append]; omega)
   rw [st_1 h]
   simp only [kb,iA,List.length_append,List.length_cons,List.length_nil]; omega
 · rw [st_2 h]
   simp only [iA,List.length_append,List.length_cons,List.length_nil]; omega
 · have h1:=iS fN [] s.on (fun i=>raw (s.on.getD i [])) (fun i hi=>by simp only [fN,raw]; omega)
   have h2:(if s.un=true then [117,110,105,113,117,101,32] else []:List UInt8).length≤7:=by split<;>simp
   rw [st_3 h]
   simp only [kb,iA,List.length_append,List.length_cons,List.length_nil]; omega
 · rw [st_4 h]
   simp only [iA,List.length_append,List.length_cons,List.length_nil]; omega
 · have h1:=iS fR [] s.rows (fun i=>iz (s.rows.getD i [])) (fun i hi=>by
   have a:=iS Ex.size Ex.zero (s.rows.getD i []) (fun k=>((s.rows.getD i []).getD k Ex.zero).txt 1) (fun k hk=>by
    have:=mz (row_may hp h hi hk) (ho.rows i hi k hk)
    have:=ex_pos ((s.rows.getD i []).getD k Ex.zero)
    omega)
   simp only [rowT_eq,fR,kb,iA,List.length_cons,List.length_nil]; omega)
   rw [st_5 h]
   simp only [kb,iA,List.length_append,List.length_cons,List.length_nil]; omega
 · have h1:=lY (wh6_may hp h) ho.wh
   rw [st_6 h]
   simp only [kb,iA,List.length_append,List.length_cons,List.length_nil]; omega
 · have h1:=iS fT SetX.zero s.sets (fun i=>js (s.sets.getD i SetX.zero)) (fun i hi=>by
   have a:=mz (set_may hp h hi) (ho.sets i hi)
   simp only [setT_eq,fT,kb,iA,List.length_append,List.length_cons,List.length_nil]; omega)
   have h2:=lY (wh7_may hp h) ho.wh
   rw [st_7 h]
   simp only [kb,iA,List.length_append,List.length_cons,List.length_nil]; omega
 · have h1:=qryT_len (qry_may hp h) ho.q
   rw [st_8 h]; omega
 · rw [st_9 h]; simp [raw]
 · rw [st_10 h]; simp [raw]
 · rw [st_11 h]; simp [raw]
end Go.WK
namespace Go.WK
open Go.RowKit Lib
section
variable {α:Type} (G:α→Txt) (K:α→List KT)
def nD:List α→Txt
 | []=>([],0)
 | a::l=>cat (raw [44,32]) (cat (G a) (nD l))
def gY:List α→Txt
 | []=>([],0)
 | a::l=>cat (G a) (nD G l)
def kW:List α→List KT
 | []=>[]
 | a::l=>(4,[44])::(K a++kW l)
def ew:List α→List KT
 | []=>[]
 | a::l=>K a++kW K l
def seqT:List α→Txt
 | []=>([],0)
 | a::l=>cat (G a) (seqT l)
def seqK:List α→List KT
 | []=>[]
 | a::l=>K a++seqK l
end
theorem pj (g:Nat→Txt) (n:Nat):upT g (n+1)=cat (g 0) (upT (fun i=>g (i+1)) n):=by
 induction n with
 | zero=>simp only [upT]; rw [wg,cat_nil]
 | succ n ih=>rw [upT,ih,qq]; rfl
theorem rG {α:Type} (G:α→Txt) (z:α):∀ (l:List α) (g:Nat→Txt),(∀ i,i < l.length→g i=G (l.getD i z))→upT g l.length=seqT G l
 | [],_,_=>rfl
 | a::l,g,h=>by
  rw [List.length_cons,pj,rG G z l _ (fun i hi=>by rw [h (i+1) (by simpa using hi)]; rfl),h 0 (by simp)]; rfl
theorem tu {α:Type} (G:α→Txt):∀ l:List α,seqT (fun a=>cat (raw [44,32]) (G a)) l=nD G l
 | []=>rfl
 | a::l=>by rw [seqT,nD,tu G l,qq]
theorem cy {α:Type} (G:α→Txt) (z:α) (l:List α):eX (fun i=>G (l.getD i z)) l.length=gY G l:=by
 cases l with
 | nil=>rfl
 | cons a l =>
  unfold eX
  have e:=rG (fun a=>cat (raw [44,32]) (G a)) z l (fun i=>cat (raw (cm (i+1))) (G ((a::l).getD (i+1) z))) (fun i hi=>rfl)
  rw [List.length_cons,pj]
  show cat (cat (raw []) (G a)) (upT (fun i=>cat (raw (cm (i+1))) (G ((a::l).getD (i+1) z))) l.length)=_
  rw [e,tu]
  rw [show raw []=([],0) from rfl,wg]; rfl
theorem pk (l:List SrcX):upT (fun i=>dL i (l.getD i SrcX.zero)) l.length=(match l with | []=>([],0) | a::l=>cat (dL 0 a) (seqT (dL 1) l)):=by
 cases l with
 | nil=>rfl
 | cons a l =>
  have e:=rG (dL 1) SrcX.zero l (fun i=>dL (i+1) ((a::l).getD (i+1) SrcX.zero)) (fun i hi=>rfl)
  rw [List.length_cons,pj]
  show cat (dL 0 a) (upT (fun i=>dL (i+1) ((a::l).getD (i+1) SrcX.zero)) l.length)=_
  rw [e]
theorem tv {g:Nat→Bool} {n:Nat}:ck g n=true↔∀ i,i < n→g i=true:=by
 induction n with
 | zero=>exact ⟨fun _ i hi=>by omega,fun _=>rfl⟩
 | succ n ih =>
  rw [ck,Bool.and_eq_true,ih]
  exact ⟨fun h i hi=>(Nat.lt_succ_iff_lt_or_eq.1 hi).elim (h.1 i) (fun e=>e ▸ h.2),fun h=>⟨fun i hi=>h i (by omega),h n (by omega)⟩⟩
theorem dT {α:Type} {p:α→Bool} {z:α} {l:List α}:ck (fun i=>p (l.getD i z)) l.length=true↔∀ a ∈ l,p a=true:=by
 rw [tv]
 constructor
 · intro h a ha
   obtain ⟨i,hi,rfl⟩:=List.getElem_of_mem ha
   have:=h i hi
   simpa [List.getD,hi] using this
 · intro h i hi
   have:l.getD i z=l[i]:=by simp [List.getD,hi]
   simp only [this]
   exact h _ (List.getElem_mem hi)
def LX (t:List UInt8) (k:List KT):Prop:=∀ r ks,Stop r→dW r ks→dW (t++r) (k++ks)
def SB (t:List UInt8):Prop:=∀ r,Stop r→Stop (t++r)
theorem SB.nil:SB []:=fun _ h=>h
theorem SB.cons {c:UInt8} {t:List UInt8} (h:c ∈ [(32:UInt8),40,41,44,46]):SB (c::t):=fun _ _=>gj h
theorem SB.app {a b:List UInt8} (h1:SB a) (h2:SB b):SB (a++b):=fun r hr=>by rw [List.append_assoc]; exact h1 _ (h2 _ hr)
theorem LX.nil:LX [] []:=fun _ _ _ h=>h
theorem LX.app {a b:List UInt8} {j k:List KT} (h1:LX a j) (h2:LX b k) (hs:SB b):LX (a++b) (j++k):=fun r ks hr h=>by
 rw [List.append_assoc,List.append_assoc]; exact h1 _ _ (hs _ hr) (h2 _ _ hr h)
theorem LX.bl {t:List UInt8} {k:List KT} (h:LX t k):LX (32::t) k:=fun r ks hr hl=>dn (h r ks hr hl)
theorem LX.wd {s t:List UInt8} {k:List KT} (hs:il s=true) (h:LX t k) (hb:SB t):LX (s++t) ((1,s)::k):=fun r ks hr hl=>by
 rw [List.append_assoc]; exact ct hs (hb _ hr) (h r ks hr hl)
theorem LX.word {s:List UInt8} (hs:il s=true):LX s [(1,s)]:=fun _ _ hr hl=>ct hs hr hl
theorem LX.sign {c:UInt8} {t:List UInt8} {k:List KT} (hc:c ∈ [(40:UInt8),41,44,46,59,61,43,42,47,37]) (h:LX t k):LX (c::t) ((4,[c])::k):=fun r ks hr hl=>cK (.inl hc) (h r ks hr hl)
theorem LX.ex {e:Ex} (hm:e.may=true) (ho:e.ok) (low:Int):LX (e.txt low).1 (e.tk low):=fun r ks hr hl=>(ex_lexes (e.size+1) e (by omega) hm ho low r ks hr hl).1
theorem LX.tail {α:Type} {G:α→Txt} {K:α→List KT}:∀ {l:List α},(∀ a ∈ l,LX (G a).1 (K a))→LX (nD G l).1 (kW K l)∧SB (nD G l).1
 | [],_=>⟨LX.nil,SB.nil⟩
 | a::l,h=>by
  obtain ⟨h1,h2⟩:=LX.tail (G:=G) (K:=K) (l:=l) (fun b hb=>h b (List.mem_cons_of_mem _ hb))
  exact ⟨LX.sign (by decide) (LX.bl ((h a List.mem_cons_self).app h1 h2)),SB.cons (by decide)⟩
theorem LX.list {α:Type} {G:α→Txt} {K:α→List KT} {l:List α} (h:∀ a ∈ l,LX (G a).1 (K a)):LX (gY G l).1 (ew K l):=by
 cases l with
 | nil=>exact LX.nil
 | cons a l =>
  obtain ⟨h1,h2⟩:=LX.tail (G:=G) (K:=K) (l:=l) (fun b hb=>h b (List.mem_cons_of_mem _ hb))
  exact (h a List.mem_cons_self).app h1 h2
theorem LX.seq {α:Type} {G:α→Txt} {K:α→List KT}:∀ {l:List α},(∀ a ∈ l,LX (G a).1 (K a)∧SB (G a).1)→LX (seqT G l).1 (seqK K l)∧SB (seqT G l).1
 | [],_=>⟨LX.nil,SB.nil⟩
 | a::l,h=>by
  obtain ⟨h1,h2⟩:=LX.seq (G:=G) (K:=K) (l:=l) (fun b hb=>h b (List.mem_cons_of_mem _ hb))
  obtain ⟨h3,h4⟩:=h a List.mem_cons_self
  exact ⟨h3.app h1 h2,h4.app h2⟩
def asK (s:List UInt8):List KT:=if s=[] then [] else [(1,asB),(1,s)]
def mA (a:ItemX):List KT:=a.e.tk 1++asK a.s
def m9 (i:Nat) (a:SrcX):List KT:=(1,if i=0 then eV else kL)::(1,a.t)::(asK a.s++(if i=0 then [] else (1,onB)::a.e.tk 1))
def kindB (k:Int):List UInt8:=if k=1 then intB else if k=2 then ql else sO
def nnK (b:Bool):List KT:=if b=true then [(1,eN),(1,dc)] else []
def colK (a:ColX):List KT:=(1,a.n)::(1,kindB a.k)::nnK a.b
def eT (e:Ex):List KT:=if e.o=0 then [] else (1,j6)::e.tk 1
def setK (a:SetX):List KT:=(1,a.n)::(4,[61])::a.e.tk 1
def lM (l:List Ex):List KT:=(4,[40])::(ew (fun e=>e.tk 1) l++[(4,[41])])
def ordK (a:OrdX):List KT:=(1,a.n)::(if a.b=true then [(1,jG)] else [])
def rH (s:List UInt8):List KT:=[(1,s)]
def na (q:QryX):List KT:=if q.li=true then [(1,jq),(2,itoa q.lim)] else []
def mB (l:List SrcX):List KT:=match l with
 | []=>[]
 | a::l=>m9 0 a++seqK (m9 1) l
def kc (q:QryX):List KT:=(if q.st=true then [(4,[42])] else [])++ew mA q.items
def fv (l:List OrdX):List KT:=if l=[] then [] else (1,jp)::(1,byB)::ew ordK l
def qryK (q:QryX):List KT:=(1,ft)::((if q.di=true then [(1,br)] else [])++(kc q++(mB q.from_++(eT q.wh++(fv q.ord++na q)))))
def stmK (s:StmtX):List KT :=
 if s.k=1 then (1,eO)::(1,eA)::(1,s.t)::(4,[40])::(ew colK s.cols++[(4,[41])])
 else if s.k=2 then [(1,kr),(1,eA),(1,s.t)]
 else if s.k=3 then (1,eO)::((if s.un=true then [(1,cq)] else [])++(1,eg)::(1,s.n)::(1,onB)::(1,s.t)::(4,[40])::(ew rH s.on++[(4,[41])]))
 else if s.k=4 then [(1,kr),(1,eg),(1,s.n)]
 else if s.k=5 then (1,iv)::(1,kM)::(1,s.t)::(1,iw)::ew lM s.rows
 else if s.k=6 then (1,ix)::(1,eV)::(1,s.t)::eT s.wh
 else if s.k=7 then (1,jd)::(1,s.t)::(1,oL)::(ew setK s.sets++eT s.wh)
 else if s.k=8 then qryK s.q
 else if s.k=9 then [(1,ie)]
 else if s.k=10 then [(1,ga)]
 else [(1,ef)]
theorem nR {s:List UInt8} (h:nameOk s=true):il s=true:=jN h
theorem as_LX {s:List UInt8} (h:s=[]∨nameOk s=true):LX (asT s) (asK s)∧SB (asT s):=by
 unfold asT asK
 by_cases h0:s=[]
 · rw [if_pos h0,if_pos h0]; exact ⟨LX.nil,SB.nil⟩
 · rw [if_neg h0,if_neg h0]
   exact ⟨LX.bl (LX.wd (s:=asB) (t:=32::s) (by decide) (LX.bl (LX.word (nR (h.resolve_left h0)))) (SB.cons (by decide))),SB.cons (by decide)⟩
theorem kX {a:ItemX}:mayI a=true↔a.e.may=true∧(a.s=[]∨nameOk a.s=true):=by
 unfold mayI; simp only [Bool.and_eq_true,Bool.or_eq_true,decide_eq_true_eq]
theorem item_LX {a:ItemX} (h:mayI a=true) (ho:a.e.ok):LX (eD a).1 (mA a):=by
 obtain ⟨h1,h2⟩:=kX.1 h
 obtain ⟨k1,k2⟩:=as_LX h2
 exact (LX.ex h1 ho 1).app k1 k2
theorem uU {a:SrcX}:mayF 0 a=true↔nameOk a.t=true∧(a.s=[]∨nameOk a.s=true)∧fg a.e=true:=by
 unfold mayF; simp only [Bool.and_eq_true,Bool.or_eq_true,decide_eq_true_eq,if_true]
theorem pm {a:SrcX} {i:Nat}:mayF (i+1) a=true↔nameOk a.t=true∧(a.s=[]∨nameOk a.s=true)∧a.e.may=true:=by
 unfold mayF; simp only [Bool.and_eq_true,Bool.or_eq_true,decide_eq_true_eq,if_neg (Nat.succ_ne_zero i)]
theorem src0_LX {a:SrcX} (h:mayF 0 a=true):LX (dL 0 a).1 (m9 0 a)∧SB (dL 0 a).1:=by
 obtain ⟨h1,h2,_⟩:=uU.1 h
 obtain ⟨k1,k2⟩:=as_LX h2
 have e:(dL 0 a).1=32::(eV++(32::(a.t++asT a.s))):=by
  unfold dL; simp only [cat,raw,if_true,List.append_nil]; rfl
 rw [e]
 refine ⟨?_,SB.cons (by decide)⟩
 unfold m9
 rw [if_pos rfl,if_pos rfl,List.append_nil]
 exact LX.bl (LX.wd (by decide) (LX.bl (LX.wd (nR h1) k1 k2)) (SB.cons (by decide)))
theorem src1_LX {a:SrcX} (h:mayF 1 a=true) (ho:a.e.ok):LX (dL 1 a).1 (m9 1 a)∧SB (dL 1 a).1:=by
 obtain ⟨h1,h2,h3⟩:=pm.1 h
 obtain ⟨k1,k2⟩:=as_LX h2
 have e:(dL 1 a).1=32::(kL++(32::(a.t++(asT a.s++(32::(onB++(32::(a.e.txt 1).1))))))):=by
  unfold dL; simp only [cat,raw,if_neg Nat.one_ne_zero,List.append_assoc]; rfl
 rw [e]
 refine ⟨?_,SB.cons (by decide)⟩
 unfold m9
 rw [if_neg Nat.one_ne_zero,if_neg Nat.one_ne_zero]
 exact LX.bl (LX.wd (by decide) (LX.bl (LX.wd (nR h1) (k1.app (LX.bl (LX.wd (s:=onB) (by decide) (LX.bl (LX.ex h3 ho 1)) (SB.cons (by decide)))) (SB.cons (by decide))) (k2.app (SB.cons (by decide))))) (SB.cons (by decide)))
theorem fA {a:ColX}:mayCol a=true↔nameOk a.n=true∧1≤a.k∧a.k≤3:=by
 unfold mayCol; simp only [Bool.and_eq_true,decide_eq_true_eq]
theorem nn_LX (b:Bool):LX (gi b) (nnK b)∧SB (gi b):=by
 cases b with
 | false=>exact ⟨LX.nil,SB.nil⟩
 | true=>exact ⟨LX.bl (LX.wd (s:=eN) (t:=32::dc) (by decide) (LX.bl (LX.word (by decide))) (SB.cons (by decide))),SB.cons (by decide)⟩
theorem kindT_is {k:Int} (h:1≤k∧k≤3):nA k=32::kindB k∧il (kindB k)=true:=by
 have:k=1∨k=2∨k=3:=by omega
 rcases this with rfl | rfl | rfl<;>exact ⟨rfl,by decide⟩
theorem col_LX {a:ColX} (h:mayCol a=true):LX (kR a).1 (colK a):=by
 obtain ⟨h1,h2⟩:=fA.1 h
 obtain ⟨k1,k2⟩:=nn_LX a.b
 obtain ⟨e,hk⟩:=kindT_is h2
 show LX (a.n++(nA a.k++gi a.b)) _
 rw [e]
 exact LX.wd (nR h1) (LX.bl (LX.wd hk k1 k2)) (SB.cons (by decide))
theorem lack_o {e:Ex} (h:fg e=true):e=Ex.zero:=by
 unfold fg bareX at h; exact of_decide_eq_true h
theorem may_o {e:Ex} (h:e.may=true):e.o≠0:=by
 cases view h with
 | cst v _ _=>exact fun e=>absurd (show (1:Int)=0 from e) (by decide)
 | nam t n _ _=>exact fun e=>absurd (show (2:Int)=0 from e) (by decide)
 | un o a ho _=>exact fun e=>by have e:o=0:=e; omega
 | bin o a b ho _ _=>exact fun e=>by have e:o=0:=e; omega
theorem wE {e:Ex} (h:mayb e=true):e=Ex.zero∨e.may=true:=by
 unfold mayb at h; rw [Bool.or_eq_true] at h; exact h.imp lack_o id
theorem pn {e:Ex} (h:mayb e=true) (ho:e.ok):LX (cT e).1 (eT e)∧SB (cT e).1:=by
 rcases wE h with rfl | hm
 · exact ⟨LX.nil,SB.nil⟩
 · unfold cT eT
   rw [if_neg (may_o hm),if_neg (may_o hm)]
   exact ⟨LX.bl (LX.wd (s:=j6) (t:=32::(e.txt 1).1) (by decide) (LX.bl (LX.ex hm ho 1)) (SB.cons (by decide))),SB.cons (by decide)⟩
theorem kd {a:SetX}:maySet a=true↔nameOk a.n=true∧a.e.may=true:=by
 unfold maySet; simp only [Bool.and_eq_true]
theorem set_LX {a:SetX} (h:maySet a=true) (ho:a.e.ok):LX (js a).1 (setK a):=by
 obtain ⟨h1,h2⟩:=kd.1 h
 have e:(js a).1=a.n++(32::61::32::(a.e.txt 1).1):=by unfold js; simp only [cat,raw,List.append_assoc]; rfl
 rw [e]
 exact LX.wd (nR h1) (LX.bl (LX.sign (by decide) (LX.bl (LX.ex h2 ho 1)))) (SB.cons (by decide))
theorem lZ {l:List Ex}:mayRow l=true↔(1≤l.length∧l.length≤16)∧∀ e ∈ l,e.may=true:=by
 unfold mayRow gh; rw [Bool.and_eq_true,dT,Bool.and_eq_true,decide_eq_true_eq,decide_eq_true_eq]
theorem row_LX {l:List Ex} (h:mayRow l=true) (ho:∀ e ∈ l,e.ok):LX (iz l).1 (lM l):=by
 obtain ⟨_,h2⟩:=lZ.1 h
 have e:(iz l).1=40::((gY (fun e:Ex=>e.txt 1) l).1++[41]):=by
  unfold iz; rw [cy (fun e:Ex=>e.txt 1) Ex.zero l]; rfl
 rw [e]
 exact LX.sign (by decide) ((LX.list (K:=fun e=>e.tk 1) (fun a ha=>LX.ex (h2 a ha) (ho a ha) 1)).app (LX.sign (by decide) LX.nil) (SB.cons (by decide)))
theorem ord_LX {a:OrdX} (h:nameOk a.n=true):LX (jJ a).1 (ordK a):=by
 show LX (a.n++nB a.b) _
 unfold ordK nB
 cases a.b with
 | false=>exact LX.wd (nR h) LX.nil SB.nil
 | true=>exact LX.wd (nR h) (LX.bl (LX.word (s:=jG) (by decide))) (SB.cons (by decide))
theorem num_LX {n:Int} (h0:0≤n) (hn:inR n=true):LX (itoa n) [(2,itoa n)]:=fun _ _ hr hl=>qs h0 hn hr hl
theorem lim_LX {q:QryX} (h0:0≤q.lim) (hn:inR q.lim=true):LX (limT q) (na q)∧SB (limT q):=by
 unfold limT na
 cases q.li with
 | false=>exact ⟨LX.nil,SB.nil⟩
 | true=>exact ⟨LX.bl (LX.wd (s:=jq) (t:=32::itoa q.lim) (by decide) (LX.bl (num_LX h0 hn)) (SB.cons (by decide))),SB.cons (by decide)⟩
end Go.WK
namespace Go.WK
open Go.RowKit Lib
theorem fw {α:Type} {z:α} {l:List α} {p:α→Prop} (h:∀ i,i < l.length→p (l.getD i z)):∀ a ∈ l,p a:=fun a ha=>by
 obtain ⟨i,hi,rfl⟩:=List.getElem_of_mem ha
 have:=h i hi
 rwa [show l.getD i z=l[i] by simp [List.getD,hi]] at this
structure QM (q:QryX):Prop where
 wh:mayb q.wh=true
 fl:q.from_.length≤4
 ol:q.ord.length≤16
 l0:0≤q.lim
 ll:q.li=true∨q.lim=0
 it:(q.st=true∧q.items=[])∨(q.st=false∧1≤q.items.length∧q.items.length≤16)
 items:∀ a ∈ q.items,mayI a=true
 from_:∀ i,i < q.from_.length→mayF i (q.from_.getD i SrcX.zero)=true
 ord:∀ a ∈ q.ord,nameOk a.n=true
theorem gZ {n m:Nat}:gh n m=true↔1≤n∧n≤m:=by unfold gh; rw [Bool.and_eq_true,decide_eq_true_eq,decide_eq_true_eq]
theorem tw {q:QryX}:jI q=true↔QM q:=by
 unfold jI
 rw [Bool.and_eq_true,Bool.and_eq_true,Bool.and_eq_true,Bool.and_eq_true,Bool.and_eq_true,Bool.and_eq_true,Bool.and_eq_true,Bool.and_eq_true,dT (p:=mayI),tv,dT (p:=fun a:OrdX=>nameOk a.n),Bool.or_eq_true,decide_eq_true_eq,decide_eq_true_eq,decide_eq_true_eq,decide_eq_true_eq]
 constructor
 · rintro ⟨⟨h1,h2,h3,h4,h5⟩,h6,h7,h8,h9⟩
   refine ⟨h1,h2,h3,h4,h5, ?_,h7,h8,h9⟩
   by_cases hs:q.st=true
   · rw [if_pos hs] at h6; exact .inl ⟨hs,List.length_eq_zero_iff.1 (of_decide_eq_true h6)⟩
   · rw [if_neg hs,gZ] at h6; exact .inr ⟨Bool.eq_false_iff.2 hs,h6⟩
 · intro h
   refine ⟨⟨h.wh,h.fl,h.ol,h.l0,h.ll⟩, ?_,h.items,h.from_,h.ord⟩
   rcases h.it with ⟨h1,h2⟩ | ⟨h1,h2⟩
   · rw [if_pos h1,h2]; rfl
   · rw [if_neg (by rw [h1]; decide),gZ]; exact h2
theorem from_LX {l:List SrcX} (h:∀ i,i < l.length→mayF i (l.getD i SrcX.zero)=true) (ho:∀ a ∈ l,a.e.ok):LX (upT (fun i=>dL i (l.getD i SrcX.zero)) l.length).1 (mB l)∧SB (upT (fun i=>dL i (l.getD i SrcX.zero)) l.length).1:=by
 rw [pk]
 cases l with
 | nil=>exact ⟨LX.nil,SB.nil⟩
 | cons a l =>
  obtain ⟨h1,h2⟩:=src0_LX (h 0 (by simp))
  have hm:∀ b ∈ l,mayF 1 b=true:=fw (z:=SrcX.zero) fun i hi=>by
   have:=h (i+1) (by simpa using hi)
   rw [pm] at this ⊢
   exact this
  obtain ⟨h3,h4⟩:=LX.seq (G:=dL 1) (K:=m9 1) (l:=l) (fun b hb=>src1_LX (hm b hb) (ho b (List.mem_cons_of_mem _ hb)))
  exact ⟨h1.app h3 h4,h2.app h4⟩
theorem x7 {l:List OrdX} (h:∀ a ∈ l,nameOk a.n=true):LX ((lK l.length)++(gY jJ l).1) (fv l)∧SB ((lK l.length)++(gY jJ l).1):=by
 cases l with
 | nil=>exact ⟨LX.nil,SB.nil⟩
 | cons a l =>
  have h1:=LX.list (G:=jJ) (K:=ordK) (l:=a::l) (fun b hb=>ord_LX (h b hb))
  exact ⟨LX.bl (LX.wd (s:=jp) (t:=32::(byB++(32::(gY jJ (a::l)).1))) (by decide) (LX.bl (LX.wd (by decide) (LX.bl h1) (SB.cons (by decide)))) (SB.cons (by decide))),SB.cons (by decide)⟩
theorem qry_LX {q:QryX} (h:QM q) (ho:QOk q):LX (jK q).1 (qryK q):=by
 have ho1:∀ a ∈ q.items,a.e.ok:=fw (p:=fun a:ItemX=>a.e.ok) ho.items
 have ho2:∀ a ∈ q.from_,a.e.ok:=fw (p:=fun a:SrcX=>a.e.ok) ho.from_
 obtain ⟨f1,f2⟩:=from_LX h.from_ ho2
 obtain ⟨w1,w2⟩:=pn h.wh ho.wh
 obtain ⟨o1,o2⟩:=x7 h.ord
 obtain ⟨l1,l2⟩:=lim_LX h.l0 ho.lim
 have i1:=LX.list (G:=eD) (K:=mA) (l:=q.items) (fun a ha=>item_LX (h.items a ha) (ho1 a ha))
 have e:(jK q).1=ft++(32::((if q.di=true then br++[32] else [])++(((if q.st=true then [42] else [])++(gY eD q.items).1)++((upT (fun i=>dL i (q.from_.getD i SrcX.zero)) q.from_.length).1++((cT q.wh).1++(((lK q.ord.length)++(gY jJ q.ord).1)++limT q)))))):=by
  unfold jK
  rw [cy eD ItemX.zero,cy jJ OrdX.zero]
  simp only [cat,raw,iZ,List.append_assoc]
  rfl
 rw [e]
 unfold qryK
 have t1:=o1.app l1 l2
 have t2:=w1.app t1 (o2.app l2)
 have t3:=f1.app t2 (w2.app (o2.app l2))
 have s3:=f2.app (w2.app (o2.app l2))
 have it:LX ((if q.st=true then [42] else [])++(gY eD q.items).1) (kc q):=by
  unfold kc
  rcases h.it with ⟨a1,a2⟩ | ⟨a1,_⟩
  · rw [if_pos a1,if_pos a1,a2]; exact LX.sign (c:=42) (by decide) LX.nil
  · rw [a1]; exact i1
 have t4:=it.app t3 s3
 refine LX.wd (by decide) (LX.bl ?_) (SB.cons (by decide))
 cases q.di with
 | false=>exact t4
 | true =>
  rw [if_pos rfl,if_pos rfl,List.append_assoc]
  exact LX.wd (s:=br) (by decide) (LX.bl t4) (SB.cons (by decide))
theorem keep_k {s:StmtX} (h:fK s=true):dh s=true∧s=eu s:=by
 unfold fK at h; rw [Bool.and_eq_true,decide_eq_true_eq] at h; exact h
inductive SView:StmtX→Prop
 | create (t:List UInt8) (l:List ColX) (ht:nameOk t=true) (hl:1≤l.length∧l.length≤16) (hm:∀ a ∈ l,mayCol a=true):SView { StmtX.zero with k:=1,t:=t,cols:=l }
 | drop (t:List UInt8) (ht:nameOk t=true):SView { StmtX.zero with k:=2,t:=t }
 | index (t n:List UInt8) (u:Bool) (l:List (List UInt8)) (ht:nameOk t=true) (hn:nameOk n=true) (hl:1≤l.length∧l.length≤16) (hm:∀ a ∈ l,nameOk a=true):SView { StmtX.zero with k:=3,t:=t,n:=n,on:=l,un:=u }
 | unindex (n:List UInt8) (hn:nameOk n=true):SView { StmtX.zero with k:=4,n:=n }
 | insert (t:List UInt8) (l:List (List Ex)) (ht:nameOk t=true) (hl:1≤l.length) (hm:∀ a ∈ l,mayRow a=true):SView { StmtX.zero with k:=5,t:=t,rows:=l }
 | delete (t:List UInt8) (e:Ex) (ht:nameOk t=true) (he:mayb e=true):SView { StmtX.zero with k:=6,t:=t,wh:=e }
 | update (t:List UInt8) (l:List SetX) (e:Ex) (ht:nameOk t=true) (hl:1≤l.length∧l.length≤16) (hm:∀ a ∈ l,maySet a=true) (he:mayb e=true):SView { StmtX.zero with k:=7,t:=t,sets:=l,wh:=e }
 | select (q:QryX) (h:QM q):SView { StmtX.zero with k:=8,q:=q }
 | plain (k:Int) (h:k=9∨k=10∨k=11):SView { StmtX.zero with k:=k }
theorem sview {s:StmtX} (h:fK s=true):SView s:=by
 obtain ⟨h1,h2⟩:=keep_k h
 unfold dh at h1
 unfold eu at h2
 by_cases k1:s.k=1
 · rw [if_pos k1] at h1 h2
   rw [Bool.and_eq_true,Bool.and_eq_true,gZ,dT (p:=mayCol)] at h1
   rw [h2]; exact .create _ _ h1.1 h1.2.1 h1.2.2
 rw [if_neg k1] at h1 h2
 by_cases k2:s.k=2
 · rw [if_pos k2] at h1 h2
   rw [h2]; exact .drop _ h1
 rw [if_neg k2] at h1 h2
 by_cases k3:s.k=3
 · rw [if_pos k3] at h1 h2
   rw [Bool.and_eq_true,Bool.and_eq_true,Bool.and_eq_true,gZ,dT (p:=nameOk)] at h1
   rw [h2]; exact .index _ _ _ _ h1.1 h1.2.1 h1.2.2.1 h1.2.2.2
 rw [if_neg k3] at h1 h2
 by_cases k4:s.k=4
 · rw [if_pos k4] at h1 h2
   rw [h2]; exact .unindex _ h1
 rw [if_neg k4] at h1 h2
 by_cases k5:s.k=5
 · rw [if_pos k5] at h1 h2
   rw [Bool.and_eq_true,Bool.and_eq_true,decide_eq_true_eq,dT (p:=mayRow)] at h1
   rw [h2]; exact .insert _ _ h1.1 h1.2.1 h1.2.2
 rw [if_neg k5] at h1 h2
 by_cases k6:s.k=6
 · rw [if_pos k6] at h1 h2
   rw [Bool.and_eq_true] at h1
   rw [h2]; exact .delete _ _ h1.1 h1.2
 rw [if_neg k6] at h1 h2
 by_cases k7:s.k=7
 · rw [if_pos k7] at h1 h2
   rw [Bool.and_eq_true,Bool.and_eq_true,Bool.and_eq_true,gZ,dT (p:=maySet)] at h1
   rw [h2]; exact .update _ _ _ h1.1 h1.2.1 h1.2.2.2 h1.2.2.1
 rw [if_neg k7] at h1 h2
 by_cases k8:s.k=8
 · rw [if_pos k8] at h1 h2
   rw [h2]; exact .select _ (tw.1 h1)
 rw [if_neg k8] at h1 h2
 rw [decide_eq_true_eq] at h1
 rw [h2]; exact .plain _ (by omega)
theorem SView.may {s:StmtX} (h:SView s):fK s=true:=by
 unfold fK dh eu
 cases h with
 | create t l ht hl hm=>refine Bool.and_eq_true_iff.2 ⟨?_,decide_eq_true rfl⟩; show (nameOk t && (gh l.length 16 && ck (fun i=>mayCol (l.getD i ColX.zero)) l.length))=true; rw [Bool.and_eq_true,Bool.and_eq_true,gZ,dT (p:=mayCol)]; exact ⟨ht,hl,hm⟩
 | drop t ht=>exact Bool.and_eq_true_iff.2 ⟨ht,decide_eq_true rfl⟩
 | index t n u l ht hn hl hm=>refine Bool.and_eq_true_iff.2 ⟨?_,decide_eq_true rfl⟩; show (nameOk t && (nameOk n && (gh l.length 16 && ck (fun i=>nameOk (l.getD i [])) l.length)))=true; rw [Bool.and_eq_true,Bool.and_eq_true,Bool.and_eq_true,gZ,dT (p:=nameOk)]; exact ⟨ht,hn,hl,hm⟩
 | unindex n hn=>exact Bool.and_eq_true_iff.2 ⟨hn,decide_eq_true rfl⟩
 | insert t l ht hl hm=>refine Bool.and_eq_true_iff.2 ⟨?_,decide_eq_true rfl⟩; show (nameOk t && (decide (0 < l.length) && ck (fun i=>mayRow (l.getD i [])) l.length))=true; rw [Bool.and_eq_true,Bool.and_eq_true,decide_eq_true_eq,dT (p:=mayRow)]; exact ⟨ht,hl,hm⟩
 | delete t e ht he=>exact Bool.and_eq_true_iff.2 ⟨Bool.and_eq_true_iff.2 ⟨ht,he⟩,decide_eq_true rfl⟩
 | update t l e ht hl hm he=>refine Bool.and_eq_true_iff.2 ⟨?_,decide_eq_true rfl⟩; show (nameOk t && (gh l.length 16 && (mayb e && ck (fun i=>maySet (l.getD i SetX.zero)) l.length)))=true; rw [Bool.and_eq_true,Bool.and_eq_true,Bool.and_eq_true,gZ,dT (p:=maySet)]; exact ⟨ht,hl,he,hm⟩
 | select q h=>exact Bool.and_eq_true_iff.2 ⟨tw.2 h,decide_eq_true rfl⟩
 | plain k h=>rcases h with rfl | rfl | rfl<;>rfl
theorem in_LX {α:Type} {G:α→Txt} {K:α→List KT} {l:List α} (h:∀ a ∈ l,LX (G a).1 (K a)):LX (32::40::((gY G l).1++[41])) ((4,[40])::(ew K l++[(4,[41])])) :=
 LX.bl (LX.sign (by decide) ((LX.list h).app (LX.sign (by decide) LX.nil) (SB.cons (by decide))))
theorem stm_LX {s:StmtX} (hv:SView s) (ho:SOk s):LX (stmT s).1 (stmK s):=by
 have sb:∀ t,SB (32::t):=fun _=>SB.cons (by decide)
 cases hv with
 | create t l ht hl hm =>
  have e:(stmT { StmtX.zero with k:=1,t:=t,cols:=l }).1=eO++(32::(eA++(32::(t++(32::40::((gY kR l).1++[41])))))):=by
   unfold stmT
   rw [if_pos rfl]
   rw [cy kR ColX.zero]
   simp only [cat,raw,List.append_assoc]; rfl
  rw [e]
  exact LX.wd (by decide) (LX.bl (LX.wd (by decide) (LX.bl (LX.wd (nR ht) (in_LX (fun a ha=>col_LX (hm a ha))) (sb _))) (sb _))) (sb _)
 | drop t ht=>exact LX.wd (s:=kr) (t:=32::(eA++(32::t))) (by decide) (LX.bl (LX.wd (by decide) (LX.bl (LX.word (nR ht))) (sb _))) (sb _)
 | index t n u l ht hn hl hm =>
  have e:(stmT { StmtX.zero with k:=3,t:=t,n:=n,on:=l,un:=u }).1=eO++(32::((if u=true then cq++[32] else [])++(eg++(32::(n++(32::(onB++(32::(t++(32::40::((gY raw l).1++[41])))))))))) ):=by
   unfold stmT
   rw [if_neg (show ¬ (3:Int)=1 by decide),if_neg (show ¬ (3:Int)=2 by decide),if_pos rfl]
   rw [cy raw []]
   simp only [cat,raw,List.append_assoc]; rfl
  rw [e]
  have i1:LX (32::40::((gY raw l).1++[41])) ((4,[40])::(ew rH l++[(4,[41])])):=in_LX (fun a ha=>LX.word (nR (hm a ha)))
  have i2:=LX.wd (s:=eg) (by decide) (LX.bl (LX.wd (nR hn) (LX.bl (LX.wd (s:=onB) (by decide) (LX.bl (LX.wd (nR ht) i1 (sb _))) (sb _))) (sb _))) (sb _)
  refine LX.wd (by decide) (LX.bl ?_) (sb _)
  show LX _ ((if u=true then [(1,cq)] else [])++_)
  cases u with
  | false=>exact i2
  | true=>rw [if_pos rfl,if_pos rfl,List.append_assoc]; exact LX.wd (s:=cq) (by decide) (LX.bl i2) (sb _)
 | unindex n hn=>exact LX.wd (s:=kr) (t:=32::(eg++(32::n))) (by decide) (LX.bl (LX.wd (by decide) (LX.bl (LX.word (nR hn))) (sb _))) (sb _)
 | insert t l ht hl hm =>
  have e:(stmT { StmtX.zero with k:=5,t:=t,rows:=l }).1=iv++(32::(kM++(32::(t++(32::(iw++(32::(gY iz l).1))))))):=by
   unfold stmT
   rw [if_neg (show ¬ (5:Int)=1 by decide),if_neg (show ¬ (5:Int)=2 by decide),if_neg (show ¬ (5:Int)=3 by decide),if_neg (show ¬ (5:Int)=4 by decide),if_pos rfl]
   rw [cy iz []]
   simp only [cat,raw,List.append_assoc]; rfl
  rw [e]
  have hr:∀ r ∈ l,∀ x ∈ r,x.ok:=fw (z:=[]) (p:=fun r:List Ex=>∀ x ∈ r,x.ok) (fun i hi=>fw (z:=Ex.zero) (ho.rows i hi))
  exact LX.wd (by decide) (LX.bl (LX.wd (by decide) (LX.bl (LX.wd (nR ht) (LX.bl (LX.wd (by decide) (LX.bl (LX.list (fun a ha=>row_LX (hm a ha) (hr a ha)))) (sb _))) (sb _))) (sb _))) (sb _)
 | delete t e ht he =>
  obtain ⟨w1,w2⟩:=pn he ho.wh
  have h:=LX.wd (s:=ix) (by decide) (LX.bl (LX.wd (s:=eV) (by decide) (LX.bl (LX.wd (nR ht) w1 w2)) (sb _))) (sb _)
  have e1:(stmT { StmtX.zero with k:=6,t:=t,wh:=e }).1=ix++(32::(eV++(32::(t++(cT e).1)))):=by
   unfold stmT
   rw [if_neg (show ¬ (6:Int)=1 by decide),if_neg (show ¬ (6:Int)=2 by decide),if_neg (show ¬ (6:Int)=3 by decide),if_neg (show ¬ (6:Int)=4 by decide),if_neg (show ¬ (6:Int)=5 by decide),if_pos rfl]
   simp only [cat,raw,List.append_assoc]; rfl
  rw [e1]; exact h
 | update t l e ht hl hm he =>
  obtain ⟨w1,w2⟩:=pn he ho.wh
  have hs:∀ a ∈ l,a.e.ok:=fw (p:=fun a:SetX=>a.e.ok) ho.sets
  have h:=LX.wd (s:=jd) (by decide) (LX.bl (LX.wd (nR ht) (LX.bl (LX.wd (s:=oL) (by decide) (LX.bl ((LX.list (G:=js) (K:=setK) (l:=l) (fun a ha=>set_LX (hm a ha) (hs a ha))).app w1 w2)) (sb _))) (sb _))) (sb _)
  have e1:(stmT { StmtX.zero with k:=7,t:=t,sets:=l,wh:=e }).1=jd++(32::(t++(32::(oL++(32::((gY js l).1++(cT e).1)))))):=by
   unfold stmT
   rw [if_neg (show ¬ (7:Int)=1 by decide),if_neg (show ¬ (7:Int)=2 by decide),if_neg (show ¬ (7:Int)=3 by decide),if_neg (show ¬ (7:Int)=4 by decide),if_neg (show ¬ (7:Int)=5 by decide),if_neg (show ¬ (7:Int)=6 by decide),if_pos rfl]
   rw [cy js SetX.zero]
   simp only [cat,raw,List.append_assoc]; rfl
  rw [e1]; exact h
 | select q h=>exact qry_LX h ho.q
 | plain k h =>
  rcases h with rfl | rfl | rfl
  · exact LX.word (s:=ie) (by decide)
  · exact LX.word (s:=ga) (by decide)
  · exact LX.word (s:=ef) (by decide)
end Go.WK
namespace Go.WK
open Go.RowKit Lib
def fi {α:Type} (P:List Tok→Except Flt (α × List Tok)) (k:List KT) (a:α) (m:Nat) (nx:KT→Bool):Prop:=∀ ts us,ts.map kt=k→Good us→nx (kt (hd us))=true→8 * (ts++us).length+8≤m→P (ts++us)=.ok (a,us)
theorem gG (ts us:List Tok):kt (hd (ts++us))=(ts.map kt).head?.getD (kt (hd us)):=by cases ts<;>rfl
theorem jP {us:List Tok} {k:Int} {s:List UInt8} (h:kt (hd us)≠(k,s)):atT k s us=false:=by rw [qy]; exact decide_eq_false h
def nxA (x:KT):Bool:=decide (x≠(1,asB))
def nxE (x:KT):Bool:=noC 1 x
def nxI (x:KT):Bool:=noC 1 x && decide (x≠(1,asB))
theorem kY {e:Ex} {f:Nat} (hm:e.may=true) (ho:e.ok) (hd_:(e.txt 1).2≤24):fi (exP f 1 0) (e.tk 1) e f nxE:=fun ts us ht hg hn hf=>by
 rcases BrP.ex hm ho 0 f ts us (by omega) hg ht (NoC.of (x:=kt (hd us)) rfl hn) hf with ⟨h,_⟩ | ⟨_,h⟩
 · exact h
 · omega
theorem tA {s:List UInt8} {m:Nat} (h:s=[]∨nameOk s=true):fi asP (asK s) s m nxA:=fun ts us ht hg hn hf=>by
 unfold asK at ht
 by_cases h0:s=[]
 · rw [if_pos h0] at ht
   obtain rfl:=cA ht
   unfold asP
   rw [List.nil_append,jP (of_decide_eq_true hn),h0]; rfl
 · rw [if_neg h0] at ht
   obtain ⟨t,y,rfl,h1,h2⟩:=aM ht
   obtain ⟨u,z,rfl,h3,h4⟩:=aM h2
   obtain rfl:=cA h4
   unfold asP
   simp only [List.cons_append,List.nil_append]
   rw [bg h1,if_pos (by decide)]
   unfold bC
   rw [List.drop_succ_cons,List.drop_zero,if_pos (qA h3 (h.resolve_left h0)),List.drop_succ_cons,List.drop_zero,cw,(kT h3).2]
theorem rJ {s:List UInt8} {k:List KT} {ts us:List Tok} (ht:ts.map kt=(1,s)::k) (h:nameOk s=true):nmT (ts++us)=true:=by
 obtain ⟨t,y,rfl,h1,h2⟩:=aM ht
 exact qA h1 h
theorem dv {t:Tok} {s:List UInt8} {us:List Tok} (ht:kt t=(1,s)) (h:nameOk s=true):bC (t::us)=.ok (s,us):=by
 unfold bC
 rw [if_pos (qA ht h),List.drop_succ_cons,List.drop_zero,cw,(kT ht).2]
theorem gr {t:Tok} {s:List UInt8} {us:List Tok} (ht:kt t=(1,s)):bH s (t::us)=.ok us:=by
 unfold bH
 rw [bg ht,if_pos (by exact decide_eq_true rfl)]; rfl
theorem po {t:Tok} {s:List UInt8} {us:List Tok} (ht:kt t=(4,s)):fz s (t::us)=.ok us:=by
 unfold fz
 rw [bg ht,if_pos (by exact decide_eq_true rfl)]; rfl
section
variable {α:Type} {K:α→List KT} {can:List Tok→Bool} {one:List α→List Tok→PT (List α)} {m:Nat} {nx:KT→Bool}
theorem qH {l:List α} {y us:List Tok} (hy:y.map kt=kW K l) (hc:nx (4,[44])=true) (hn:nx (kt (hd us))=true):nx (kt (hd (y++us)))=true:=by
 rw [gG,hy]
 cases l with
 | nil=>exact hn
 | cons a l=>exact hc
theorem pp (hc:nx (4,[44])=true):∀ (l acc:List α) (f n:Nat),(∀ a ∈ l,∀ acc,fi (one acc) (K a) (acc++[a]) m nx)→(∀ a ∈ l,∀ ts us,ts.map kt=K a→can (ts++us)=true)→l.length < f→n≠0→n+l.length≤16 →
  ∀ ts us,ts.map kt=kW K l→Good us→nx (kt (hd us))=true→kt (hd us)≠(4,[44])→8 * (ts++us).length+8≤m→cM can one f n acc (ts++us)=.ok (acc++l,us)
 | [],acc,f,n,_,_,hf,hn,_,ts,us,ht,hg,hx,hne,hm=>by
  obtain rfl:=cA ht
  obtain ⟨g,rfl⟩:=eR hf
  rw [List.nil_append,vY _ _ _ _ _ _ hn (jP hne),List.append_nil]
 | a::l,acc,f,n,ho,hca,hf,hn,hl,ts,us,ht,hg,hx,hne,hm=>by
  obtain ⟨g,rfl⟩:=eR hf
  obtain ⟨c,z,rfl,h1,h2⟩:=aM ht
  obtain ⟨x,y,rfl,h3,h4⟩:=cQ h2
  simp only [List.length_cons] at hf hl
  rw [List.cons_append,vX _ _ _ _ _ _ hn (by rw [bg h1]; decide),List.drop_succ_cons,List.drop_zero,List.append_assoc]
  simp only [List.cons_append,List.length_cons,List.length_append] at hm
  rw [nW (hca a List.mem_cons_self x _ h3) (by omega) (ho a List.mem_cons_self acc x (y++us) h3 hg.app (qH h4 hc hx) (by simp only [List.length_append]; omega))]
  rw [pp hc l (acc++[a]) g (n+1) (fun b hb=>ho b (List.mem_cons_of_mem _ hb)) (fun b hb=>hca b (List.mem_cons_of_mem _ hb)) (by omega) (by omega) (by omega) y us h4 hg hx hne (by simp only [List.length_append]; omega)]
  simp
theorem ke (hc:nx (4,[44])=true) {l:List α} (hl:1≤l.length∧l.length≤16) (ho:∀ a ∈ l,∀ acc,fi (one acc) (K a) (acc++[a]) m nx) (hca:∀ a ∈ l,∀ ts us,ts.map kt=K a→can (ts++us)=true) :
  fi (cM can one 17 0 []) (ew K l) l m (fun x=>nx x && decide (x≠(4,[44]))):=fun ts us ht hg hx hm=>by
 rw [Bool.and_eq_true,decide_eq_true_eq] at hx
 cases l with
 | nil=>simp at hl
 | cons a l =>
  obtain ⟨x,y,rfl,h3,h4⟩:=cQ ht
  simp only [List.length_cons] at hl
  rw [vW,List.append_assoc]
  simp only [List.length_append] at hm
  rw [nW (hca a List.mem_cons_self x _ h3) (by decide) (ho a List.mem_cons_self [] x (y++us) h3 hg.app (qH h4 hc hx.1) (by simp only [List.length_append]; omega))]
  rw [pp hc l ([]++[a]) 16 1 (fun b hb=>ho b (List.mem_cons_of_mem _ hb)) (fun b hb=>hca b (List.mem_cons_of_mem _ hb)) (by omega) (by omega) (by omega) y us h4 hg hx.1 hx.2 (by simp only [List.length_append]; omega)]
  simp
theorem pq (hc:nx (4,[44])=true) (hb:nx (4,[41])=true) {l:List α} (hl:1≤l.length∧l.length≤16) (ho:∀ a ∈ l,∀ acc,fi (one acc) (K a) (acc++[a]) m nx) (hca:∀ a ∈ l,∀ ts us,ts.map kt=K a→can (ts++us)=true) :
  fi (inP can one) ((4,[40])::(ew K l++[(4,[41])])) l m (fun _=>true):=fun ts us ht hg _ hm=>by
 obtain ⟨c,z,rfl,h1,h2⟩:=aM ht
 obtain ⟨x,y,rfl,h3,h4⟩:=cQ h2
 obtain ⟨b,w,rfl,h5,h6⟩:=aM h4
 obtain rfl:=cA h6
 unfold inP
 rw [List.cons_append,po h1]
 simp only [List.append_assoc,List.cons_append,List.nil_append]
 simp only [List.cons_append,List.length_cons,List.length_append,List.length_nil] at hm
 rw [ke hc hl ho hca x (b::us) h3 (.inr hg) (by rw [cw,h5,Bool.and_eq_true]; exact ⟨hb,by decide⟩) (by simp only [List.length_append,List.length_cons]; omega)]
 simp only [po h5]
end
theorem wF {e:Ex} (hm:e.may=true) {k:List KT} {ts us:List Tok} (ht:ts.map kt=e.tk 1++k):gU (ts++us)=true:=by
 obtain ⟨x,l,h1,h2⟩:=tk_beg (e.size+1) e (by omega) hm 1
 rw [begT_kt,gG,ht,h1]; exact h2
theorem bA {a b:Txt} {n:Nat}:(cat a b).2≤n↔a.2≤n∧b.2≤n:=by show max _ _≤n↔_; omega
theorem tB {α:Type} {G:α→Txt} {n:Nat}:∀ {l:List α},(nD G l).2≤n→∀ a ∈ l,(G a).2≤n
 | [],_,a,ha=>by cases ha
 | b::l,h,a,ha=>by
  have h:=(bA.1 (bA.1 h).2)
  rcases List.mem_cons.1 ha with rfl | ha
  · exact h.1
  · exact tB h.2 a ha
theorem mC {α:Type} {G:α→Txt} {n:Nat} {l:List α} (h:(gY G l).2≤n):∀ a ∈ l,(G a).2≤n:=fun a ha=>by
 cases l with
 | nil=>cases ha
 | cons b l =>
  have h:=bA.1 h
  rcases List.mem_cons.1 ha with rfl | ha
  · exact h.1
  · exact tB h.2 a ha
theorem wG {α:Type} {G:α→Txt} {n:Nat}:∀ {l:List α},(seqT G l).2≤n→∀ a ∈ l,(G a).2≤n
 | [],_,a,ha=>by cases ha
 | b::l,h,a,ha=>by
  have h:=bA.1 h
  rcases List.mem_cons.1 ha with rfl | ha
  · exact h.1
  · exact wG h.2 a ha
theorem uV {a:ItemX} {f:Nat} (h:mayI a=true) (ho:a.e.ok) (hd_:(eD a).2≤24) (acc:List ItemX):fi (gC f 0 acc) (mA a) (acc++[a]) f nxI:=fun ts us ht hg hn hf=>by
 obtain ⟨h1,h2⟩:=kX.1 h
 obtain ⟨x,y,rfl,h3,h4⟩:=cQ ht
 have hn:=Bool.and_eq_true_iff.1 hn
 have hd1:(a.e.txt 1).2≤24:=(bA.1 hd_).1
 unfold gC
 simp only [List.length_append] at hf
 rw [List.append_assoc,kY h1 ho hd1 x (y++us) h3 hg.app (by
  rw [gG,h4]; unfold asK; split
  · exact hn.1
  · exact (by decide:nxE (1,asB)=true)) (by simp only [List.length_append]; omega)]
 simp only [tA (m:=f) h2 y us h4 hg hn.2 (by simp only [List.length_append]; omega)]
theorem qI {t s:List UInt8} {m:Nat} (ht:nameOk t=true) (hs:s=[]∨nameOk s=true):fi gb ((1,t)::asK s) (t,s) m nxA:=fun ts us h hg hn hf=>by
 obtain ⟨c,z,rfl,h1,h2⟩:=aM h
 unfold gb
 simp only [List.cons_append,List.length_cons] at hf
 rw [List.cons_append,dv h1 ht]
 simp only [tA (m:=m) hs z us h2 hg hn (by omega)]
def nxJ (x:KT):Bool:=nxI x && decide (x≠(1,kL))
theorem uW {a:SrcX} {f:Nat} {acc:List SrcX} (h:mayF 1 a=true) (ho:a.e.ok) (hd_:(dL 1 a).2≤24) (hl:acc.length < 4):fi (fH f 0 acc) ((1,a.t)::(asK a.s++(1,onB)::a.e.tk 1)) (acc++[a]) f nxE:=fun ts us ht hg hn hf=>by
 obtain ⟨h1,h2,h3⟩:=pm.1 h
 have hd1:(a.e.txt 1).2≤24:=by
  unfold dL at hd_; rw [if_neg Nat.one_ne_zero,if_neg Nat.one_ne_zero] at hd_
  exact (bA.1 (bA.1 hd_).2).2
 have ht:ts.map kt=((1,a.t)::asK a.s)++((1,onB)::a.e.tk 1):=ht
 obtain ⟨x,y,rfl,h4,h5⟩:=cQ ht
 obtain ⟨c,z,rfl,h6,h7⟩:=aM h5
 unfold fH
 simp only [List.length_append,List.length_cons] at hf
 rw [if_neg (fun e=>by omega),List.append_assoc,qI (m:=f) h1 h2 x ((c::z)++us) h4 hg.app (by rw [gG,h5]; exact (by decide:nxA (1,onB)=true)) (by simp only [List.length_append,List.length_cons]; omega)]
 simp only [List.cons_append,gr h6]
 rw [kY h3 ho hd1 z us h7 hg hn (by simp only [List.length_append]; omega)]
theorem nE {f:Nat}:∀ (l acc:List SrcX) (k:Nat),(∀ a ∈ l,mayF 1 a=true∧a.e.ok∧(dL 1 a).2≤24)→acc.length+l.length≤4→l.length < k→fi (dQ f 0 k acc) (seqK (m9 1) l) (acc++l) f nxJ
 | [],acc,k,_,_,hk,ts,us,ht,hg,hn,hf=>by
  obtain rfl:=cA ht
  obtain ⟨g,rfl⟩:=eR hk
  have hn:=Bool.and_eq_true_iff.1 hn
  unfold dQ
  rw [List.nil_append,jP (of_decide_eq_true hn.2),List.append_nil]; rfl
 | a::l,acc,k,h,hl,hk,ts,us,ht,hg,hn,hf=>by
  obtain ⟨g,rfl⟩:=eR hk
  obtain ⟨h1,h2,h3⟩:=h a List.mem_cons_self
  have ht:ts.map kt=(1,kL)::(((1,a.t)::(asK a.s++(1,onB)::a.e.tk 1))++seqK (m9 1) l):=by
   rw [ht]; simp [seqK,m9]
  obtain ⟨c,z,rfl,h6,h7⟩:=aM ht
  obtain ⟨x,y,rfl,h4,h5⟩:=cQ h7
  simp only [List.length_cons] at hl hk
  simp only [List.cons_append,List.length_append,List.length_cons] at hf
  unfold dQ
  rw [List.cons_append,bg h6,if_pos (by decide),List.drop_succ_cons,List.drop_zero,List.append_assoc]
  rw [uW h1 h2 h3 (by omega) x (y++us) h4 hg.app (by
   rw [gG,h5]
   cases l with
   | nil=>exact (Bool.and_eq_true_iff.1 (Bool.and_eq_true_iff.1 hn).1).1
   | cons b l=>exact (by decide:nxE (1,kL)=true)) (by simp only [List.length_append]; omega)]
  simp only
  rw [nE l (acc++[a]) g (fun b hb=>h b (List.mem_cons_of_mem _ hb)) (by simp; omega) (by omega) y us h5 hg hn (by simp only [List.length_append]; omega)]
  simp
def nxF (x:KT):Bool:=nxJ x && decide (x≠(1,eV))
theorem uX {l:List SrcX} {f:Nat} (h:∀ i,i < l.length→mayF i (l.getD i SrcX.zero)=true) (ho:∀ a ∈ l,a.e.ok) (hl:l.length≤4) (hd_:(upT (fun i=>dL i (l.getD i SrcX.zero)) l.length).2≤24):fi (eB f 0) (mB l) l f nxF:=fun ts us ht hg hn hf=>by
 rw [pk] at hd_
 have hn:=Bool.and_eq_true_iff.1 hn
 cases l with
 | nil =>
  obtain rfl:=cA ht
  unfold eB
  rw [List.nil_append,jP (of_decide_eq_true hn.2)]; rfl
 | cons a l =>
  obtain ⟨h1,h2,h3⟩:=uU.1 (h 0 (by simp))
  have h1:nameOk a.t=true:=h1
  have h2:a.s=[]∨nameOk a.s=true:=h2
  have h3:fg a.e=true:=h3
  have hm:∀ b ∈ l,mayF 1 b=true:=fw (z:=SrcX.zero) fun i hi=>by
   have:=h (i+1) (by simpa using hi)
   rw [pm] at this ⊢
   exact this
  have hd2:=bA.1 hd_
  have ht:ts.map kt=(1,eV)::(((1,a.t)::asK a.s)++seqK (m9 1) l):=by
   rw [ht]; simp [mB,m9]
  obtain ⟨c,z,rfl,h6,h7⟩:=aM ht
  obtain ⟨x,y,rfl,h4,h5⟩:=cQ h7
  simp only [List.length_cons] at hl
  simp only [List.cons_append,List.length_append,List.length_cons] at hf
  unfold eB
  rw [List.cons_append,bg h6,if_pos (by decide),List.drop_succ_cons,List.drop_zero,List.append_assoc]
  rw [qI (m:=f) h1 h2 x (y++us) h4 hg.app (by
   rw [gG,h5]
   cases l with
   | nil=>exact (Bool.and_eq_true_iff.1 (Bool.and_eq_true_iff.1 hn.1).1).2
   | cons b l=>exact (by decide:nxA (1,kL)=true)) (by simp only [List.length_append]; omega)]
  simp only
  rw [nE l [⟨a.t,a.s,Ex.zero⟩] 5 (fun b hb=>⟨hm b hb,ho b (List.mem_cons_of_mem _ hb),wG hd2.2 b hb⟩) (by simp; omega) (by omega) y us h5 hg hn.1 (by simp only [List.length_append]; omega)]
  rw [← lack_o h3]; rfl
def nxW (x:KT):Bool:=noC 1 x && decide (x≠(1,j6))
theorem kZ {e:Ex} {f:Nat} (h:mayb e=true) (ho:e.ok) (hd_:(cT e).2≤24):fi (cN f 0) (eT e) e f nxW:=fun ts us ht hg hn hf=>by
 have hn:=Bool.and_eq_true_iff.1 hn
 rcases wE h with rfl | hm
 · obtain rfl:=cA ht
   unfold cN
   rw [List.nil_append,jP (of_decide_eq_true hn.2)]; rfl
 · unfold eT at ht
   unfold cT at hd_
   rw [if_neg (may_o hm)] at ht hd_
   obtain ⟨c,z,rfl,h6,h7⟩:=aM ht
   simp only [List.cons_append,List.length_cons] at hf
   unfold cN
   rw [List.cons_append,bg h6,if_pos (by decide),List.drop_succ_cons,List.drop_zero]
   exact kY hm ho (bA.1 hd_).2 z us h7 hg hn.1 (by omega)
def nxO (x:KT):Bool:=decide (x≠(1,jG))
theorem yc {a:OrdX} {m:Nat} (h:nameOk a.n=true) (acc:List OrdX):fi (lU acc) (ordK a) (acc++[a]) m nxO:=fun ts us ht hg hn hf=>by
 obtain ⟨c,z,rfl,h6,h7⟩:=aM ht
 unfold lU
 rw [List.cons_append,dv h6 h]
 obtain ⟨n,b⟩:=a
 cases b with
 | false =>
  obtain rfl:=cA h7
  simp only [List.nil_append,jP (of_decide_eq_true hn)]; rfl
 | true =>
  obtain ⟨d,z,rfl,h8,h9⟩:=aM h7
  obtain rfl:=cA h9
  simp only [List.cons_append,List.nil_append,bg h8]
  rw [if_pos (by decide)]; rfl
def nxOs (x:KT):Bool:=(nxO x && decide (x≠(4,[44]))) && decide (x≠(1,jp))
theorem rK {l:List OrdX} {m:Nat} (h:∀ a ∈ l,nameOk a.n=true) (hl:l.length≤16):fi eC (fv l) l m nxOs:=fun ts us ht hg hn hf=>by
 have hn:=Bool.and_eq_true_iff.1 hn
 unfold fv at ht
 by_cases h0:l=[]
 · subst h0
   obtain rfl:=cA ht
   exact sS (jP (of_decide_eq_true hn.2))
 · rw [if_neg h0] at ht
   obtain ⟨c,z,rfl,h6,h7⟩:=aM ht
   obtain ⟨b,z,rfl,h8,h9⟩:=aM h7
   simp only [List.cons_append,List.length_cons] at hf
   rw [List.cons_append,oN (by rw [bg h6]; decide) (by rw [List.drop_succ_cons,List.drop_zero,List.cons_append,bg h8]; decide)]
   rw [List.drop_succ_cons,List.drop_zero,List.cons_append,List.drop_succ_cons,List.drop_zero]
   exact ke (nx:=nxO) (m:=m) (by decide) ⟨by cases l with | nil=>exact absurd rfl h0 | cons=>simp,hl⟩ (fun a ha acc=>yc (h a ha) acc) (fun a ha ts us ht=>rJ ht (h a ha)) z us h9 hg hn.1 (by omega)
def nxL (x:KT):Bool:=decide (x≠(1,jq))
theorem tC {q:QryX} {m:Nat} (hn:inR q.lim=true) (hl:q.li=true∨q.lim=0):fi eW (na q) (q.li,q.lim) m nxL:=fun ts us ht hg hx hf=>by
 unfold na at ht
 by_cases h0:q.li=true
 · rw [if_pos h0] at ht
   obtain ⟨c,z,rfl,h6,h7⟩:=aM ht
   obtain ⟨b,z,rfl,h8,h9⟩:=aM h7
   obtain rfl:=cA h9
   simp only [List.cons_append,List.nil_append]
   rw [sU (by rw [bg h6]; decide) (by rw [List.drop_succ_cons,List.drop_zero,cw]; exact (kT h8).1)]
   simp only [List.drop_succ_cons,List.drop_zero,cw,(kT h8).2,tf hn,h0]
 · rw [if_neg h0] at ht
   obtain rfl:=cA ht
   rw [List.nil_append,sT (jP (of_decide_eq_true hx)),hl.resolve_left h0,Bool.eq_false_iff.2 h0]
theorem yd {a:ColX} {m:Nat} (h:mayCol a=true) (acc:List ColX):fi (lG acc) (colK a) (acc++[a]) m (fun x=>decide (x≠(1,eN))):=fun ts us ht hg hn hf=>by
 obtain ⟨h1,h2⟩:=fA.1 h
 obtain ⟨c,z,rfl,h6,h7⟩:=aM ht
 obtain ⟨b,z,rfl,h8,h9⟩:=aM h7
 unfold lG
 rw [List.cons_append,dv h6 h1,List.cons_append]
 have hk:cC (b::(z++us))=a.k:=by
  have:a.k=1∨a.k=2∨a.k=3:=by omega
  unfold cC
  rw [bg h8,bg h8,bg h8]
  rcases this with e | e | e<;>rw [e]<;>rfl
 simp only [hk]
 rw [if_neg (by omega),List.drop_succ_cons,List.drop_zero]
 obtain ⟨n,k,nn⟩:=a
 cases nn with
 | false =>
  obtain rfl:=cA h9
  rw [List.nil_append,jP (of_decide_eq_true hn)]; rfl
 | true =>
  obtain ⟨d,z,rfl,h10,h11⟩:=aM h9
  obtain ⟨g,z,rfl,h12,h13⟩:=aM h11
  obtain rfl:=cA h13
  simp only [List.cons_append,List.nil_append,bg h10]
  rw [if_pos (by decide),List.drop_succ_cons,List.drop_zero,gr h12]
theorem makes_on {a:List UInt8} {m:Nat} (h:nameOk a=true) (acc:List (List UInt8)):fi (onP acc) (rH a) (acc++[a]) m (fun _=>true):=fun ts us ht hg hn hf=>by
 obtain ⟨c,z,rfl,h6,h7⟩:=aM ht
 obtain rfl:=cA h7
 unfold onP
 rw [List.cons_append,dv h6 h]; rfl
theorem yf {a:SetX} {f:Nat} (h:maySet a=true) (ho:a.e.ok) (hd_:(js a).2≤24) (acc:List SetX):fi (iY f 0 acc) (setK a) (acc++[a]) f nxE:=fun ts us ht hg hn hf=>by
 obtain ⟨h1,h2⟩:=kd.1 h
 obtain ⟨c,z,rfl,h6,h7⟩:=aM ht
 obtain ⟨b,z,rfl,h8,h9⟩:=aM h7
 simp only [List.cons_append,List.length_cons] at hf
 unfold iY
 rw [List.cons_append,dv h6 h1]
 simp only [List.cons_append,po h8]
 rw [kY h2 ho (bA.1 hd_).2 z us h9 hg hn (by omega)]
theorem yg {e:Ex} {f:Nat} (h:e.may=true) (ho:e.ok) (hd_:(e.txt 1).2≤24) (acc:List Ex):fi (jr f 0 acc) (e.tk 1) (acc++[e]) f nxE:=fun ts us ht hg hn hf=>by
 unfold jr
 rw [kY h ho hd_ ts us ht hg hn hf]
theorem qJ {l:List Ex} {f:Nat} (h:mayRow l=true) (ho:∀ e ∈ l,e.ok) (hd_:(iz l).2≤24):fi (inP gU (jr f 0)) (lM l) l f (fun _=>true):=by
 obtain ⟨h1,h2⟩:=lZ.1 h
 unfold iz at hd_
 rw [cy (fun e:Ex=>e.txt 1) Ex.zero l] at hd_
 have hd2:=mC (bA.1 (bA.1 hd_).2).1
 exact pq (nx:=nxE) (by decide) (by decide) h1 (fun a ha acc=>yg (h2 a ha) (ho a ha) (hd2 a ha) acc) (fun a ha ts us ht=>wF (h2 a ha) (k:=[]) (by rw [List.append_nil]; exact ht))
theorem pr {f:Nat}:∀ (l:List (List Ex)) (r:List Ex) (acc:List (List Ex)) (k:Nat),(∀ a ∈ r::l,mayRow a=true∧(∀ e ∈ a,e.ok)∧(iz a).2≤24)→∀ ts us,ts.map kt=lM r++kW lM l→Good us→kt (hd us)≠(4,[44])→8 * (ts++us).length+8≤f→l.length < k→dR f 0 k acc (ts++us)=.ok (acc++r::l,us)
 | l,r,acc,0,_,_,_,_,_,_,_,hk=>absurd hk (Nat.not_lt_zero _)
 | [],r,acc,k+1,h,ts,us,ht,hg,hn,hf,_=>by
  obtain ⟨h1,h2,h3⟩:=h r List.mem_cons_self
  have ht:ts.map kt=lM r:=by rw [ht]; simp [kW]
  unfold dR
  rw [qJ h1 h2 h3 ts us ht hg rfl hf]
  simp only [jP hn]; rfl
 | b::l,r,acc,k+1,h,ts,us,ht,hg,hn,hf,hk=>by
  obtain ⟨h1,h2,h3⟩:=h r List.mem_cons_self
  obtain ⟨x,y,rfl,h4,h5⟩:=cQ ht
  obtain ⟨c,z,rfl,h6,h7⟩:=aM h5
  simp only [List.length_append,List.length_cons] at hf hk
  unfold dR
  rw [List.append_assoc,qJ h1 h2 h3 x (c::z++us) h4 hg.app rfl (by simp only [List.length_append,List.length_cons]; omega)]
  simp only [List.cons_append,bg h6]
  rw [if_pos (by decide),List.drop_succ_cons,List.drop_zero]
  rw [pr l b (acc++[r]) k (fun a ha=>h a (List.mem_cons_of_mem _ ha)) z us h7 hg hn (by simp only [List.length_append]; omega) (by omega)]
  simp
end Go.WK
