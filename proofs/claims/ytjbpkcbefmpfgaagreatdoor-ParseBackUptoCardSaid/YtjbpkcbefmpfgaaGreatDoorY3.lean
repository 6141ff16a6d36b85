/- Parts of the proof, joined and made shorter by a program: Back9, Back10, Back11. -/
import Derived.Test.YtjbpkcbefmpfgaaGreatDoorY2
namespace Go.WK
open Go.RowKit Lib
def headIn (k:List KT) (e:KT) (S:List KT):Prop:=k.head?.getD e ∈ S
theorem headIn.app {a b:List KT} {e x:KT} {S:List KT} (ha:a=[]∨∃ l,a=x::l) (hb:headIn b e S):headIn (a++b) e (x::S):=by
 rcases ha with rfl | ⟨l,rfl⟩
 · exact List.mem_cons_of_mem _ hb
 · exact List.mem_cons_self
theorem pt {nx:KT→Bool} {S:List KT} {x:KT} (h:S.all nx=true) (hx:x ∈ S):nx x=true:=List.all_eq_true.1 h x hx
theorem lim_head (q:QryX):na q=[]∨∃ l,na q=(1,jq)::l:=by
 unfold na; split
 · exact .inr ⟨_,rfl⟩
 · exact .inl rfl
theorem ord_head (l:List OrdX):fv l=[]∨∃ r,fv l=(1,jp)::r:=by
 unfold fv; split
 · exact .inl rfl
 · exact .inr ⟨_,rfl⟩
theorem wH (e:Ex):eT e=[]∨∃ r,eT e=(1,j6)::r:=by
 unfold eT; split
 · exact .inl rfl
 · exact .inr ⟨_,rfl⟩
theorem yh (l:List SrcX):mB l=[]∨∃ r,mB l=(1,eV)::r:=by
 cases l with
 | nil=>exact .inl rfl
 | cons a l=>exact .inr ⟨_,by unfold mB m9; rw [if_pos rfl]; rfl⟩
abbrev endK:KT:=(5,[])
def S4:List KT:=[(1,jq),endK]
def S3:List KT:=(1,jp)::S4
def S2:List KT:=(1,j6)::S3
def S1:List KT:=(1,eV)::S2
theorem qry_dep {q:QryX} (h:(jK q).2≤24):(∀ a ∈ q.items,(eD a).2≤24)∧(upT (fun i=>dL i (q.from_.getD i SrcX.zero)) q.from_.length).2≤24∧(cT q.wh).2≤24:=by
 unfold jK at h
 rw [cy eD ItemX.zero] at h
 have h1:=bA.1 (bA.1 h).2
 have h2:=bA.1 h1.2
 have h3:=bA.1 h2.2
 exact ⟨mC h1.1,h2.1,h3.1⟩
theorem yi {q:QryX} (h:QM q):∃ x l,kc q=x::l∧x≠(1,br)∧(q.st=false→x≠(4,[42])):=by
 rcases h.it with ⟨a1,a2⟩ | ⟨a1,a2⟩
 · unfold kc; rw [if_pos a1,a2]
   exact ⟨_,_,rfl,by decide,fun h=>by rw [a1] at h; cases h⟩
 · unfold kc; rw [a1]
   cases hi:q.items with
   | nil=>rw [hi] at a2; simp at a2
   | cons a l =>
    have hm:=(kX.1 (h.items a (by rw [hi]; exact List.mem_cons_self))).1
    obtain ⟨x,r,h1,h2⟩:=tk_beg (a.e.size+1) a.e (by omega) hm 1
    refine ⟨x,r++asK a.s++kW mA l, ?_,fun e=>by rw [e] at h2; revert h2; decide,fun _ e=>by rw [e] at h2; revert h2; decide⟩
    show (if false=true then _ else [])++(mA a++kW mA l)=_
    unfold mA
    rw [h1]; simp
theorem yj {q:QryX} {f:Nat} (h:QM q) (ho:QOk q) (hd_:(jK q).2≤24) {ts us:List Tok} (ht:(1,ft)::ts.map kt=qryK q) (hg:Good us) (hu:kt (hd us)=endK) (hf:8 * (ts++us).length+8≤f):cP f 0 (ts++us)=.ok (q,us):=by
 obtain ⟨d1,d2,d3⟩:=qry_dep hd_
 have ho1:∀ a ∈ q.items,a.e.ok:=fw (p:=fun a:ItemX=>a.e.ok) ho.items
 have ho2:∀ a ∈ q.from_,a.e.ok:=fw (p:=fun a:SrcX=>a.e.ok) ho.from_
 have ht:ts.map kt=(if q.di=true then [(1,br)] else [])++(kc q++(mB q.from_++(eT q.wh++(fv q.ord++na q)))):=(List.cons.inj ht).2
 obtain ⟨t0,r0,rfl,h0,g0⟩:=cQ ht
 obtain ⟨t1,r1,rfl,h1,g1⟩:=cQ g0
 obtain ⟨t2,r2,rfl,h2,g2⟩:=cQ g1
 obtain ⟨t3,r3,rfl,h3,g3⟩:=cQ g2
 obtain ⟨t4,t5,rfl,h4,h5⟩:=cQ g3
 have e4:headIn (na q) endK S4:=headIn.app (b:=[]) (lim_head q) (List.mem_singleton.2 rfl) |> fun h=>by rwa [List.append_nil] at h
 have e3:headIn (fv q.ord++na q) endK S3:=headIn.app (ord_head _) e4
 have e2:headIn (eT q.wh++(fv q.ord++na q)) endK S2:=headIn.app (wH _) e3
 have e1:headIn (mB q.from_++(eT q.wh++(fv q.ord++na q))) endK S1:=headIn.app (yh _) e2
 have k5:kt (hd (t5++us)) ∈ S4:=by rw [gG,h5,hu]; exact e4
 have k4:kt (hd (t4++(t5++us))) ∈ S3:=by rw [gG,h4,gG,h5,hu]; have:=e3; unfold headIn at this; rw [List.head?_append] at this; revert this; cases (fv q.ord).head?<;>exact id
 have k3:kt (hd (t3++(t4++(t5++us)))) ∈ S2:=by
  rw [← List.append_assoc, ← List.append_assoc,gG,List.map_append,List.map_append,h3,h4,h5,hu,List.append_assoc]; exact e2
 have k2:kt (hd (t2++(t3++(t4++(t5++us))))) ∈ S1:=by
  rw [← List.append_assoc, ← List.append_assoc, ← List.append_assoc,gG,List.map_append,List.map_append,List.map_append,h2,h3,h4,h5,hu,List.append_assoc,List.append_assoc]; exact e1
 obtain ⟨x,l,i1,i2,i3⟩:=yi h
 have kx:∀ us,kt (hd (t1++us))=x:=fun us=>by rw [gG,h1,i1]; rfl
 simp only [List.append_assoc] at hf ⊢
 simp only [List.length_append] at hf
 have gd:∀ l:List Tok,Good (l++us):=fun l=>hg.app
 -- distinct
 have c0:cu (t0++(t1++(t2++(t3++(t4++(t5++us))))))=t1++(t2++(t3++(t4++(t5++us))))∧atT 1 br (t0++(t1++(t2++(t3++(t4++(t5++us))))))=q.di:=by
  cases hq:q.di with
  | false =>
   rw [hq] at h0
   obtain rfl:=cA h0
   have:=jP (us:=t1++(t2++(t3++(t4++(t5++us))))) (k:=1) (s:=br) (by rw [kx]; exact i2)
   unfold cu
   rw [List.nil_append,this]; exact ⟨rfl,rfl⟩
  | true =>
   rw [hq,if_pos rfl] at h0
   obtain ⟨c,z,rfl,h6,h7⟩:=aM h0
   obtain rfl:=cA h7
   unfold cu
   rw [List.cons_append,bg h6]
   exact ⟨by rw [if_pos (by decide)]; rfl,by decide⟩
 have c1:gc f 0 (t1++(t2++(t3++(t4++(t5++us)))))=.ok (q.items,t2++(t3++(t4++(t5++us))))∧atT 4 [42] (t1++(t2++(t3++(t4++(t5++us)))))=q.st:=by
  rcases h.it with ⟨a1,a2⟩ | ⟨a1,a2⟩
  · unfold kc at h1
    rw [if_pos a1,a2] at h1
    obtain ⟨c,z,rfl,h6,h7⟩:=aM h1
    obtain rfl:=cA h7
    unfold gc
    rw [List.cons_append,bg h6,if_pos (by decide),a1,a2]
    exact ⟨rfl,by decide⟩
  · have hs:=jP (us:=t1++(t2++(t3++(t4++(t5++us))))) (k:=4) (s:=[42]) (by rw [kx]; exact i3 a1)
    unfold kc at h1
    rw [a1] at h1
    have h1:t1.map kt=ew mA q.items:=h1
    unfold gc
    rw [hs,a1,if_neg Bool.false_ne_true]
    exact ⟨ke (nx:=nxI) (by decide) a2 (fun a ha acc=>uV (h.items a ha) (ho1 a ha) (d1 a ha) acc) (fun a ha ts us ht=>wF (kX.1 (h.items a ha)).1 ht) t1 _ h1 (by simp only [← List.append_assoc]; exact gd _) (pt (nx:=fun x=>nxI x && decide (x≠(4,[44]))) (S:=S1) (by decide) k2) (by simp only [List.length_append]; omega),rfl⟩
 have c2:=uX (f:=f) h.from_ ho2 h.fl d2 t2 (t3++(t4++(t5++us))) h2 (by simp only [← List.append_assoc]; exact gd _) (pt (S:=S2) (by decide) k3) (by simp only [List.length_append]; omega)
 have c3:=kZ (f:=f) h.wh ho.wh d3 t3 (t4++(t5++us)) h3 (by simp only [← List.append_assoc]; exact gd _) (pt (S:=S3) (by decide) k4) (by simp only [List.length_append]; omega)
 have c4:=rK (m:=f) h.ord h.ol t4 (t5++us) h4 (gd _) (pt (S:=S4) (by decide) k5) (by simp only [List.length_append]; omega)
 have c5:=tC (m:=f) ho.lim h.ll t5 us h5 hg (by rw [hu]; decide) (by simp only [List.length_append]; omega)
 unfold cP
 rw [c0.1,c0.2,c1.1,c1.2]
 simp only [c2,c3,c4,c5]
section
variable {f d:Nat} {t:Tok} {l:List Tok}
theorem qK (h:kt t=(1,eO)):cv f d (t::l)=er l:=by
 unfold cv; rw [bg h,if_pos (by decide)]; rfl
theorem wI (h:kt t=(1,kr)):cv f d (t::l)=gD l:=by
 unfold cv; rw [bg h,bg h,if_neg (by decide),if_pos (by decide)]; rfl
theorem yk (h:kt t=(1,iv)):cv f d (t::l)=dI f d l:=by
 unfold cv; rw [bg h,bg h,bg h,if_neg (by decide),if_neg (by decide),if_pos (by decide)]; rfl
theorem yl (h:kt t=(1,ix)):cv f d (t::l)=eb f d l:=by
 unfold cv; rw [bg h,bg h,bg h,bg h,if_neg (by decide),if_neg (by decide),if_neg (by decide),if_pos (by decide)]; rfl
theorem ym (h:kt t=(1,jd)):cv f d (t::l)=dJ f d l:=by
 unfold cv; rw [bg h,bg h,bg h,bg h,bg h,if_neg (by decide),if_neg (by decide),if_neg (by decide),if_neg (by decide),if_pos (by decide)]; rfl
theorem yn (h:kt t=(1,ft)):cv f d (t::l)=gM f d l:=by
 unfold cv; rw [bg h,bg h,bg h,bg h,bg h,bg h,if_neg (by decide),if_neg (by decide),if_neg (by decide),if_neg (by decide),if_neg (by decide),if_pos (by decide)]; rfl
theorem st_begin (h:kt t=(1,ie)):cv f d (t::l)=.ok ({ StmtX.zero with k:=9 },l):=by
 unfold cv; rw [bg h,bg h,bg h,bg h,bg h,bg h,bg h,if_neg (by decide),if_neg (by decide),if_neg (by decide),if_neg (by decide),if_neg (by decide),if_neg (by decide),if_pos (by decide)]; rfl
theorem yo (h:kt t=(1,ga)):cv f d (t::l)=.ok ({ StmtX.zero with k:=10 },l):=by
 unfold cv; rw [bg h,bg h,bg h,bg h,bg h,bg h,bg h,bg h,if_neg (by decide),if_neg (by decide),if_neg (by decide),if_neg (by decide),if_neg (by decide),if_neg (by decide),if_neg (by decide),if_pos (by decide)]; rfl
theorem tD (h:kt t=(1,ef)):cv f d (t::l)=.ok ({ StmtX.zero with k:=11 },l):=by
 unfold cv; rw [bg h,bg h,bg h,bg h,bg h,bg h,bg h,bg h,bg h,if_neg (by decide),if_neg (by decide),if_neg (by decide),if_neg (by decide),if_neg (by decide),if_neg (by decide),if_neg (by decide),if_neg (by decide),if_pos (by decide)]; rfl
end
theorem yp {s:StmtX} {f:Nat} (hv:SView s) (ho:SOk s) (hd_:(stmT s).2≤24) {ts us:List Tok} (ht:ts.map kt=stmK s) (hg:Good us) (hu:kt (hd us)=endK) (hf:8 * (ts++us).length+8≤f):cv f 0 (ts++us)=.ok (s,us):=by
 cases hv with
 | create t l htn hl hm =>
  obtain ⟨a,r,rfl,h1,h2⟩:=aM ht
  obtain ⟨b,r,rfl,h3,h4⟩:=aM h2
  obtain ⟨c,r,rfl,h5,h6⟩:=aM h4
  simp only [List.cons_append,List.length_cons] at hf
  rw [List.cons_append,qK h1]
  unfold er
  rw [List.cons_append,bg h3,if_pos (by decide),List.drop_succ_cons,List.drop_zero,List.cons_append,dv h5 htn]
  simp only [pq (nx:=fun x=>decide (x≠(1,eN))) (m:=f) (by decide) (by decide) hl (fun a ha acc=>yd (hm a ha) acc) (fun a ha ts us ht=>rJ ht (fA.1 (hm a ha)).1) r us h6 hg rfl (by omega)]
 | drop t htn =>
  obtain ⟨a,r,rfl,h1,h2⟩:=aM ht
  obtain ⟨b,r,rfl,h3,h4⟩:=aM h2
  obtain ⟨c,r,rfl,h5,h6⟩:=aM h4
  obtain rfl:=cA h6
  rw [List.cons_append,wI h1]
  unfold gD
  rw [List.cons_append,bg h3,if_pos (by decide),List.drop_succ_cons,List.drop_zero,List.cons_append,dv h5 htn]; rfl
 | index t n u l htn hn hl hm =>
  obtain ⟨a,r,rfl,h1,h2⟩:=aM ht
  have h2:r.map kt=(if u=true then [(1,cq)] else [])++((1,eg)::(1,n)::(1,onB)::(1,t)::(4,[40])::(ew rH l++[(4,[41])])):=h2
  obtain ⟨p,r,rfl,h0,h2⟩:=cQ h2
  obtain ⟨b,r,rfl,h3,h4⟩:=aM h2
  obtain ⟨c,r,rfl,h5,h6⟩:=aM h4
  obtain ⟨o,r,rfl,h7,h8⟩:=aM h6
  obtain ⟨q,r,rfl,h9,h10⟩:=aM h8
  simp only [List.cons_append,List.length_cons,List.length_append] at hf
  rw [List.cons_append,qK h1]
  have hp:atT 1 eA (p++b::c::o::q::r++us)=false∧atT 1 cq (p++b::c::o::q::r++us)=u∧(if atT 1 cq (p++b::c::o::q::r++us)=true then (p++b::c::o::q::r++us).drop 1 else p++b::c::o::q::r++us)=b::c::o::q::(r++us):=by
   cases u with
   | false =>
    obtain rfl:=cA h0
    simp only [List.nil_append,List.cons_append,bg h3]
    exact ⟨by decide,by decide,by rw [if_neg (by decide)]⟩
   | true =>
    obtain ⟨z,y,rfl,h11,h12⟩:=aM h0
    obtain rfl:=cA h12
    simp only [List.nil_append,List.cons_append,bg h11]
    exact ⟨by decide,by decide,by rw [if_pos (by decide)]; rfl⟩
  unfold er
  rw [hp.1,if_neg Bool.false_ne_true,hp.2.2,hp.2.1,gr h3]
  simp only [dv h5 hn,gr h7,dv h9 htn]
  simp only [pq (nx:=fun _=>true) (m:=f) (by decide) (by decide) hl (fun a ha acc=>makes_on (hm a ha) acc) (fun a ha ts us ht=>rJ ht (hm a ha)) r us h10 hg rfl (by simp only [List.length_append]; omega)]
 | unindex n hn =>
  obtain ⟨a,r,rfl,h1,h2⟩:=aM ht
  obtain ⟨b,r,rfl,h3,h4⟩:=aM h2
  obtain ⟨c,r,rfl,h5,h6⟩:=aM h4
  obtain rfl:=cA h6
  rw [List.cons_append,wI h1]
  unfold gD
  rw [List.cons_append,bg h3,if_neg (by decide),gr h3]
  simp only [List.cons_append,dv h5 hn]; rfl
 | insert t l htn hl hm =>
  have hr:∀ r ∈ l,∀ x ∈ r,x.ok:=fw (z:=[]) (p:=fun r:List Ex=>∀ x ∈ r,x.ok) (fun i hi=>fw (z:=Ex.zero) (ho.rows i hi))
  have hdp:∀ r ∈ l,(iz r).2≤24:=by
   unfold stmT at hd_
   rw [if_neg (show ¬ (5:Int)=1 by decide),if_neg (show ¬ (5:Int)=2 by decide),if_neg (show ¬ (5:Int)=3 by decide),if_neg (show ¬ (5:Int)=4 by decide),if_pos rfl] at hd_
   rw [cy iz []] at hd_
   exact mC (bA.1 hd_).2
  obtain ⟨a,r,rfl,h1,h2⟩:=aM ht
  obtain ⟨b,r,rfl,h3,h4⟩:=aM h2
  obtain ⟨c,r,rfl,h5,h6⟩:=aM h4
  obtain ⟨o,r,rfl,h7,h8⟩:=aM h6
  simp only [List.cons_append,List.length_cons] at hf
  rw [List.cons_append,yk h1]
  unfold dI
  rw [List.cons_append,gr h3]
  simp only [List.cons_append,dv h5 htn,gr h7]
  cases l with
  | nil=>simp at hl
  | cons x l =>
   have hlen:l.length < (r++us).length:=by
    have e1:r.length=(ew lM (x::l)).length:=kt_len h8
    have e2:∀ m:List (List Ex),m.length≤(kW lM m).length:=fun m=>by
     induction m with
     | nil=>exact Nat.le_refl _
     | cons y m ih=>simp only [kW,List.length_cons,List.length_append]; omega
    have e3:=e2 l
    have e4:1≤(lM x).length:=by unfold lM; simp
    simp only [ew,List.length_append] at e1
    rw [List.length_append]; omega
   rw [pr l x [] _ (fun a ha=>⟨hm a ha,hr a ha,hdp a ha⟩) r us h8 hg (by rw [hu]; decide) (by omega) hlen]
   rfl
 | delete t e htn he =>
  have hdp:(cT e).2≤24:=by
   unfold stmT at hd_
   rw [if_neg (show ¬ (6:Int)=1 by decide),if_neg (show ¬ (6:Int)=2 by decide),if_neg (show ¬ (6:Int)=3 by decide),if_neg (show ¬ (6:Int)=4 by decide),if_neg (show ¬ (6:Int)=5 by decide),if_pos rfl] at hd_
   exact (bA.1 hd_).2
  obtain ⟨a,r,rfl,h1,h2⟩:=aM ht
  obtain ⟨b,r,rfl,h3,h4⟩:=aM h2
  obtain ⟨c,r,rfl,h5,h6⟩:=aM h4
  simp only [List.cons_append,List.length_cons] at hf
  rw [List.cons_append,yl h1]
  unfold eb
  rw [List.cons_append,gr h3]
  simp only [List.cons_append,dv h5 htn]
  rw [kZ he ho.wh hdp r us h6 hg (by rw [hu]; decide) (by omega)]
 | update t l e htn hl hm he =>
  have hs:∀ a ∈ l,a.e.ok:=fw (p:=fun a:SetX=>a.e.ok) ho.sets
  have hdp:(∀ a ∈ l,(js a).2≤24)∧(cT e).2≤24:=by
   unfold stmT at hd_
   rw [if_neg (show ¬ (7:Int)=1 by decide),if_neg (show ¬ (7:Int)=2 by decide),if_neg (show ¬ (7:Int)=3 by decide),if_neg (show ¬ (7:Int)=4 by decide),if_neg (show ¬ (7:Int)=5 by decide),if_neg (show ¬ (7:Int)=6 by decide),if_pos rfl] at hd_
   rw [cy js SetX.zero] at hd_
   have:=bA.1 (bA.1 hd_).2
   exact ⟨mC this.1,this.2⟩
  obtain ⟨a,r,rfl,h1,h2⟩:=aM ht
  obtain ⟨c,r,rfl,h5,h6⟩:=aM h2
  obtain ⟨b,r,rfl,h3,h4⟩:=aM h6
  obtain ⟨x,y,rfl,h7,h8⟩:=cQ h4
  simp only [List.cons_append,List.length_cons,List.length_append] at hf
  rw [List.cons_append,ym h1]
  unfold dJ
  rw [List.cons_append,dv h5 htn]
  simp only [List.cons_append,gr h3,List.append_assoc]
  have hh:kt (hd (y++us)) ∈ [(1,j6),endK]:=by
   rw [gG,h8,hu]
   rcases wH e with h | ⟨r,h⟩<;>rw [h]
   · exact List.mem_cons_of_mem _ List.mem_cons_self
   · exact List.mem_cons_self
  rw [ke (nx:=nxE) (m:=f) (by decide) hl (fun a ha acc=>yf (hm a ha) (hs a ha) (hdp.1 a ha) acc) (fun a ha ts us ht=>rJ ht (kd.1 (hm a ha)).1) x (y++us) h7 hg.app (pt (nx:=fun x=>nxE x && decide (x≠(4,[44]))) (S:=[(1,j6),endK]) (by decide) hh) (by simp only [List.length_append]; omega)]
  simp only
  rw [kZ he ho.wh hdp.2 y us h8 hg (by rw [hu]; decide) (by simp only [List.length_append]; omega)]
 | select q h =>
  obtain ⟨a,r,rfl,h1,h2⟩:=aM (show ts.map kt=(1,ft)::_ from ht)
  simp only [List.cons_append,List.length_cons] at hf
  rw [List.cons_append,yn h1]
  unfold gM
  rw [yj h ho.q hd_ (by rw [h2]; rfl) hg hu (by omega)]
 | plain k h =>
  rcases h with rfl | rfl | rfl
  · obtain ⟨a,r,rfl,h1,h2⟩:=aM (show ts.map kt=[(1,ie)] from ht)
    obtain rfl:=cA h2
    exact st_begin h1
  · obtain ⟨a,r,rfl,h1,h2⟩:=aM (show ts.map kt=[(1,ga)] from ht)
    obtain rfl:=cA h2
    exact yo h1
  · obtain ⟨a,r,rfl,h1,h2⟩:=aM (show ts.map kt=[(1,ef)] from ht)
    obtain rfl:=cA h2
    exact tD h1
theorem nF {s:StmtX} (hm:fK s=true) (ho:SOk s) (hd_:(stmT s).2≤24) (hl:(stmT s).1.length≤4096):cr (stmT s).1=.ok s:=by
 have hv:=sview hm
 have h0:=stm_LX hv ho [] [] stop_nil xJ
 rw [List.append_nil,List.append_nil] at h0
 obtain ⟨ts,h1,h2⟩:=lexL_of h0 hl
 unfold cr
 rw [h1]
 simp only
 obtain ⟨x,y,rfl,h3,h4⟩:=cQ h2
 obtain ⟨z,w,rfl,h5,h6⟩:=aM h4
 obtain rfl:=cA h6
 unfold oM
 rw [yp hv ho hd_ h3 (show Good [z] from .inl (kT h5).1) h5 (Nat.le_refl _)]
 simp only [jP (us:=[z]) (k:=4) (s:=[59]) (by rw [cw,h5]; decide),Bool.false_eq_true,if_false]
 rw [if_pos (show (hd [z]).k=5 from (kT h5).1)]
end Go.WK
namespace Go.WK
open Go.RowKit Lib
structure TokV (t:Tok):Prop where
 num:t.k=2→0≤decZ t.t∧inR (decZ t.t)=true
 txt:t.k=3→t.t.length≤64
theorem run_pos {s:List UInt8} (h:be (s.getD 0 0)=true):1≤bO be s:=by
 cases s with
 | nil=>exact absurd h (by decide)
 | cons c l =>
  have:be c=true:=by simpa using h
  simp [bO,this]
theorem tok1_val (s:List UInt8) (he:(cf s).e=0):((cf s).k=2→0≤decZ (cf s).t∧inR (decZ (cf s).t)=true)∧((cf s).k=3→(cf s).t.length≤64):=by
 unfold cf at he ⊢
 by_cases h1:dx (s.getD 0 0)=true
 · rw [if_pos h1]
   exact ⟨fun h=>(by cases h),fun h=>(by cases h)⟩
 rw [if_neg h1] at he ⊢
 by_cases h2:be (s.getD 0 0)=true
 · rw [if_pos h2] at he ⊢
   by_cases h3:fY s (bO be s)
   · rw [if_pos h3] at he; cases he
   · rw [if_neg h3]
     refine ⟨fun _=>?_,fun h=>(by cases h)⟩
     obtain ⟨n,hn⟩:=((ir h2).2 h3).1
     have hne:s.take (bO be s)≠[]:=fun e=>by
      have h1:=run_pos h2
      have h5:=ia be s
      have h4:(s.take (bO be s)).length=0:=by rw [e]; rfl
      rw [List.length_take] at h4; omega
     have hp:=p8 (vL s) hne
     have hd:decZ (s.take (bO be s))=n:=by unfold decZ; rw [hn]
     show 0≤decZ (s.take (bO be s))∧_
     rw [hd]
     rw [hp] at hn
     split at hn
     · rename_i hl
       have hn:((fy 0 (s.take (bO be s)):Nat):Int)=n:=by cases hn; rfl
       rw [gL]; omega
     · cases hn
 rw [if_neg h2] at he ⊢
 by_cases h4:s.getD 0 0=39
 · rw [if_pos h4] at he ⊢
   cases hq:quo (s.drop 1) with
   | none=>simp only [hq] at he; cases he
   | some r =>
    simp only [hq] at he ⊢
    by_cases h5:64 < r.1.length
    · rw [if_pos h5] at he; cases he
    · rw [if_neg h5]
      exact ⟨fun h=>(by cases h),fun _=>by simp only; omega⟩
 rw [if_neg h4] at he ⊢
 by_cases h6:fx s=0
 · rw [if_pos h6] at he; cases he
 · rw [if_neg h6]
   exact ⟨fun h=>(by cases h),fun h=>(by cases h)⟩
def TV (ts:List Tok):Prop:=∀ t ∈ ts,TokV t
theorem lexR_val (f:Nat):∀ (a:Nat) (r:List UInt8) (ts:List Tok),ml f a r=.ok ts→TV ts:=by
 induction f with
 | zero=>intro a r ts h; cases h
 | succ f ih =>
  intro a r ts h
  cases r with
  | nil =>
   cases h
   exact fun t ht=>by obtain rfl:=List.mem_singleton.1 ht; exact ⟨fun h=>(by cases h),fun h=>(by cases h)⟩
  | cons c l =>
   unfold ml at h
   split at h
   · cases h
   · rename_i he
     obtain ⟨h2,h3⟩:=tok1_val (c::l) (Decidable.not_not.1 he)
     cases hx:ml f (a+(cf (c::l)).n+gap ((c::l).drop (cf (c::l)).n)) (((c::l).drop (cf (c::l)).n).drop (gap ((c::l).drop (cf (c::l)).n))) with
     | error e=>rw [hx] at h; cases h
     | ok ts' =>
      rw [hx] at h
      cases h
      intro t ht
      rcases List.mem_cons.1 ht with rfl | ht
      · exact ⟨h2,h3⟩
      · exact ih _ _ _ hx t ht
theorem lex_val {s:List UInt8} {ts:List Tok} (h:gz s=.ok ts):TV ts:=lexR_val _ _ _ _ (rj h).2
theorem TV.suf {ts us:List Tok} (h:TV ts) (k:us <:+ ts):TV us:=fun t ht=>h t (k.subset ht)
theorem TV.drop {ts:List Tok} (h:TV ts) (n:Nat):TV (ts.drop n):=h.suf (List.drop_suffix n ts)
theorem TV.cuts {ts us:List Tok} (h:TV ts) (k:Cuts ts us):TV us:=h.suf k.1
theorem TV.hd {ts:List Tok} (h:TV ts) (hg:Good ts):TokV (hd ts):=by
 cases ts with
 | nil=>exact hg.elim
 | cons t l=>exact h t List.mem_cons_self
theorem txt_mono {a b:Int} (h:a≤b) (e:Ex):(e.txt a).2≤(e.txt b).2:=by
 unfold Ex.txt fZ
 simp only
 by_cases h1:lvl e.o < a
 · rw [if_pos h1,if_pos (by omega)]; exact Nat.le_refl _
 · rw [if_neg h1]
   split
   · exact Nat.le_succ _
   · exact Nat.le_refl _
theorem yq (e:Ex) (a:Int):(e.txt a).2≤(e.txt 1).2+1:=by
 rw [cV (low:=1) (by have:=lvl_pos e.o; omega)]
 unfold Ex.txt fZ
 simp only
 split
 · exact Nat.le_refl _
 · exact Nat.le_succ _
structure EP (lv d:Nat) (e:Ex):Prop where
 may:e.may=true
 ok:e.ok
 dep:d+(e.txt (lv:Int)).2≤24
theorem EP.down {lv lv' d:Nat} {e:Ex} (h:EP lv' d e) (hl:lv≤lv'):EP lv d e:=⟨h.may,h.ok,by have:=txt_mono (a:=lv) (b:=lv') (by omega) e; have:=h.dep; omega⟩
theorem may_bin {o:Int} {a b:Ex} (ho:8≤o∧o≤21) (ha:a.may=true) (hb:b.may=true):(bin o a b).may=true:=by
 unfold bin
 rw [Ex.may,if_neg (by omega),if_neg (by omega),if_neg (by omega),Bool.and_eq_true,decide_eq_true_eq,Exs.may_iff]
 refine ⟨⟨?_,rfl,rfl,rfl,rfl⟩,by simp [ha,hb]⟩
 unfold arity; rw [if_neg (by omega)]; rfl
theorem uY {o:Int} {a:Ex} (ho:4≤o∧o≤7) (ha:a.may=true):(un o a).may=true:=by
 unfold un
 rw [Ex.may,if_neg (by omega),if_neg (by omega),if_neg (by omega),Bool.and_eq_true,decide_eq_true_eq,Exs.may_iff]
 refine ⟨⟨?_,rfl,rfl,rfl,rfl⟩,by simp [ha]⟩
 unfold arity; rw [if_pos (by omega)]; rfl
theorem ok_bin {o:Int} {a b:Ex} (ho:0≤o∧o≤21) (ha:a.ok) (hb:b.ok):(bin o a b).ok:=⟨by omega,by simp [Val.zero,Val.ok],by omega,ha,hb,trivial⟩
theorem ok_un {o:Int} {a:Ex} (ho:0≤o∧o≤21) (ha:a.ok):(un o a).ok:=⟨by omega,by simp [Val.zero,Val.ok],by omega,ha,trivial⟩
theorem bin_o (o:Int) (a b:Ex):(bin o a b).o=o:=rfl
theorem EP.bin {o:Int} {a b:Ex} {lv d:Nat} (ho:8≤o∧o≤21) (hl:lvl o=(lv:Int)) (ha:EP (if lv=4 then 5 else lv) d a) (hb:EP (lv+1) d b):EP lv d (bin o a b):=by
 refine ⟨may_bin ho ha.may hb.may,ok_bin (by omega) ha.ok hb.ok, ?_⟩
 rw [cV (by rw [bin_o]; omega),qt a b o ho.1]
 have h1:=ha.dep
 have h2:=hb.dep
 rw [hl]
 have e1:((if lv=4 then 5 else lv:Nat):Int)=if (lv:Int)=4 then 5 else (lv:Int):=by
  by_cases h:lv=4
  · rw [if_pos h,if_pos (by omega)]; rfl
  · rw [if_neg h,if_neg (by omega)]
 rw [e1] at h1
 have e2:((lv+1:Nat):Int)=(lv:Int)+1:=by omega
 rw [e2] at h2
 show d+max _ _≤24
 omega
def jQ (l:List Opr) (lv:Nat):Prop:=∀ x ∈ l,(8≤x.a∧x.a≤21)∧lvl x.a=(lv:Int)
theorem tG {l:List Opr} {lv:Nat} (hl:jQ l lv) {ts:List Tok} {o:Int} (h:findO l ts=some o):(8≤o∧o≤21)∧lvl o=(lv:Int):=by
 induction l with
 | nil=>cases h
 | cons x l ih =>
  unfold findO at h
  split at h
  · cases h; exact hl x List.mem_cons_self
  · exact ih (fun y hy=>hl y (List.mem_cons_of_mem _ hy)) h
theorem row1:jQ orO 1:=by unfold jQ orO; decide
theorem row2:jQ andO 2:=by unfold jQ andO; decide
theorem row4:jQ cmpO 4:=by unfold jQ cmpO; decide
theorem row5:jQ sumO 5:=by unfold jQ sumO; decide
theorem row6:jQ mulO 6:=by unfold jQ mulO; decide
def pu (one:List Tok→PX Ex) (lv d:Nat):Prop:=∀ ts,Good ts→TV ts→∀ e us,one ts=.ok (e,us)→EP lv d e
theorem tH {one:List Tok→PX Ex} {l:List Opr} {lv d:Nat} (hl:jQ l lv) (h4:lv≠4) (hk:∀ o ∈ l,o.k≠5) (ho:pu one (lv+1) d) (ht:∀ us,Good us→fG us (one us)):∀ (f:Nat) (e:Ex) (ts:List Tok),Good ts→TV ts→EP lv d e→∀ g us,iu one l f e ts=.ok (g,us)→EP lv d g
 | 0,e,ts,hg,hv,he,g,us,h=>by
  simp only [iu,Except.ok.injEq,Prod.mk.injEq] at h
  rw [← h.1]; exact he
 | f+1,e,ts,hg,hv,he,g,us,h=>by
  unfold iu at h
  cases hf:findO l ts with
  | none =>
   simp only [hf,Except.ok.injEq,Prod.mk.injEq] at h
   rw [← h.1]; exact he
  | some o =>
   simp only [hf] at h
   have g1:=dN hk hg hf
   obtain ⟨o1,o2⟩:=tG hl hf
   cases h1:one (ts.drop 1) with
   | error x=>simp only [h1] at h; cases h
   | ok r =>
    obtain ⟨x,vs⟩:=r
    simp only [h1] at h
    have c1:=(ht _ g1 x vs h1).1
    have hx:=ho _ g1 (hv.drop 1) x vs h1
    exact tH hl h4 hk ho ht f _ vs c1.2 ((hv.drop 1).cuts c1) (EP.bin o1 o2 (by rw [if_neg h4]; exact he) hx) g us h
theorem mD {one:List Tok→PX Ex} {l:List Opr} {lv d:Nat} (hl:jQ l lv) (h4:lv≠4) (hk:∀ o ∈ l,o.k≠5) (ho:pu one (lv+1) d) (ht:∀ us,Good us→fG us (one us)):pu (ib one l) lv d:=fun ts hg hv g us h=>by
 unfold ib at h
 cases h1:one ts with
 | error x=>simp only [h1] at h; cases h
 | ok r =>
  obtain ⟨x,vs⟩:=r
  simp only [h1] at h
  have c1:=(ht _ hg x vs h1).1
  exact tH hl h4 hk ho ht _ x vs c1.2 (hv.cuts c1) ((ho _ hg hv x vs h1).down (by omega)) g us h
theorem rL {o:Int} {r:PX Ex} {e:Ex} {us:List Tok} (h:unP o r=.ok (e,us)):∃ a,r=.ok (a,us)∧e=un o a:=by
 cases r with
 | error x=>cases h
 | ok x=>obtain ⟨a,vs⟩:=x; simp only [unP,Except.ok.injEq,Prod.mk.injEq] at h; exact ⟨a,by rw [h.2],h.1.symm⟩
theorem yu {r:PX Ex} {e:Ex} {us:List Tok} (h:lT r=.ok (e,us)):∃ vs,r=.ok (e,vs):=by
 cases r with
 | error x=>cases h
 | ok x =>
  obtain ⟨a,vs⟩:=x
  simp only [lT] at h
  split at h
  · simp only [Except.ok.injEq,Prod.mk.injEq] at h; exact ⟨vs,by rw [h.1]⟩
  · cases h
theorem bX {ts us:List Tok} {n:List UInt8} (h:bC ts=.ok (n,us)):nameOk n=true:=by
 unfold bC at h
 split at h
 · rename_i hn
   simp only [Except.ok.injEq,Prod.mk.injEq] at h
   rw [← h.1]; exact (Bool.and_eq_true_iff.1 hn).2
 · cases h
theorem EP.cst {v:Val} {d:Nat} (hd_:d≤24) (hm:WK.may v=true) (h0:v.k=1→0≤v.n) (ho:v.ok):EP 8 d (cst v):=by
 refine ⟨?_,⟨by omega,ho,by omega,trivial⟩,by rw [cV (show ¬ lvl (1:Int) < ((8:Nat):Int) by decide)]; exact hd_⟩
 unfold WK.cst
 rw [Ex.may,if_pos rfl,Bool.and_eq_true,Bool.and_eq_true,hm]
 refine ⟨by simp [bareX],rfl, ?_⟩
 by_cases hk:v.k=1
 · simp [h0 hk]
 · simp [hk]
theorem EP.nam {t n:List UInt8} {d:Nat} (hd_:d≤24) (hn:nameOk n=true) (ht:t=[]∨nameOk t=true):EP 8 d (.mk 2 Val.zero t n 0 []):=by
 refine ⟨?_,⟨by omega,by simp [Val.zero,Val.ok],by omega,trivial⟩,by rw [cV (show ¬ lvl (2:Int) < ((8:Nat):Int) by decide),c_nam]; exact hd_⟩
 rw [Ex.may,if_neg (by decide),if_pos rfl,Bool.and_eq_true,Bool.and_eq_true,hn,Bool.or_eq_true,decide_eq_true_eq]
 exact ⟨⟨rfl,ht⟩,by simp [bareX]⟩
theorem refP_may {d:Nat} (hd_:d≤24):pu j4 8 d:=fun ts hg hv e us h=>by
 unfold j4 at h
 cases h1:bC ts with
 | error x=>simp only [h1] at h; cases h
 | ok r =>
  obtain ⟨n,vs⟩:=r
  simp only [h1] at h
  split at h
  · cases h2:bC (vs.drop 1) with
    | error x=>simp only [h2] at h; cases h
    | ok r =>
     obtain ⟨m,zs⟩:=r
     simp only [h2,Except.ok.injEq,Prod.mk.injEq] at h
     rw [← h.1]; exact EP.nam hd_ (bX h2) (.inr (bX h1))
  · simp only [Except.ok.injEq,Prod.mk.injEq] at h
    rw [← h.1]; exact EP.nam hd_ (bX h1) (.inl rfl)
theorem exP_may:∀ (f lv d:Nat),1≤lv→lv≤8→d≤24→pu (exP f lv d) lv d:=by
 intro f
 induction f with
 | zero=>intro lv d _ _ _ ts _ _ e us h; cases h
 | succ f ih =>
  intro lv d h1 h8 hd_ ts hg hv e us h
  have tk:∀ lv d us,Good us→fG us (exP f lv d us):=fun lv d us hu=>cE f lv d us hu
  unfold exP at h
  split at h
  · rename_i hl; subst hl
    exact mD row1 (by decide) (dD _ (by simp)) (ih 2 d (by omega) (by omega) hd_) (tk _ _) ts hg hv e us h
  split at h
  · rename_i hl; subst hl
    exact mD row2 (by decide) (dD _ (by simp)) (ih 3 d (by omega) (by omega) hd_) (tk _ _) ts hg hv e us h
  split at h
  · rename_i hl; subst hl
    split at h
    · rename_i hn
      split at h
      · cases h
      · rename_i hdp
        obtain ⟨a,ha,rfl⟩:=rL h
        have g1:=(Cuts.refl hg).step (by rw [fE hn]; decide)
        have hp:=ih 3 (d+1) (by omega) (by omega) (by omega) _ g1.2 (hv.drop 1) a us ha
        refine ⟨uY (by decide) hp.may,ok_un (by decide) hp.ok, ?_⟩
        rw [cV (show ¬ lvl (5:Int) < ((3:Nat):Int) by decide),s5 a]
        have:=hp.dep
        simp only at this ⊢
        have e3:((3:Nat):Int)=3:=rfl
        rw [e3] at this; omega
    · exact (ih 4 d (by omega) (by omega) hd_ ts hg hv e us h).down (by omega)
  split at h
  · rename_i hl; subst hl
    cases h2:exP f 5 d ts with
    | error x=>simp only [h2] at h; cases h
    | ok r =>
     obtain ⟨a,vs⟩:=r
     simp only [h2] at h
     have ha:=ih 5 d (by omega) (by omega) hd_ ts hg hv a vs h2
     have c1:=(tk 5 d ts hg a vs h2).1
     have hv1:=hv.cuts c1
     have nul:∀ o:Int,o=6∨o=7→EP 4 d (un o a):=fun o ho=>by
      refine ⟨uY (by omega) ha.may,ok_un (by omega) ha.ok, ?_⟩
      have:=ha.dep
      have e5:((5:Nat):Int)=5:=rfl
      rw [e5] at this
      rcases ho with rfl | rfl
      · rw [cV (show ¬ lvl (6:Int) < ((4:Nat):Int) by decide),s7 a]; exact this
      · rw [cV (show ¬ lvl (7:Int) < ((4:Nat):Int) by decide),oT a]; exact this
     unfold iX at h
     cases hf:findO cmpO vs with
     | some o =>
      simp only [hf] at h
      have g1:=dN (dD cmpO (by simp)) c1.2 hf
      obtain ⟨o1,o2⟩:=tG row4 hf
      cases h3:exP f 5 d (vs.drop 1) with
      | error x=>simp only [h3] at h; cases h
      | ok r =>
       obtain ⟨b,zs⟩:=r
       simp only [h3,Except.ok.injEq,Prod.mk.injEq] at h
       rw [← h.1]
       exact EP.bin o1 o2 ha (ih 5 d (by omega) (by omega) hd_ _ g1 (hv1.drop 1) b zs h3)
     | none =>
      simp only [hf] at h
      split at h
      · split at h
        · split at h
          · simp only [Except.ok.injEq,Prod.mk.injEq] at h
            rw [← h.1]; exact nul 7 (.inr rfl)
          · cases h
        · split at h
          · simp only [Except.ok.injEq,Prod.mk.injEq] at h
            rw [← h.1]; exact nul 6 (.inl rfl)
          · cases h
      · simp only [Except.ok.injEq,Prod.mk.injEq] at h
        rw [← h.1]; exact ha.down (by omega)
  split at h
  · rename_i hl; subst hl
    exact mD row5 (by decide) (dD _ (by simp)) (ih 6 d (by omega) (by omega) hd_) (tk _ _) ts hg hv e us h
  split at h
  · rename_i hl; subst hl
    exact mD row6 (by decide) (dD _ (by simp)) (ih 7 d (by omega) (by omega) hd_) (tk _ _) ts hg hv e us h
  split at h
  · rename_i hl; subst hl
    split at h
    · rename_i hn
      split at h
      · cases h
      · rename_i hdp
        obtain ⟨a,ha,rfl⟩:=rL h
        have g1:=(Cuts.refl hg).step (by rw [fE hn]; decide)
        have hp:=ih 7 (d+1) (by omega) (by omega) (by omega) _ g1.2 (hv.drop 1) a us ha
        refine ⟨uY (by decide) hp.may,ok_un (by decide) hp.ok, ?_⟩
        rw [cV (show ¬ lvl (4:Int) < ((7:Nat):Int) by decide),s6 a]
        have:=hp.dep
        have e3:((7:Nat):Int)=7:=rfl
        rw [e3] at this
        simp only
        omega
    · exact (ih 8 d (by omega) (by omega) hd_ ts hg hv e us h).down (by omega)
  · have hl:lv=8:=by omega
    subst hl
    unfold dy at h
    have fin:∀ v:Val,WK.may v=true→(v.k=1→0≤v.n)→v.ok→(Except.ok (WK.cst v,ts.drop 1):PX Ex)=.ok (e,us)→EP 8 d e:=fun v h1 h2 h3 h=>by
     simp only [Except.ok.injEq,Prod.mk.injEq] at h
     rw [← h.1]; exact EP.cst hd_ h1 h2 h3
    have hx:=hv.hd hg
    split at h
    · rename_i hk
      have hn:=hx.num hk
      exact fin _ rfl (fun _=>hn.1) ⟨by simp only; omega,gL.1 hn.2⟩ h
    split at h
    · rename_i hk
      have hn:=hx.txt hk
      exact fin _ (by unfold WK.may; simpa using hn) (fun h=>by cases h) ⟨by simp only; omega,by simp only; omega⟩ h
    split at h
    · exact fin _ rfl (fun h=>by cases h) ⟨by decide,by decide⟩ h
    split at h
    · exact fin _ rfl (fun h=>by cases h) ⟨by decide,by decide⟩ h
    split at h
    · exact fin _ rfl (fun h=>by cases h) ⟨by decide,by decide⟩ h
    split at h
    · rename_i hk
      split at h
      · cases h
      · rename_i hdp
        obtain ⟨zs,hz⟩:=yu h
        have g1:=(Cuts.refl hg).step (by rw [fE hk]; decide)
        have hp:=ih 1 (d+1) (by omega) (by omega) (by omega) _ g1.2 (hv.drop 1) e zs hz
        refine ⟨hp.may,hp.ok, ?_⟩
        have h1:=hp.dep
        have h2:=yq e ((8:Nat):Int)
        have e3:((1:Nat):Int)=1:=rfl
        rw [e3] at h1; omega
    · exact refP_may hd_ ts hg hv e us h
theorem cO {n:List UInt8} (h:nameOk n=true):n.length≤24:=by
 have h1:=jN h
 unfold il at h1
 simp only [Bool.and_eq_true,decide_eq_true_eq] at h1
 exact h1.2.1
theorem size_b (o:Int) (a b:Ex):(bin o a b).size=a.size+b.size+1:=by
 unfold bin
 simp only [Ex.size,Exs.size,Val.zero,List.length_nil]<;>omega
theorem rM (o:Int) (a:Ex):(un o a).size=a.size+1:=by
 unfold un
 simp only [Ex.size,Exs.size,Val.zero,List.length_nil]<;>omega
theorem size_c (v:Val):(cst v).size=v.s.length+1:=by
 unfold cst
 simp only [Ex.size,Exs.size,List.length_nil]<;>omega
theorem size_n (t n:List UInt8):(Ex.mk 2 Val.zero t n 0 []).size=t.length+n.length+1:=by
 simp only [Ex.size,Exs.size,Val.zero,List.length_nil]<;>omega
def rP (one:List Tok→PX Ex):Prop:=∀ ts,Good ts→TV ts→∀ e us,one ts=.ok (e,us)→e.size+100 * us.length≤100 * ts.length
theorem n6 {ts:List Tok} (h:Good ts):(ts.drop 1).length+1=ts.length:=by have:=h.ne; rw [List.length_drop]; omega
theorem qL {one:List Tok→PX Ex} {l:List Opr} (hk:∀ o ∈ l,o.k≠5) (ho:rP one) (ht:∀ us,Good us→fG us (one us)):∀ (f:Nat) (e:Ex) (ts:List Tok),Good ts→TV ts→∀ g us,iu one l f e ts=.ok (g,us)→g.size+100 * us.length≤e.size+100 * ts.length
 | 0,e,ts,hg,hv,g,us,h=>by
  simp only [iu,Except.ok.injEq,Prod.mk.injEq] at h
  rw [← h.1, ← h.2]; exact Nat.le_refl _
 | f+1,e,ts,hg,hv,g,us,h=>by
  unfold iu at h
  cases hf:findO l ts with
  | none =>
   simp only [hf,Except.ok.injEq,Prod.mk.injEq] at h
   rw [← h.1, ← h.2]; exact Nat.le_refl _
  | some o =>
   simp only [hf] at h
   have g1:=dN hk hg hf
   have h0:=n6 hg
   cases h1:one (ts.drop 1) with
   | error x=>simp only [h1] at h; cases h
   | ok r =>
    obtain ⟨x,vs⟩:=r
    simp only [h1] at h
    have c1:=(ht _ g1 x vs h1).1
    have hx:=ho _ g1 (hv.drop 1) x vs h1
    have:=qL hk ho ht f _ vs c1.2 ((hv.drop 1).cuts c1) g us h
    rw [size_b] at this
    omega
theorem lA {one:List Tok→PX Ex} {l:List Opr} (hk:∀ o ∈ l,o.k≠5) (ho:rP one) (ht:∀ us,Good us→fG us (one us)):rP (ib one l):=fun ts hg hv g us h=>by
 unfold ib at h
 cases h1:one ts with
 | error x=>simp only [h1] at h; cases h
 | ok r =>
  obtain ⟨x,vs⟩:=r
  simp only [h1] at h
  have c1:=(ht _ hg x vs h1).1
  have:=ho _ hg hv x vs h1
  have:=qL hk ho ht _ x vs c1.2 (hv.cuts c1) g us h
  omega
theorem exP_size:∀ (f lv d:Nat),rP (exP f lv d):=by
 intro f
 induction f with
 | zero=>intro lv d ts _ _ e us h; cases h
 | succ f ih =>
  intro lv d ts hg hv e us h
  have tk:∀ lv d us,Good us→fG us (exP f lv d us):=fun lv d us hu=>cE f lv d us hu
  have h0:=n6 hg
  unfold exP at h
  split at h
  · exact lA (dD _ (by simp)) (ih _ _) (tk _ _) ts hg hv e us h
  split at h
  · exact lA (dD _ (by simp)) (ih _ _) (tk _ _) ts hg hv e us h
  split at h
  · split at h
    · rename_i hn
      split at h
      · cases h
      · obtain ⟨a,ha,rfl⟩:=rL h
        have g1:=(Cuts.refl hg).step (by rw [fE hn]; decide)
        have:=ih _ _ _ g1.2 (hv.drop 1) a us ha
        rw [rM]; omega
    · exact ih _ _ ts hg hv e us h
  split at h
  · cases h2:exP f 5 d ts with
    | error x=>simp only [h2] at h; cases h
    | ok r =>
     obtain ⟨a,vs⟩:=r
     simp only [h2] at h
     have ha:=ih _ _ ts hg hv a vs h2
     have c1:=(tk 5 d ts hg a vs h2).1
     have hv1:=hv.cuts c1
     have h3:=n6 c1.2
     unfold iX at h
     cases hf:findO cmpO vs with
     | some o =>
      simp only [hf] at h
      have g1:=dN (dD cmpO (by simp)) c1.2 hf
      cases h4:exP f 5 d (vs.drop 1) with
      | error x=>simp only [h4] at h; cases h
      | ok r =>
       obtain ⟨b,zs⟩:=r
       simp only [h4,Except.ok.injEq,Prod.mk.injEq] at h
       have:=ih _ _ _ g1 (hv1.drop 1) b zs h4
       rw [← h.1, ← h.2,size_b]; omega
     | none =>
      simp only [hf] at h
      have hl2:(vs.drop 2).length≤(vs.drop 1).length:=by rw [List.length_drop,List.length_drop]; omega
      have hl3:(vs.drop 3).length≤(vs.drop 1).length:=by rw [List.length_drop,List.length_drop]; omega
      split at h
      · split at h
        · split at h
          · simp only [Except.ok.injEq,Prod.mk.injEq] at h
            rw [← h.1, ← h.2,rM]; omega
          · cases h
        · split at h
          · simp only [Except.ok.injEq,Prod.mk.injEq] at h
            rw [← h.1, ← h.2,rM]; omega
          · cases h
      · simp only [Except.ok.injEq,Prod.mk.injEq] at h
        rw [← h.1, ← h.2]; exact ha
  split at h
  · exact lA (dD _ (by simp)) (ih _ _) (tk _ _) ts hg hv e us h
  split at h
  · exact lA (dD _ (by simp)) (ih _ _) (tk _ _) ts hg hv e us h
  split at h
  · split at h
    · rename_i hn
      split at h
      · cases h
      · obtain ⟨a,ha,rfl⟩:=rL h
        have g1:=(Cuts.refl hg).step (by rw [fE hn]; decide)
        have:=ih _ _ _ g1.2 (hv.drop 1) a us ha
        rw [rM]; omega
    · exact ih _ _ ts hg hv e us h
  · unfold dy at h
    have fin:∀ v:Val,v.s.length≤64→(Except.ok (WK.cst v,ts.drop 1):PX Ex)=.ok (e,us)→e.size+100 * us.length≤100 * ts.length:=fun v h1 h=>by
     simp only [Except.ok.injEq,Prod.mk.injEq] at h
     rw [← h.1, ← h.2,size_c]; omega
    have hx:=hv.hd hg
    split at h
    · exact fin _ (by simp) h
    split at h
    · rename_i hk; exact fin _ (hx.txt hk) h
    split at h
    · exact fin _ (by simp [Val.zero]) h
    split at h
    · exact fin _ (by simp) h
    split at h
    · exact fin _ (by simp) h
    split at h
    · rename_i hk
      split at h
      · cases h
      · have g1:=(Cuts.refl hg).step (by rw [fE hk]; decide)
        cases hz:exP f 1 (d+1) (ts.drop 1) with
        | error x=>rw [hz] at h; cases h
        | ok r =>
         obtain ⟨a,vs⟩:=r
         have:=ih _ _ _ g1.2 (hv.drop 1) a vs hz
         rw [hz] at h
         simp only [lT] at h
         split at h
         · simp only [Except.ok.injEq,Prod.mk.injEq] at h
           rw [← h.1, ← h.2,List.length_drop]; omega
         · cases h
    · unfold j4 at h
      cases h1:bC ts with
      | error x=>simp only [h1] at h; cases h
      | ok r =>
       obtain ⟨n,vs⟩:=r
       simp only [h1] at h
       obtain ⟨c1,hl1,_⟩:=gS hg h1
       have n1:=cO (bX h1)
       split at h
       · rename_i hdot
         have c2:=aH c1 (by decide) hdot
         have h5:=n6 c1.2
         cases h2:bC (vs.drop 1) with
         | error x=>simp only [h2] at h; cases h
         | ok r =>
          obtain ⟨m,zs⟩:=r
          simp only [h2,Except.ok.injEq,Prod.mk.injEq] at h
          obtain ⟨_,hl2,_⟩:=gS c2.2 h2
          have n2:=cO (bX h2)
          rw [← h.1, ← h.2,size_n]; omega
       · simp only [Except.ok.injEq,Prod.mk.injEq] at h
         rw [← h.1, ← h.2,size_n]
         simp only [List.length_nil]; omega
end Go.WK
namespace Go.WK
open Go.RowKit Lib
theorem tI {α:Type} {G:α→Txt} {n:Nat}:∀ {l:List α},(∀ a ∈ l,(G a).2≤n)→(nD G l).2≤n
 | [],_=>Nat.zero_le _
 | a::_,h=>bA.2 ⟨Nat.zero_le _,bA.2 ⟨h a List.mem_cons_self,tI (fun b hb=>h b (List.mem_cons_of_mem _ hb))⟩⟩
theorem iT {α:Type} {G:α→Txt} {n:Nat} {l:List α} (h:∀ a ∈ l,(G a).2≤n):(gY G l).2≤n:=by
 cases l with
 | nil=>exact Nat.zero_le _
 | cons a l=>exact bA.2 ⟨h a List.mem_cons_self,tI (fun b hb=>h b (List.mem_cons_of_mem _ hb))⟩
theorem wJ {α:Type} {G:α→Txt} {n:Nat}:∀ {l:List α},(∀ a ∈ l,(G a).2≤n)→(seqT G l).2≤n
 | [],_=>Nat.zero_le _
 | a::_,h=>bA.2 ⟨h a List.mem_cons_self,wJ (fun b hb=>h b (List.mem_cons_of_mem _ hb))⟩
theorem kf {α:Type} {z:α} {l:List α} {p:α→Prop} (h:∀ a ∈ l,p a):∀ i,i < l.length→p (l.getD i z):=fun i hi=>by
 rw [show l.getD i z=l[i] by simp [List.getD,hi]]; exact h _ (List.getElem_mem hi)
def TB (ts:List Tok):Prop:=TV ts∧ts.length≤4097
theorem TB.suf {ts us:List Tok} (h:TB ts) (k:us <:+ ts):TB us:=⟨h.1.suf k,Nat.le_trans k.length_le h.2⟩
theorem TB.drop {ts:List Tok} (h:TB ts) (n:Nat):TB (ts.drop n):=h.suf (List.drop_suffix n ts)
theorem TB.cuts {ts us:List Tok} (h:TB ts) (k:Cuts ts us):TB us:=h.suf k.1
theorem TB.hd {ts:List Tok} (h:TB ts) (hg:Good ts):TokV (hd ts):=h.1.hd hg
theorem lex_tb {s:List UInt8} {ts:List Tok} (h:gz s=.ok ts):TB ts:=⟨lex_val h,(oR h).2.2⟩
theorem uZ {α:Type} {f:α→Nat} {B:Nat}:∀ {l:List α},(∀ a ∈ l,f a≤B)→dS f l≤l.length * B
 | [],_=>Nat.zero_le _
 | a::l,h=>by
  have h1:=h a List.mem_cons_self
  have h2:=uZ (l:=l) (fun b hb=>h b (List.mem_cons_of_mem _ hb))
  simp only [dS,List.length_cons,Nat.add_mul,Nat.one_mul]; omega
theorem l9 {α:Type} {f:α→Nat} {B:Nat} {l:List α} (h:∀ a ∈ l,f a≤B) (hl:l.length≤16):dS f l≤16 * B:=Nat.le_trans (uZ h) (Nat.mul_le_mul_right B hl)
def More {α:Type} (one:List α→List Tok→PT (List α)) (p:α→Prop):Prop:=∀ acc ts acc' us,Good ts→TB ts→one acc ts=.ok (acc',us)→Cuts ts us∧∃ a,acc'=acc++[a]∧p a
theorem qM {α:Type} {can:List Tok→Bool} {one:List α→List Tok→PT (List α)} {p:α→Prop} (ho:More one p):∀ (f n:Nat) (acc l:List α) (ts us:List Tok),n+f=17→n≤16→acc.length=n→(∀ a ∈ acc,p a)→Good ts→TB ts→cM can one f n acc ts=.ok (l,us)→(∀ a ∈ l,p a)∧(1≤l.length∧l.length≤16)∧Cuts ts us
 | 0,n,acc,l,ts,us,h1,h2,h3,h4,hg,hv,h=>by omega
 | f+1,n,acc,l,ts,us,h1,h2,h3,h4,hg,hv,h=>by
  rw [cM] at h
  by_cases hh:n=0∨atT 4 [44] ts=true
  · rw [if_pos hh] at h
    have c1:Cuts ts (if n=0 then ts else ts.drop 1):=by
     split
     · exact Cuts.refl hg
     · rename_i hn
       exact aH (Cuts.refl hg) (by decide) (hh.resolve_left hn)
    generalize (if n=0 then ts else ts.drop 1)=V at h c1
    by_cases h5:can V=true
    · rw [if_pos h5] at h
      by_cases h6:n=16
      · rw [if_pos h6] at h; cases h
      · rw [if_neg h6] at h
        cases h7:one acc V with
        | error x=>simp only [h7] at h; cases h
        | ok r =>
         obtain ⟨s2,vs⟩:=r
         simp only [h7] at h
         obtain ⟨c2,a,rfl,pa⟩:=ho _ _ _ _ c1.2 (hv.cuts c1) h7
         obtain ⟨k1,k2,k3⟩:=qM ho f (n+1) (acc++[a]) l vs us (by omega) (by omega) (by simp [h3]) (fun b hb=>by
          rcases List.mem_append.1 hb with hb | hb
          · exact h4 b hb
          · rw [List.mem_singleton.1 hb]; exact pa) c2.2 ((hv.cuts c1).cuts c2) h
         exact ⟨k1,k2,(c1.trans c2).trans k3⟩
    · rw [if_neg h5] at h; cases h
  · rw [if_neg hh] at h
    simp only [Except.ok.injEq,Prod.mk.injEq] at h
    obtain ⟨rfl,rfl⟩:=h
    have:n≠0:=fun e=>hh (.inl e)
    exact ⟨h4,⟨by omega,by omega⟩,Cuts.refl hg⟩
theorem kg {α:Type} {can:List Tok→Bool} {one:List α→List Tok→PT (List α)} {p:α→Prop} (ho:More one p) {l:List α} {ts us:List Tok} (hg:Good ts) (hv:TB ts) (h:cM can one 17 0 [] ts=.ok (l,us)):(∀ a ∈ l,p a)∧(1≤l.length∧l.length≤16)∧Cuts ts us :=
 qM ho 17 0 [] l ts us rfl (by omega) rfl (fun a ha=>by cases ha) hg hv h
theorem word_ok {s:List UInt8} {ts us:List Tok} (h:bH s ts=.ok us):atT 1 s ts=true∧us=ts.drop 1:=by
 unfold bH at h
 split at h
 · rename_i h0; cases h; exact ⟨h0,rfl⟩
 · cases h
theorem sign_ok {s:List UInt8} {ts us:List Tok} (h:fz s ts=.ok us):atT 4 s ts=true∧us=ts.drop 1:=by
 unfold fz at h
 split at h
 · rename_i h0; cases h; exact ⟨h0,rfl⟩
 · cases h
theorem kh {s:List UInt8} {ts us:List Tok} (hg:Good ts) (h:bH s ts=.ok us):Cuts ts us:=by
 obtain ⟨h1,rfl⟩:=word_ok h; exact aH (Cuts.refl hg) (by decide) h1
theorem u9 {s:List UInt8} {ts us:List Tok} (hg:Good ts) (h:fz s ts=.ok us):Cuts ts us:=by
 obtain ⟨h1,rfl⟩:=sign_ok h; exact aH (Cuts.refl hg) (by decide) h1
theorem rQ {α:Type} {can:List Tok→Bool} {one:List α→List Tok→PT (List α)} {p:α→Prop} (ho:More one p) {l:List α} {ts us:List Tok} (hg:Good ts) (hv:TB ts) (h:inP can one ts=.ok (l,us)):(∀ a ∈ l,p a)∧(1≤l.length∧l.length≤16)∧Cuts ts us:=by
 unfold inP at h
 cases h1:fz [40] ts with
 | error x=>simp only [h1] at h; cases h
 | ok t1 =>
  simp only [h1] at h
  have c1:=u9 hg h1
  cases h2:cM can one 17 0 [] t1 with
  | error x=>simp only [h2] at h; cases h
  | ok r =>
   obtain ⟨m,t2⟩:=r
   simp only [h2] at h
   obtain ⟨k1,k2,k3⟩:=kg ho c1.2 (hv.cuts c1) h2
   cases h3:fz [41] t2 with
   | error x=>simp only [h3] at h; cases h
   | ok t3 =>
    simp only [h3,Except.ok.injEq,Prod.mk.injEq] at h
    obtain ⟨rfl,rfl⟩:=h
    exact ⟨k1,k2,(c1.trans k3).trans (u9 k3.2 h3)⟩
theorem wK {ts us:List Tok} {n:List UInt8} (h:asP ts=.ok (n,us)):n=[]∨nameOk n=true:=by
 unfold asP at h
 split at h
 · exact .inr (bX h)
 · simp only [Except.ok.injEq,Prod.mk.injEq] at h; exact .inl h.1.symm
structure E1 (e:Ex):Prop extends EP 1 0 e where
 sz:e.size≤409700
theorem E1.d {e:Ex} (h:E1 e):(e.txt 1).2≤24:=by
 have:=h.dep
 have e3:((1:Nat):Int)=1:=rfl
 rw [e3] at this; omega
theorem ex_1 {f:Nat} {ts us:List Tok} {e:Ex} (hg:Good ts) (hv:TB ts) (h:exP f 1 0 ts=.ok (e,us)):E1 e∧Cuts ts us :=
 ⟨⟨exP_may f 1 0 (by omega) (by omega) (by omega) ts hg hv.1 e us h,by have:=exP_size f 1 0 ts hg hv.1 e us h; have:=hv.2; omega⟩,(cE f 1 0 ts hg e us h).1⟩
theorem yv (f:Nat):More (gC f 0) (fun a=>E1 a.e∧(a.s=[]∨nameOk a.s=true)):=fun acc ts acc' us hg hv h=>by
 refine ⟨lr hg h, ?_⟩
 unfold gC at h
 cases h1:exP f 1 0 ts with
 | error x=>simp only [h1] at h; cases h
 | ok r =>
  obtain ⟨e,t1⟩:=r
  simp only [h1] at h
  cases h2:asP t1 with
  | error x=>simp only [h2] at h; cases h
  | ok r =>
   obtain ⟨n,t2⟩:=r
   simp only [h2,Except.ok.injEq,Prod.mk.injEq] at h
   exact ⟨⟨e,n⟩,h.1.symm,(ex_1 hg hv h1).1,wK h2⟩
theorem ord_more:More lU (fun a=>nameOk a.n=true):=fun acc ts acc' us hg hv h=>by
 refine ⟨mv hg h, ?_⟩
 unfold lU at h
 cases h1:bC ts with
 | error x=>simp only [h1] at h; cases h
 | ok r =>
  obtain ⟨n,t1⟩:=r
  simp only [h1,Except.ok.injEq,Prod.mk.injEq] at h
  exact ⟨_,h.1.symm,bX h1⟩
theorem yw {ts:List Tok} (h:cC ts≠0):(1≤cC ts∧cC ts≤3)∧∃ s,atT 1 s ts=true:=by
 unfold cC at h ⊢
 split
 · rename_i h0; exact ⟨by omega,_,h0⟩
 split
 · rename_i h0; exact ⟨by omega,_,h0⟩
 split
 · rename_i h0; exact ⟨by omega,_,h0⟩
 · rename_i h1 h2 h3; rw [if_neg h1,if_neg h2,if_neg h3] at h; exact absurd rfl h
theorem col_more:More lG (fun a=>mayCol a=true):=fun acc ts acc' us hg hv h=>by
 unfold lG at h
 cases h1:bC ts with
 | error x=>simp only [h1] at h; cases h
 | ok r =>
  obtain ⟨n,t1⟩:=r
  simp only [h1] at h
  have c1:=bQ hg h1
  have hn:=bX h1
  by_cases hk:cC t1=0
  · rw [if_pos hk] at h; cases h
  · rw [if_neg hk] at h
    obtain ⟨k1,s,k2⟩:=yw hk
    have c2:=aH c1 (by decide) k2
    split at h
    · rename_i h2
      have c3:=aH c2 (by decide) h2
      cases h3:bH dc ((t1.drop 1).drop 1) with
      | error x=>simp only [h3] at h; cases h
      | ok t2 =>
       simp only [h3,Except.ok.injEq,Prod.mk.injEq] at h
       obtain ⟨rfl,rfl⟩:=h
       exact ⟨c3.trans (kh c3.2 h3),_,rfl,fA.2 ⟨hn,k1⟩⟩
    · simp only [Except.ok.injEq,Prod.mk.injEq] at h
      obtain ⟨rfl,rfl⟩:=h
      exact ⟨c2,_,rfl,fA.2 ⟨hn,k1⟩⟩
theorem on_more:More onP (fun a=>nameOk a=true):=fun acc ts acc' us hg hv h=>by
 unfold onP at h
 cases h1:bC ts with
 | error x=>simp only [h1] at h; cases h
 | ok r =>
  obtain ⟨n,t1⟩:=r
  simp only [h1,Except.ok.injEq,Prod.mk.injEq] at h
  obtain ⟨rfl,rfl⟩:=h
  exact ⟨bQ hg h1,_,rfl,bX h1⟩
theorem set_more (f:Nat):More (iY f 0) (fun a=>nameOk a.n=true∧E1 a.e):=fun acc ts acc' us hg hv h=>by
 unfold iY at h
 cases h1:bC ts with
 | error x=>simp only [h1] at h; cases h
 | ok r =>
  obtain ⟨n,t1⟩:=r
  simp only [h1] at h
  have c1:=bQ hg h1
  cases h2:fz [61] t1 with
  | error x=>simp only [h2] at h; cases h
  | ok t2 =>
   simp only [h2] at h
   have c2:=c1.trans (u9 c1.2 h2)
   cases h3:exP f 1 0 t2 with
   | error x=>simp only [h3] at h; cases h
   | ok r =>
    obtain ⟨e,t3⟩:=r
    simp only [h3,Except.ok.injEq,Prod.mk.injEq] at h
    obtain ⟨rfl,rfl⟩:=h
    obtain ⟨k1,k2⟩:=ex_1 c2.2 (hv.cuts c2) h3
    exact ⟨c2.trans k2,_,rfl,bX h1,k1⟩
theorem exs_more (f:Nat):More (jr f 0) E1:=fun acc ts acc' us hg hv h=>by
 unfold jr at h
 cases h3:exP f 1 0 ts with
 | error x=>simp only [h3] at h; cases h
 | ok r =>
  obtain ⟨e,t3⟩:=r
  simp only [h3,Except.ok.injEq,Prod.mk.injEq] at h
  obtain ⟨rfl,rfl⟩:=h
  obtain ⟨k1,k2⟩:=ex_1 hg hv h3
  exact ⟨k2,_,rfl,k1⟩
def RowE (r:List Ex):Prop:=(∀ e ∈ r,E1 e)∧(1≤r.length∧r.length≤16)
theorem qN (f:Nat):∀ (k:Nat) (acc l:List (List Ex)) (ts us:List Tok),(∀ r ∈ acc,RowE r)→Good ts→TB ts→dR f 0 k acc ts=.ok (l,us)→(∀ r ∈ l,RowE r)∧Cuts ts us∧(0 < k→1≤l.length)∧acc.length≤l.length∧l.length≤acc.length+ts.length
 | 0,acc,l,ts,us,h1,hg,hv,h=>by
  simp only [dR,Except.ok.injEq,Prod.mk.injEq] at h
  obtain ⟨rfl,rfl⟩:=h
  exact ⟨h1,Cuts.refl hg,fun h=>absurd h (Nat.lt_irrefl _),Nat.le_refl _,Nat.le_add_right _ _⟩
 | k+1,acc,l,ts,us,h1,hg,hv,h=>by
  unfold dR at h
  cases h2:inP gU (jr f 0) ts with
  | error x=>simp only [h2] at h; cases h
  | ok r =>
   obtain ⟨r,t1⟩:=r
   simp only [h2] at h
   obtain ⟨k1,k2,k3⟩:=rQ (exs_more f) hg hv h2
   have hacc:∀ x ∈ acc++[r],RowE x:=fun b hb=>by
    rcases List.mem_append.1 hb with hb | hb
    · exact h1 b hb
    · rw [List.mem_singleton.1 hb]; exact ⟨k1,k2⟩
   split at h
   · rename_i h3
     have c2:=aH k3 (by decide) h3
     obtain ⟨q1,q2,q3,q4,q5⟩:=qN f k (acc++[r]) l _ us hacc c2.2 ((hv.cuts k3).drop 1) h
     have hlt:=k3.1.length_le
     have hne:=k3.2.ne
     simp only [List.length_append,List.length_singleton,List.length_drop] at q4 q5
     exact ⟨q1,c2.trans q2,fun _=>by omega,by omega,by omega⟩
   · simp only [Except.ok.injEq,Prod.mk.injEq] at h
     obtain ⟨rfl,rfl⟩:=h
     have hne:=hg.ne
     exact ⟨hacc,k3,fun _=>by simp,by simp,by simp only [List.length_append,List.length_singleton]; omega⟩
theorem tJ {ts us:List Tok} {t s:List UInt8} (h:gb ts=.ok ((t,s),us)):nameOk t=true∧(s=[]∨nameOk s=true):=by
 unfold gb at h
 cases h1:bC ts with
 | error x=>simp only [h1] at h; cases h
 | ok r =>
  obtain ⟨n,t1⟩:=r
  simp only [h1] at h
  cases h2:asP t1 with
  | error x=>simp only [h2] at h; cases h
  | ok r =>
   obtain ⟨m,t2⟩:=r
   simp only [h2,Except.ok.injEq,Prod.mk.injEq] at h
   obtain ⟨⟨rfl,rfl⟩,_⟩:=h
   exact ⟨bX h1,wK h2⟩
def SrcE (a:SrcX):Prop:=nameOk a.t=true∧(a.s=[]∨nameOk a.s=true)∧E1 a.e
theorem qO (f:Nat) (a:SrcX):∀ (k:Nat) (l m:List SrcX) (ts us:List Tok),l.length≤3→(∀ b ∈ l,SrcE b)→Good ts→TB ts→dQ f 0 k (a::l) ts=.ok (m,us)→∃ l',m=a::l'∧l'.length≤3∧∀ b ∈ l',SrcE b
 | 0,l,m,ts,us,h1,h2,hg,hv,h=>by
  simp only [dQ,Except.ok.injEq,Prod.mk.injEq] at h
  exact ⟨l,h.1.symm,h1,h2⟩
 | k+1,l,m,ts,us,h1,h2,hg,hv,h=>by
  unfold dQ at h
  split at h
  · rename_i h0
    have c1:=aH (Cuts.refl hg) (by decide) h0
    cases h3:fH f 0 (a::l) (ts.drop 1) with
    | error x=>simp only [h3] at h; cases h
    | ok r =>
     obtain ⟨l2,vs⟩:=r
     simp only [h3] at h
     have c2:=c1.trans (qn c1.2 h3)
     unfold fH at h3
     split at h3
     · cases h3
     · rename_i h4
       cases h5:gb (ts.drop 1) with
       | error x=>simp only [h5] at h3; cases h3
       | ok r =>
        obtain ⟨⟨t,s⟩,t1⟩:=r
        simp only [h5] at h3
        have hl3:l.length < 3:=by
         have:=src_nm h5
         have h6:¬ (a::l).length=4:=fun e=>h4 ⟨this,e⟩
         simp only [List.length_cons] at h6; omega
        have c3:=c1.trans (jH c1.2 h5)
        cases h6:bH onB t1 with
        | error x=>simp only [h6] at h3; cases h3
        | ok t2 =>
         simp only [h6] at h3
         have c4:=c3.trans (kh c3.2 h6)
         cases h7:exP f 1 0 t2 with
         | error x=>simp only [h7] at h3; cases h3
         | ok r =>
          obtain ⟨e,t3⟩:=r
          simp only [h7,Except.ok.injEq,Prod.mk.injEq] at h3
          obtain ⟨rfl,rfl⟩:=h3
          have he:=(ex_1 c4.2 (hv.cuts c4) h7).1
          obtain ⟨m1,m2⟩:=tJ h5
          rw [List.cons_append] at h
          refine qO f a k (l++[⟨t,s,e⟩]) m _ us (by simp; omega) (fun b hb=>?_) c2.2 (hv.cuts c2) h
          rcases List.mem_append.1 hb with hb | hb
          · exact h2 b hb
          · rw [List.mem_singleton.1 hb]; exact ⟨m1,m2,he⟩
  · simp only [Except.ok.injEq,Prod.mk.injEq] at h
    exact ⟨l,h.1.symm,h1,h2⟩
theorem from_may {f:Nat} {l:List SrcX} {ts us:List Tok} (hg:Good ts) (hv:TB ts) (h:eB f 0 ts=.ok (l,us)):l.length≤4∧(∀ i,i < l.length→mayF i (l.getD i SrcX.zero)=true)∧(∀ a ∈ l,a.e.ok)∧(upT (fun i=>dL i (l.getD i SrcX.zero)) l.length).2≤24∧dS fF l≤16 * 409800:=by
 unfold eB at h
 split at h
 · rename_i h0
   have c1:=aH (Cuts.refl hg) (by decide) h0
   cases h1:gb (ts.drop 1) with
   | error x=>simp only [h1] at h; cases h
   | ok r =>
    obtain ⟨⟨t,s⟩,vs⟩:=r
    simp only [h1] at h
    have c2:=c1.trans (jH c1.2 h1)
    obtain ⟨m1,m2⟩:=tJ h1
    obtain ⟨l',rfl,h2,h3⟩:=qO f _ 5 [] l vs us (by simp) (fun b hb=>by cases hb) c2.2 (hv.cuts c2) h
    have name0:∀ {s:List UInt8},(s=[]∨nameOk s=true)→s.length≤24:=fun h=>h.elim (fun e=>by rw [e]; simp) cO
    refine ⟨by simp; omega,fun i hi=>?_,fun b hb=>?_, ?_,l9 (fun b hb=>?_) (by simp; omega)⟩
    · cases i with
      | zero=>exact uU.2 ⟨m1,m2,(by decide:fg Ex.zero=true)⟩
      | succ i =>
       have:=kf (z:=SrcX.zero) h3 i (by simpa using hi)
       exact pm.2 ⟨this.1,this.2.1,this.2.2.may⟩
    · rcases List.mem_cons.1 hb with rfl | hb
      · exact eS
      · exact (h3 b hb).2.2.ok
    · rw [pk]
      refine bA.2 ⟨?_,wJ (fun b hb=>?_)⟩
      · unfold dL; rw [if_pos rfl,if_pos rfl]; exact bA.2 ⟨Nat.zero_le _,Nat.zero_le _⟩
      · unfold dL; rw [if_neg Nat.one_ne_zero,if_neg Nat.one_ne_zero]; exact bA.2 ⟨Nat.zero_le _,bA.2 ⟨Nat.zero_le _,(h3 b hb).2.2.d⟩⟩
    · unfold fF
      rcases List.mem_cons.1 hb with rfl | hb
      · have a1:=cO m1
        have a2:=name0 m2
        have a3:Ex.zero.size=1:=by decide
        simp only [a3]; omega
      · have a1:=cO (h3 b hb).1
        have a2:=name0 (h3 b hb).2.1
        have a3:=(h3 b hb).2.2.sz
        omega
 · simp only [Except.ok.injEq,Prod.mk.injEq] at h
   obtain ⟨rfl,rfl⟩:=h
   exact ⟨by simp,fun i hi=>(by simp at hi),fun a ha=>(by cases ha),Nat.zero_le _,Nat.zero_le _⟩
theorem nb {f:Nat} {e:Ex} {ts us:List Tok} (hg:Good ts) (hv:TB ts) (h:cN f 0 ts=.ok (e,us)):mayb e=true∧e.ok∧(cT e).2≤24∧e.size≤409700:=by
 unfold cN at h
 split at h
 · rename_i h0
   have c1:=aH (Cuts.refl hg) (by decide) h0
   have he:=(ex_1 c1.2 (hv.drop 1) h).1
   refine ⟨by unfold mayb; rw [he.may,Bool.or_true],he.ok, ?_,he.sz⟩
   unfold cT; rw [if_neg (may_o he.may)]; exact bA.2 ⟨Nat.zero_le _,he.d⟩
 · simp only [Except.ok.injEq,Prod.mk.injEq] at h
   obtain ⟨rfl,rfl⟩:=h
   exact ⟨by decide,eS,Nat.zero_le _,by decide⟩
theorem yy {b:Bool} {n:Int} {ts us:List Tok} (hg:Good ts) (hv:TB ts) (h:eW ts=.ok ((b,n),us)):0≤n∧inR n=true∧(b=true∨n=0):=by
 unfold eW at h
 split at h
 · rename_i h0
   have c1:=aH (Cuts.refl hg) (by decide) h0
   split at h
   · rename_i h2
     simp only [Except.ok.injEq,Prod.mk.injEq] at h
     obtain ⟨⟨rfl,rfl⟩,_⟩:=h
     have:=((hv.drop 1).hd c1.2).num h2
     exact ⟨this.1,this.2,.inl rfl⟩
   · cases h
 · simp only [Except.ok.injEq,Prod.mk.injEq] at h
   obtain ⟨⟨rfl,rfl⟩,_⟩:=h
   exact ⟨by omega,by decide,.inr rfl⟩
theorem yA {f:Nat} {q:QryX} {ts us:List Tok} (hg:Good ts) (hv:TB ts) (h:cP f 0 ts=.ok (q,us)):QM q∧QOk q∧(jK q).2≤24∧fQ q≤100000000:=by
 unfold cP at h
 have c0:=mX hg
 cases h1:gc f 0 (cu ts) with
 | error x=>simp only [h1] at h; cases h
 | ok r =>
  obtain ⟨its,t1⟩:=r
  simp only [h1] at h
  have i1:((atT 4 [42] (cu ts)=true∧its=[])∨(atT 4 [42] (cu ts)=false∧1≤its.length∧its.length≤16))∧(∀ a ∈ its,E1 a.e∧(a.s=[]∨nameOk a.s=true))∧Cuts (cu ts) t1:=by
   unfold gc at h1
   split at h1
   · rename_i h0
     simp only [Except.ok.injEq,Prod.mk.injEq] at h1
     obtain ⟨rfl,rfl⟩:=h1
     exact ⟨.inl ⟨h0,rfl⟩,fun a ha=>(by cases ha),aH (Cuts.refl c0.2) (by decide) h0⟩
   · rename_i h0
     obtain ⟨k1,k2,k3⟩:=kg (yv f) c0.2 (hv.cuts c0) h1
     exact ⟨.inr ⟨Bool.eq_false_iff.2 h0,k2⟩,k1,k3⟩
  obtain ⟨i1,i2,i3⟩:=i1
  have c1:=c0.trans i3
  cases h2:eB f 0 t1 with
  | error x=>simp only [h2] at h; cases h
  | ok r =>
   obtain ⟨fr,t2⟩:=r
   simp only [h2] at h
   obtain ⟨f1,f2,f3,f4,f5⟩:=from_may c1.2 (hv.cuts c1) h2
   have c2:=c1.trans (qo c1.2 h2)
   cases h3:cN f 0 t2 with
   | error x=>simp only [h3] at h; cases h
   | ok r =>
    obtain ⟨wh,t3⟩:=r
    simp only [h3] at h
    obtain ⟨w1,w2,w3,w4⟩:=nb c2.2 (hv.cuts c2) h3
    have c3:=c2.trans (iN c2.2 h3)
    cases h4:eC t3 with
    | error x=>simp only [h4] at h; cases h
    | ok r =>
     obtain ⟨os,t4⟩:=r
     simp only [h4] at h
     have c4:=c3.trans (oP c3.2 h4)
     have o1:os.length≤16∧∀ a ∈ os,nameOk a.n=true:=by
      unfold eC at h4
      split at h4
      · rename_i h0
        have d1:=aH c3 (by decide) h0
        cases h5:bH byB (t3.drop 1) with
        | error x=>simp only [h5] at h4; cases h4
        | ok t5 =>
         simp only [h5] at h4
         have d2:=d1.trans (kh d1.2 h5)
         obtain ⟨k1,k2,_⟩:=kg ord_more d2.2 (hv.cuts d2) h4
         exact ⟨k2.2,k1⟩
      · simp only [Except.ok.injEq,Prod.mk.injEq] at h4
        obtain ⟨rfl,rfl⟩:=h4
        exact ⟨by simp,fun a ha=>by cases ha⟩
     cases h5:eW t4 with
     | error x=>simp only [h5] at h; cases h
     | ok r =>
      obtain ⟨⟨li,lim⟩,t5⟩:=r
      simp only [h5,Except.ok.injEq,Prod.mk.injEq] at h
      obtain ⟨l1,l2,l3⟩:=yy c4.2 (hv.cuts c4) h5
      obtain ⟨rfl,_⟩:=h
      refine ⟨⟨w1,f1,o1.1,l1,l3,i1,fun a ha=>kX.2 ⟨(i2 a ha).1.may,(i2 a ha).2⟩,f2,o1.2⟩,⟨kf (p:=fun a:ItemX=>a.e.ok) (fun a ha=>(i2 a ha).1.ok),kf (p:=fun a:SrcX=>a.e.ok) f3,w2,l2⟩, ?_, ?_⟩
      rotate_left
      · unfold fQ
        have hi16:its.length≤16:=i1.elim (fun h=>by rw [h.2]; simp) (fun h=>h.2.2)
        have q1:dS fI its≤16 * 409800:=l9 (fun a ha=>by
         have b1:=(i2 a ha).1.sz
         have b2:a.s.length≤24:=(i2 a ha).2.elim (fun e=>by rw [e]; simp) cO
         unfold fI; omega) hi16
        have q2:dS fO os≤16 * 25:=l9 (fun a ha=>by
         have b1:=cO (o1.2 a ha)
         unfold fO; omega) o1.1
        simp only
        omega
      unfold jK
      rw [cy eD ItemX.zero,cy jJ OrdX.zero]
      exact bA.2 ⟨Nat.zero_le _,bA.2 ⟨iT (fun a ha=>bA.2 ⟨(i2 a ha).1.d,Nat.zero_le _⟩),bA.2 ⟨f4,bA.2 ⟨w3,bA.2 ⟨Nat.zero_le _,bA.2 ⟨iT (fun a _=>Nat.zero_le _),Nat.zero_le _⟩⟩⟩⟩⟩⟩
theorem hD:QOk QryX.zero:=⟨fun i hi=>by simp [QryX.zero] at hi,fun i hi=>by simp [QryX.zero] at hi,eS,by decide⟩
structure Fine (s:StmtX):Prop where
 v:SView s
 ok:SOk s
 dep:(stmT s).2≤24
 sz:fS s≤1000000000000
theorem fQ0:fQ QryX.zero=1:=by decide
theorem sz0:Ex.zero.size=1:=by decide
theorem sok {s:StmtX} (hk:s.k=1∨s.k=2∨s.k=3∨s.k=4∨s.k=5∨s.k=6∨s.k=7∨s.k=8∨s.k=9∨s.k=10∨s.k=11) (hc:∀ a ∈ s.cols,1≤a.k∧a.k≤3) (hr:∀ r ∈ s.rows,∀ e ∈ r,e.ok) (hs:∀ a ∈ s.sets,a.e.ok) (hw:s.wh.ok) (hq:QOk s.q):SOk s :=
 ⟨by omega,kf (p:=fun a:ColX=>-9223372036854775808≤a.k∧a.k≤9223372036854775807) (fun a ha=>by have:=hc a ha; omega),fun i hi=>kf (p:=fun e:Ex=>e.ok) (kf (z:=[]) (p:=fun r:List Ex=>∀ e ∈ r,e.ok) hr i hi),kf (p:=fun a:SetX=>a.e.ok) hs,hw,hq⟩
theorem cY {α:Type} {p:α→Prop}:∀ a ∈ ([]:List α),p a:=fun a ha=>by cases ha
theorem tK {s : StmtX} {ts us : List Tok} (hg : Good ts) (hv : TB ts) (h : er ts = .ok (s,us)) : Fine s := by
  unfold er at h
  split at h
  · rename_i h0
    have c0 := aH (Cuts.refl hg) (by decide) h0
    cases h1 : bC (ts.drop 1) with
    | error x => simp only [h1] at h; cases h
    | ok r =>
      obtain ⟨t,t1⟩ := r
      simp only [h1] at h
      have c1 := c0.trans (bQ c0.2 h1)
      cases h2 : inP nmT lG t1 with
      | error x => simp only [h2] at h; cases h
      | ok r =>
        obtain ⟨l,t2⟩ := r
        simp only [h2,Except.ok.injEq,Prod.mk.injEq] at h
        obtain ⟨rfl,_⟩ := h
        obtain ⟨k1,k2,_⟩ := rQ col_more c1.2 (hv.cuts c1) h2
        refine ⟨.create t l (bX h1) k2 k1,sok (.inl rfl) (fun a ha => (fA.1 (k1 a ha)).2) cY cY eS hD, ?_,(by show t.length + 0 + dS fC l + 0 + 0 + 0 + Ex.zero.size + fQ QryX.zero ≤ 1000000000000; have := cO (bX h1); have := l9 (f := fC) (B := 25) (fun a ha => by have := cO (fA.1 (k1 a ha)).1; unfold fC; omega) k2.2; have := sz0; have := fQ0; omega)⟩
        unfold stmT
        rw [if_pos rfl,cy kR ColX.zero]
        exact bA.2 ⟨Nat.zero_le _,bA.2 ⟨iT (fun a _ => Nat.zero_le _),Nat.zero_le _⟩⟩
  · have c0 : Cuts ts (if atT 1 cq ts = true then ts.drop 1 else ts) := by
      split
      · rename_i h0; exact aH (Cuts.refl hg) (by decide) h0
      · exact Cuts.refl hg
    cases h1 : bH eg (if atT 1 cq ts = true then ts.drop 1 else ts) with
    | error x => simp only [h1] at h; cases h
    | ok t1 =>
      simp only [h1] at h
      have c1 := c0.trans (kh c0.2 h1)
      cases h2 : bC t1 with
      | error x => simp only [h2] at h; cases h
      | ok r =>
        obtain ⟨n,t2⟩ := r
        simp only [h2] at h
        have c2 := c1.trans (bQ c1.2 h2)
        cases h3 : bH onB t2 with
        | error x => simp only [h3] at h; cases h
        | ok t3 =>
          simp only [h3] at h
          have c3 := c2.trans (kh c2.2 h3)
          cases h4 : bC t3 with
          | error x => simp only [h4] at h; cases h
          | ok r =>
            obtain ⟨t,t4⟩ := r
            simp only [h4] at h
            have c4 := c3.trans (bQ c3.2 h4)
            cases h5 : inP nmT onP t4 with
            | error x => simp only [h5] at h; cases h
            | ok r =>
              obtain ⟨l,t5⟩ := r
              simp only [h5,Except.ok.injEq,Prod.mk.injEq] at h
              obtain ⟨rfl,_⟩ := h
              obtain ⟨k1,k2,_⟩ := rQ on_more c4.2 (hv.cuts c4) h5
              refine ⟨.index t n _ l (bX h4) (bX h2) k2 k1,sok (.inr (.inr (.inl rfl))) cY cY cY eS hD, ?_,(by show t.length + n.length + 0 + dS fN l + 0 + 0 + Ex.zero.size + fQ QryX.zero ≤ 1000000000000; have := cO (bX h4); have := cO (bX h2); have := l9 (f := fN) (B := 25) (fun a ha => by have := cO (k1 a ha); unfold fN; omega) k2.2; have := sz0; have := fQ0; omega)⟩
              unfold stmT
              rw [if_neg (show ¬ (3 : Int) = 1 by decide),if_neg (show ¬ (3 : Int) = 2 by decide),if_pos rfl,cy raw []]
              exact bA.2 ⟨Nat.zero_le _,bA.2 ⟨iT (fun a _ => Nat.zero_le _),Nat.zero_le _⟩⟩
theorem yB {s:StmtX} {ts us:List Tok} (h:gD ts=.ok (s,us)):Fine s:=by
 unfold gD at h
 split at h
 · cases h1:bC (ts.drop 1) with
   | error x=>simp only [h1] at h; cases h
   | ok r =>
    obtain ⟨t,t1⟩:=r
    simp only [h1,Except.ok.injEq,Prod.mk.injEq] at h
    obtain ⟨rfl,_⟩:=h
    exact ⟨.drop t (bX h1),sok (.inr (.inl rfl)) cY cY cY eS hD,Nat.zero_le _,(by show t.length+0+0+0+0+0+Ex.zero.size+fQ QryX.zero≤1000000000000; have:=cO (bX h1); have:=sz0; have:=fQ0; omega)⟩
 · cases h1:bH eg ts with
   | error x=>simp only [h1] at h; cases h
   | ok t1 =>
    simp only [h1] at h
    cases h2:bC t1 with
    | error x=>simp only [h2] at h; cases h
    | ok r =>
     obtain ⟨n,t2⟩:=r
     simp only [h2,Except.ok.injEq,Prod.mk.injEq] at h
     obtain ⟨rfl,_⟩:=h
     exact ⟨.unindex n (bX h2),sok (.inr (.inr (.inr (.inl rfl)))) cY cY cY eS hD,Nat.zero_le _,(by show 0+n.length+0+0+0+0+Ex.zero.size+fQ QryX.zero≤1000000000000; have:=cO (bX h2); have:=sz0; have:=fQ0; omega)⟩
theorem RowE.may {r:List Ex} (h:RowE r):mayRow r=true∧(∀ e ∈ r,e.ok)∧(iz r).2≤24:=by
 refine ⟨lZ.2 ⟨h.2,fun e he=>(h.1 e he).may⟩,fun e he=>(h.1 e he).ok, ?_⟩
 unfold iz
 rw [cy (fun e:Ex=>e.txt 1) Ex.zero r]
 exact bA.2 ⟨Nat.zero_le _,bA.2 ⟨iT (fun a ha=>(h.1 a ha).d),Nat.zero_le _⟩⟩
theorem tL {f:Nat} {s:StmtX} {ts us:List Tok} (hg:Good ts) (hv:TB ts) (h:dI f 0 ts=.ok (s,us)):Fine s:=by
 unfold dI at h
 cases h1:bH kM ts with
 | error x=>simp only [h1] at h; cases h
 | ok t1 =>
  simp only [h1] at h
  have c1:=kh hg h1
  cases h2:bC t1 with
  | error x=>simp only [h2] at h; cases h
  | ok r =>
   obtain ⟨t,t2⟩:=r
   simp only [h2] at h
   have c2:=c1.trans (bQ c1.2 h2)
   cases h3:bH iw t2 with
   | error x=>simp only [h3] at h; cases h
   | ok t3 =>
    simp only [h3] at h
    have c3:=c2.trans (kh c2.2 h3)
    cases h4:dR f 0 t3.length [] t3 with
    | error x=>simp only [h4] at h; cases h
    | ok r =>
     obtain ⟨l,t4⟩:=r
     simp only [h4,Except.ok.injEq,Prod.mk.injEq] at h
     obtain ⟨rfl,_⟩:=h
     obtain ⟨k1,_,k3,_,k4⟩:=qN f _ [] l t3 t4 cY c3.2 (hv.cuts c3) h4
     have k5:l.length≤4098:=by have:=(hv.cuts c3).2; simp only [List.length_nil] at k4; omega
     refine ⟨.insert t l (bX h2) (k3 c3.2.ne) (fun r hr=>(k1 r hr).may.1),sok (.inr (.inr (.inr (.inr (.inl rfl))))) cY (fun r hr=>(k1 r hr).may.2.1) cY eS hD, ?_,(by show t.length+0+0+0+dS fR l+0+Ex.zero.size+fQ QryX.zero≤1000000000000; have:=cO (bX h2); have hle:=Nat.mul_le_mul_right 6555201 (k5:l.length≤4098); have:=uZ (f:=fR) (B:=6555201) (fun r hr=>by have:=l9 (f:=Ex.size) (B:=409700) (fun e he=>((k1 r hr).1 e he).sz) (k1 r hr).2.2; unfold fR; omega); have:=sz0; have:=fQ0; omega)⟩
     unfold stmT
     rw [if_neg (show ¬ (5:Int)=1 by decide),if_neg (show ¬ (5:Int)=2 by decide),if_neg (show ¬ (5:Int)=3 by decide),if_neg (show ¬ (5:Int)=4 by decide),if_pos rfl,cy iz []]
     exact bA.2 ⟨Nat.zero_le _,iT (fun r hr=>(k1 r hr).may.2.2)⟩
theorem tM {f:Nat} {s:StmtX} {ts us:List Tok} (hg:Good ts) (hv:TB ts) (h:eb f 0 ts=.ok (s,us)):Fine s:=by
 unfold eb at h
 cases h1:bH eV ts with
 | error x=>simp only [h1] at h; cases h
 | ok t1 =>
  simp only [h1] at h
  have c1:=kh hg h1
  cases h2:bC t1 with
  | error x=>simp only [h2] at h; cases h
  | ok r =>
   obtain ⟨t,t2⟩:=r
   simp only [h2] at h
   have c2:=c1.trans (bQ c1.2 h2)
   cases h3:cN f 0 t2 with
   | error x=>simp only [h3] at h; cases h
   | ok r =>
    obtain ⟨e,t3⟩:=r
    simp only [h3,Except.ok.injEq,Prod.mk.injEq] at h
    obtain ⟨rfl,_⟩:=h
    obtain ⟨w1,w2,w3,w4⟩:=nb c2.2 (hv.cuts c2) h3
    refine ⟨.delete t e (bX h2) w1,sok (.inr (.inr (.inr (.inr (.inr (.inl rfl)))))) cY cY cY w2 hD, ?_,(by show t.length+0+0+0+0+0+e.size+fQ QryX.zero≤1000000000000; have:=cO (bX h2); have:=sz0; have:=fQ0; omega)⟩
    unfold stmT
    rw [if_neg (show ¬ (6:Int)=1 by decide),if_neg (show ¬ (6:Int)=2 by decide),if_neg (show ¬ (6:Int)=3 by decide),if_neg (show ¬ (6:Int)=4 by decide),if_neg (show ¬ (6:Int)=5 by decide),if_pos rfl]
    exact bA.2 ⟨Nat.zero_le _,w3⟩
theorem tN {f:Nat} {s:StmtX} {ts us:List Tok} (hg:Good ts) (hv:TB ts) (h:dJ f 0 ts=.ok (s,us)):Fine s:=by
 unfold dJ at h
 cases h2:bC ts with
 | error x=>simp only [h2] at h; cases h
 | ok r =>
  obtain ⟨t,t2⟩:=r
  simp only [h2] at h
  have c2:=bQ hg h2
  cases h1:bH oL t2 with
  | error x=>simp only [h1] at h; cases h
  | ok t1 =>
   simp only [h1] at h
   have c1:=c2.trans (kh c2.2 h1)
   cases h4:cM nmT (iY f 0) 17 0 [] t1 with
   | error x=>simp only [h4] at h; cases h
   | ok r =>
    obtain ⟨l,t4⟩:=r
    simp only [h4] at h
    obtain ⟨k1,k2,k3⟩:=kg (set_more f) c1.2 (hv.cuts c1) h4
    have c4:=c1.trans k3
    cases h3:cN f 0 t4 with
    | error x=>simp only [h3] at h; cases h
    | ok r =>
     obtain ⟨e,t3⟩:=r
     simp only [h3,Except.ok.injEq,Prod.mk.injEq] at h
     obtain ⟨rfl,_⟩:=h
     obtain ⟨w1,w2,w3,w4⟩:=nb c4.2 (hv.cuts c4) h3
     refine ⟨.update t l e (bX h2) k2 (fun a ha=>kd.2 ⟨(k1 a ha).1,(k1 a ha).2.may⟩) w1,sok (.inr (.inr (.inr (.inr (.inr (.inr (.inl rfl))))))) cY cY (fun a ha=>(k1 a ha).2.ok) w2 hD, ?_,(by show t.length+0+0+0+0+dS fT l+e.size+fQ QryX.zero≤1000000000000; have:=cO (bX h2); have:=l9 (f:=fT) (B:=409800) (fun a ha=>by have:=cO (k1 a ha).1; have:=(k1 a ha).2.sz; unfold fT; omega) k2.2; have:=sz0; have:=fQ0; omega)⟩
     unfold stmT
     rw [if_neg (show ¬ (7:Int)=1 by decide),if_neg (show ¬ (7:Int)=2 by decide),if_neg (show ¬ (7:Int)=3 by decide),if_neg (show ¬ (7:Int)=4 by decide),if_neg (show ¬ (7:Int)=5 by decide),if_neg (show ¬ (7:Int)=6 by decide),if_pos rfl,cy js SetX.zero]
     exact bA.2 ⟨Nat.zero_le _,bA.2 ⟨iT (fun a ha=>bA.2 ⟨Nat.zero_le _,(k1 a ha).2.d⟩),w3⟩⟩
theorem yD {f:Nat} {s:StmtX} {ts us:List Tok} (hg:Good ts) (hv:TB ts) (h:cv f 0 ts=.ok (s,us)):Fine s:=by
 have cut:∀ {w:List UInt8},atT 1 w ts=true→Good (ts.drop 1):=fun hw=>(aH (Cuts.refl hg) (by decide) hw).2
 have pl:∀ k:Int,k=9∨k=10∨k=11→Fine { StmtX.zero with k:=k }:=fun k hk=>⟨.plain k hk,sok (by simp only; omega) cY cY cY eS hD,by rcases hk with rfl | rfl | rfl<;>exact Nat.zero_le _,(by show 0+0+0+0+0+0+Ex.zero.size+fQ QryX.zero≤1000000000000; have:=sz0; have:=fQ0; omega)⟩
 unfold cv at h
 split at h
 · rename_i h0; exact tK (cut h0) (hv.drop 1) h
 split at h
 · exact yB h
 split at h
 · rename_i h0; exact tL (cut h0) (hv.drop 1) h
 split at h
 · rename_i h0; exact tM (cut h0) (hv.drop 1) h
 split at h
 · rename_i h0; exact tN (cut h0) (hv.drop 1) h
 split at h
 · rename_i h0
   unfold gM at h
   cases h1:cP f 0 (ts.drop 1) with
   | error x=>simp only [h1] at h; cases h
   | ok r =>
    obtain ⟨q,t1⟩:=r
    simp only [h1,Except.ok.injEq,Prod.mk.injEq] at h
    obtain ⟨rfl,_⟩:=h
    obtain ⟨k1,k2,k3,k4⟩:=yA (cut h0) (hv.drop 1) h1
    exact ⟨.select q k1,sok (.inr (.inr (.inr (.inr (.inr (.inr (.inr (.inl rfl)))))))) cY cY cY eS k2,k3,(by show 0+0+0+0+0+0+Ex.zero.size+fQ q≤1000000000000; have:=sz0; have:=fQ0; omega)⟩
 split at h
 · simp only [Except.ok.injEq,Prod.mk.injEq] at h; rw [← h.1]; exact pl 9 (.inl rfl)
 split at h
 · simp only [Except.ok.injEq,Prod.mk.injEq] at h; rw [← h.1]; exact pl 10 (.inr (.inl rfl))
 split at h
 · simp only [Except.ok.injEq,Prod.mk.injEq] at h; rw [← h.1]; exact pl 11 (.inr (.inr rfl))
 · cases h
theorem pw {s:List UInt8} {st:StmtX} (h:cr s=.ok st):Fine st:=by
 unfold cr at h
 cases h1:gz s with
 | error x=>simp only [h1] at h; cases h
 | ok ts =>
  simp only [h1] at h
  unfold oM at h
  cases h2:cv (8 * ts.length+8) 0 ts with
  | error x=>simp only [h2] at h; cases h
  | ok r =>
   obtain ⟨s',us⟩:=r
   simp only [h2] at h
   have hf:=yD (oR h1).1 (lex_tb h1) h2
   by_cases hk:(hd (if atT 4 [59] us=true then us.drop 1 else us)).k=5
   · rw [if_pos hk] at h; cases h; exact hf
   · rw [if_neg hk] at h; cases h
theorem nG {s:List UInt8} {st:StmtX} (h:cr s=.ok st):((stmT st).1.length≤4096∧prS st=((stmT st).1,0)∧cr (stmT st).1=.ok st)∨(4096 < (stmT st).1.length∧prS st=([],3)):=by
 have hf:=pw h
 have hm:=hf.v.may
 unfold prS je
 rw [if_pos hm,if_neg (by have:=hf.dep; omega)]
 rcases Nat.lt_or_ge 4096 (stmT st).1.length with hl | hl
 · right; rw [if_pos hl]; exact ⟨hl,rfl⟩
 · left; rw [if_neg (by omega)]; exact ⟨hl,rfl,nF hm hf.ok hf.dep hl⟩
theorem yE {s:StmtX} (ho:SOk s) (h:(prS s).2=0):cr (prS s).1=.ok s∧(prS s).1.length≤4096:=by
 unfold prS at h ⊢
 split at h
 · rename_i hm
   rw [if_pos hm]
   unfold je at h ⊢
   split at h
   · cases h
   · rename_i h1
     rw [if_neg h1]
     split at h
     · cases h
     · rename_i h2
       rw [if_neg h2]
       exact ⟨nF hm ho (by omega) (by omega),by simp only; omega⟩
 · cases h
end Go.WK
