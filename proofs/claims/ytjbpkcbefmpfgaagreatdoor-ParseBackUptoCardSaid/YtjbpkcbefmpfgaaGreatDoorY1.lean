/- Parts of the proof, joined and made shorter by a program: Wk1, Wk2, Wk3, Wk4, Wk5, Wk8, Wk6, Wk9, Lex1, Lex2, Lex3, Lex4, Lex5, Lex6, Lex7, Keys1, Wk7, VOpen, Tree1, Keys2, Value1, Value2, Tree2, Tree3, Tree4, Wk11, Par1, Par2, Wk12, Tree5, Tree6. -/
import Derived.WalkKit
import Derived.Below
import Derived.Deep.Draws
import Derived.Maps.AppendAt
import Derived.Laws.CopyOwn
import Derived.Deep.Quiet
import Derived.WalkLawsBesides
import Derived.WalkSpells
import Derived.Laws.StructEq
import Derived.Laws.Tables
import Derived.Scope
import Derived.ChangeKeysEq
import Derived.Lib.Bytealg
import Derived.Laws.Entries
import Derived.WideLaws
import Derived.Lib.ParseIntB
import Derived.Lib.ParseIntBTie
import Derived.Lib.ParseIntBCases
import Derived.ProofKit
import Derived.OpenShut
import Derived.JoinedCond
import Derived.Carry
import Derived.SizedLaws
import Derived.Deep.Slices
import Derived.Lib.Atoi
import Derived.Lib.ItoaNum
import Derived.Lib.ReplaceLaws
import Derived.ScopeJumps
import Derived.Recover
namespace Go.WK
open Go.RowKit
abbrev aW:=List (Nat × Value)
def look:aW→Nat→Option Value
 | [],_=>none
 | (k,v)::r,d=>bif Nat.beq k d then some v else look r d
structure Has (n:Nat) (ds:List Deferred) (fs:aW) (a:Act):Prop where
 ds:a.defers=ds
 size:a.tmps.size=n
 at_:∀ d v,look fs d=some v→a.tmps[d]? = some v
def ev (fs:aW):Operand→Option Value
 | .tmp t=>look fs t
 | .const v=>some v
 | .global g=>some (.pointer (some ⟨g,0,none⟩))
 | .func f=>some (.func (.func f) #[] #[])
theorem Has.get {n ds fs a} (h:Has n ds fs a) {t:Nat} {v:Value} (hx:look fs t=some v):a.tmps.getD t undef=v:=by
 have:=h.at_ t v hx
 simp [Array.getD_eq_getD_getElem?,this]
theorem Has.eval {n ds fs a} (h:Has n ds fs a) {x:Operand} {v:Value} (hx:ev fs x=some v):a.eval x=v:=by
 cases x with
 | tmp t=>exact h.get hx
 | const u=>simpa [ev,Act.eval] using hx
 | global g=>simpa [ev,Act.eval] using hx
 | func f=>simpa [ev,Act.eval] using hx
theorem beq_ne {d e:Nat} (h:d≠e):Nat.beq d e=false:=by
 cases hh:Nat.beq d e
 · rfl
 · exact absurd (Nat.eq_of_beq_eq_true hh) h
theorem xe {d e:Nat} (h:Nat.beq d e=false):d≠e:=fun e'=>by
 subst e'
 rw [Nat.beq_refl] at h
 cases h
theorem dP (fs:aW) (d:Nat) (v:Value):look ((d,v)::fs) d=some v:=by simp [look]
theorem fL (fs:aW) {d e:Nat} (v:Value) (h:d≠e):look ((d,v)::fs) e=look fs e:=by
 have:Nat.beq d e=false:=beq_ne h
 simp [look,this]
theorem Has.put {n ds fs a} (h:Has n ds fs a) {d:Nat} (hd:Nat.blt d n=true) (v:Value):Has n ds ((d,v)::fs) (a.put (some d) v):=by
 have hd':d < a.tmps.size:=by have:=h.size; simp at hd; omega
 refine ⟨h.ds,by simp [Act.put,h.size],fun e u he=>?_⟩
 by_cases hde:d=e
 · subst hde
   rw [dP] at he
   injection he with he
   subst he
   simp [Act.put,hd']
 · rw [fL _ _ hde] at he
   have:=h.at_ e u he
   simp only [Act.put,Array.getElem?_setIfInBounds,hde,if_false]
   exact this
def Sub:aW→aW→Prop
 | _,[]=>True
 | fs,(d,v)::r=>look fs d=some v∧Sub fs r
theorem Sub.get {fs fs':aW} (h:Sub fs fs'):∀ d v,look fs' d=some v→look fs d=some v:=by
 induction fs' with
 | nil=>intro d v h; simp [look] at h
 | cons x r ih =>
  obtain ⟨k,u⟩:=x
  obtain ⟨h1,h2⟩:=h
  intro d v hd
  by_cases hk:k=d
  · subst hk; rw [dP] at hd; injection hd with hd; subst hd; exact h1
  · rw [fL _ _ hk] at hd; exact ih h2 d v hd
theorem Has.sub {n ds fs fs' a} (h:Has n ds fs a) (hs:Sub fs fs'):Has n ds fs' a:=⟨h.ds,h.size,fun d v hd=>h.at_ d v (hs.get d v hd)⟩
theorem Sub.nil (fs:aW):Sub fs []:=trivial
theorem Sub.cons {fs r:aW} {d:Nat} {v:Value} (h:look fs d=some v) (hr:Sub fs r):Sub fs ((d,v)::r):=⟨h,hr⟩
def dropS (l:List Nat):aW→aW
 | []=>[]
 | (d,v)::r=>bif l.any (Nat.beq d) then dropS l r else (d,v)::dropS l r
structure Chg (l:List Nat) (w w':World):Prop where
 os:w'.os=w.os
 tape:w'.tape=w.tape
 output:w'.output=w.output
 size:w.heap.size≤w'.heap.size
 block:∀ k,k < w.heap.size→k ∉ l→w'.heap[k]? = w.heap[k]?
theorem Chg.refl (l:List Nat) (w:World):Chg l w w:=⟨rfl,rfl,rfl,Nat.le_refl _,fun _ _ _=>rfl⟩
theorem Chg.trans {l a b c} (h:Chg l a b) (k:Chg l b c):Chg l a c :=
 ⟨k.os.trans h.os,k.tape.trans h.tape,k.output.trans h.output,Nat.le_trans h.size k.size,fun i hi hl=>(k.block i (Nat.lt_of_lt_of_le hi h.size) hl).trans (h.block i hi hl)⟩
theorem Chg.mono {l l' a b} (h:Chg l a b) (hl:∀ k,k < a.heap.size→k ∈ l→k ∈ l'):Chg l' a b :=
 ⟨h.os,h.tape,h.output,h.size,fun i hi hn=>h.block i hi (fun hm=>hn (hl i hi hm))⟩
theorem Chg.drew {l a w} (h:Chg l a w):Chg l a w.drew:=⟨h.os,h.tape,h.output,h.size,h.block⟩
theorem Chg.alloc (l:List Nat) (w:World) (o:Obj):Chg l w (w.alloc o) :=
 ⟨rfl,rfl,rfl,by simp,fun k hk _=>Below.heap_alloc w o k hk⟩
theorem Chg.below {w w':World} (h:Chg [] w w'):Below w.heap.size w w':=⟨h.os,h.tape,h.output,h.size,fun k hk=>h.block k hk (by simp)⟩
theorem Chg.of_below {w w':World} (h:Below w.heap.size w w'):Chg [] w w':=⟨h.os,h.tape,h.output,h.size,fun k hk _=>h.block k hk⟩
structure Chunk where
 fp:Nat→Prop
 holds:World→Prop
 lt:∀ w k,holds w→fp k→k < w.heap.size
 stab:∀ w w',holds w→(∀ k,fp k→w'.heap[k]? = w.heap[k]?)→holds w'
def box (g:Nat) (t:TypeId) (cs:List Value):Chunk where
 fp k:=k=g
 holds w:=w.heap[g]? = some (.cells cs.toArray t (0,0))
 lt w k h hk:=by
  subst hk
  rcases Nat.lt_or_ge k w.heap.size with hlt | hge
  · exact hlt
  · rw [Array.getElem?_eq_none hge] at h; cases h
 stab w w' h hk:=by rw [hk g rfl]; exact h
def row (v:Value) (e:TypeId) (size:Nat) (n:Nat) (xs:List Value):Chunk where
 fp k:=v.ownBlock=some k
 holds w:=w.ownsRow 0 e size v n xs
 lt w k h hk:=(h.lt k hk).2
 stab w w' h hk:=by
  obtain ⟨h1,h2⟩:=h
  refine ⟨h1, ?_⟩
  rcases h2 with h2 | ⟨g,cap,cur,hv,hg,hh,r⟩
  · exact .inl h2
  · exact .inr ⟨g,cap,cur,hv,hg,by rw [hk g (by rw [hv]; rfl)]; exact hh,r⟩
structure Cx where
 P:Program
 n:Nat
 ds:List Deferred
 w0:World
 lent:List Nat
structure Sat (cx:Cx) (H:List Chunk) (w:World):Prop where
 chg:Chg cx.lent cx.w0 w
 holds:∀ c ∈ H,c.holds w
 fresh:∀ c ∈ H,∀ k,c.fp k→cx.w0.heap.size≤k∨k ∈ cx.lent
 apart:H.Pairwise fun c d=>∀ k,c.fp k→¬ d.fp k
theorem Sat.start (P n ds w):Sat ⟨P,n,ds,w,[]⟩ [] w:=⟨Chg.refl _ _,by simp,by simp,.nil⟩
theorem Sat.lt {cx H w} (h:Sat cx H w) {c:Chunk} (hc:c ∈ H) {k:Nat} (hk:c.fp k):k < w.heap.size:=c.lt w k (h.holds c hc) hk
theorem Sat.ext {cx H w w'} (h:Sat cx H w) (hx:Chg [] w w'):Sat cx H w' :=
 ⟨h.chg.trans (hx.mono (by simp)),fun c hc=>c.stab w w' (h.holds c hc) (fun k hk=>hx.block k (h.lt hc hk) (by simp)),h.fresh,h.apart⟩
theorem Sat.drew {cx H w} (h:Sat cx H w):Sat cx H w.drew:=h.ext (Chg.drew (Chg.refl _ _))
theorem Sat.push {cx H w w'} (h:Sat cx H w) (hx:Chg [] w w') (c:Chunk) (hc:c.holds w') (hnew:∀ k,c.fp k→w.heap.size≤k):Sat cx (c::H) w':=by
 have h':=h.ext hx
 refine ⟨h'.chg,fun d hd=>?_,fun d hd k hk=>?_,.cons (fun d hd k hk hdk=>?_) h.apart⟩
 · rcases List.mem_cons.1 hd with rfl | hd
   · exact hc
   · exact h'.holds d hd
 · rcases List.mem_cons.1 hd with rfl | hd
   · exact .inl (Nat.le_trans h.chg.size (hnew k hk))
   · exact h.fresh d hd k hk
 · have:=hnew k hk; have:=h.lt hd hdk; omega
theorem Sat.tail {cx c H w} (h:Sat cx (c::H) w):Sat cx H w :=
 ⟨h.chg,fun d hd=>h.holds d (List.mem_cons_of_mem _ hd),fun d hd=>h.fresh d (List.mem_cons_of_mem _ hd),(List.pairwise_cons.1 h.apart).2⟩
theorem Sat.sublist {cx H H' w} (h:Sat cx H w) (hs:H'.Sublist H):Sat cx H' w :=
 ⟨h.chg,fun d hd=>h.holds d (hs.subset hd),fun d hd=>h.fresh d (hs.subset hd),h.apart.sublist hs⟩
theorem lD {l l':List Chunk} (hp:l.Perm l') (h:l.Pairwise fun c d=>∀ k,c.fp k→¬ d.fp k):l'.Pairwise fun c d=>∀ k,c.fp k→¬ d.fp k :=
 (hp.pairwise_iff (fun {_ _} hxy k hk hx=>hxy k hx hk)).1 h
theorem Sat.perm {cx H H' w} (h:Sat cx H w) (hp:H.Perm H'):Sat cx H' w :=
 ⟨h.chg,fun d hd=>h.holds d (hp.mem_iff.2 hd),fun d hd=>h.fresh d (hp.mem_iff.2 hd),lD hp h.apart⟩
inductive Nth:List Chunk→Nat→Chunk→Prop where
 | z {c l}:Nth (c::l) 0 c
 | s {c d l i}:Nth l i c→Nth (d::l) (i+1) c
theorem Nth.mem {l i c} (h:Nth l i c):c ∈ l:=by
 induction h with
 | z=>exact List.mem_cons_self
 | s _ ih=>exact List.mem_cons_of_mem _ ih
def iE:List Chunk→Nat→Chunk→List Chunk
 | [],_,_=>[]
 | _::l,0,c=>c::l
 | d::l,i+1,c=>d::iE l i c
theorem Nth.split {l i c} (h:Nth l i c) (c':Chunk):∃ l1 l2,l=l1++c::l2∧iE l i c'=l1++c'::l2:=by
 induction h with
 | z=>exact ⟨[],_,rfl,rfl⟩
 | @s c d l i _ ih =>
  obtain ⟨l1,l2,h1,h2⟩:=ih
  exact ⟨d::l1,l2,by rw [h1]; rfl,by simp [iE,h2]⟩
theorem Sat.change {cx H w w'} (h : Sat cx H w) {i : Nat} {c : Chunk} (hn : Nth H i c) (c' : Chunk) (hc' : c'.holds w')
    (hos : w'.os = w.os) (htp : w'.tape = w.tape) (hou : w'.output = w.output) (hsz : w.heap.size ≤ w'.heap.size)
    (hbl : ∀ k,k < w.heap.size → ¬ c.fp k → w'.heap[k]? = w.heap[k]?) (hfp : ∀ k,c'.fp k → c.fp k ∨ w.heap.size ≤ k) : Sat cx (iE H i c') w' := by
  obtain ⟨l1,l2,rfl,h2⟩ := hn.split c'
  rw [h2]
  have hperm : (l1 ++ c :: l2).Perm (c :: (l1 ++ l2)) := List.perm_middle
  have hs := h.perm hperm
  have hperm' : (c' :: (l1 ++ l2)).Perm (l1 ++ c' :: l2) := List.perm_middle.symm
  refine Sat.perm ?_ hperm'
  have hap := List.pairwise_cons.1 hs.apart
  have hmem : c ∈ c :: (l1 ++ l2) := List.mem_cons_self
  refine ⟨⟨hos.trans h.chg.os,htp.trans h.chg.tape,hou.trans h.chg.output,Nat.le_trans h.chg.size hsz,fun k hk hl => ?_⟩,fun d hd => ?_,fun d hd k hk => ?_,.cons (fun d hd k hk hdk => ?_) hap.2⟩
  · have hnc : ¬ c.fp k := fun hf => by
      rcases hs.fresh c hmem k hf with h1 | h1
      · omega
      · exact hl h1
    exact (hbl k (Nat.lt_of_lt_of_le hk h.chg.size) hnc).trans (h.chg.block k hk hl)
  · rcases List.mem_cons.1 hd with rfl | hd
    · exact hc'
    · have hm := List.mem_cons_of_mem c hd
      exact d.stab w w' (hs.holds d hm) (fun k hk => hbl k (hs.lt hm hk) (fun hf => hap.1 d hd k hf hk))
  · rcases List.mem_cons.1 hd with rfl | hd
    · rcases hfp k hk with h1 | h1
      · exact hs.fresh c hmem k h1
      · exact .inl (Nat.le_trans h.chg.size h1)
    · exact hs.fresh d (List.mem_cons_of_mem _ hd) k hk
  · rcases hfp k hk with h1 | h1
    · exact hap.1 d hd k h1 hdk
    · have := hs.lt (List.mem_cons_of_mem c hd) hdk; omega
abbrev co:=Exit→aW→List Chunk→Prop
def iF (cx:Cx) (Q:co):Exit→Act→World→Prop:=fun e a w=>∃ fs H,Has cx.n cx.ds fs a∧Sat cx H w∧Q e fs H
def Tri (cx:Cx) (fs:aW) (H:List Chunk) (c:Code) (Q:co):Prop :=
 ∀ a w,Has cx.n cx.ds fs a→Sat cx H w→c.wp cx.P (iF cx Q) a w
def TriL (cx:Cx) (ops:Array Oper) (fs:aW) (H:List Chunk) (l:List Oper) (Q:co):Prop :=
 ∀ a w,Has cx.n cx.ds fs a→Sat cx H w→wpList cx.P ops (iF cx Q) l a w
def fb (P:Program) (ops:Array Oper) (C:World→Prop) (Q:Act→Prop):List Oper→Act→Prop
 | [],a=>Q a
 | o::rest,a=>if Region.wanted o (yielded ops a.tmps) then ∃ v,(∀ w,C w→o.quietAt P a (Chg [] w) w v)∧fb P ops C Q rest (a.put o.dst v) else fb P ops C Q rest (a.put o.dst undef)
def TriQ (cx:Cx) (ops:Array Oper) (fs:aW) (H:List Chunk) (l:List Oper) (Q:co):Prop :=
 ∀ a,Has cx.n cx.ds fs a→fb cx.P ops (Sat cx H) (fun a'=>∃ fs',Has cx.n cx.ds fs' a'∧Q .normal fs' H) l a
def TriX (m:Bool) (cx:Cx) (ops:Array Oper) (fs:aW) (H:List Chunk) (l:List Oper) (Q:co):Prop :=
 match m with
 | false=>TriL cx ops fs H l Q
 | true=>TriQ cx ops fs H l Q
section rules
variable {cx:Cx} {fs:aW} {H:List Chunk} {Q:co}
theorem Tri.mono {c:Code} {Q':co} (h:Tri cx fs H c Q) (hq:∀ e fs H,Q e fs H→Q' e fs H):Tri cx fs H c Q' :=
 fun a w ha hw=>Go.wp_mono (h a w ha hw) fun _ _ _ ⟨fs',H',h1,h2,h3⟩=>⟨fs',H',h1,h2,hq _ _ _ h3⟩
theorem Tri.sub {c:Code} {fs':aW} (hs:Sub fs fs') (h:Tri cx fs' H c Q):Tri cx fs H c Q:=fun a w ha hw=>h a w (ha.sub hs) hw
theorem Tri.heap {c:Code} {H':List Chunk} (hs:∀ w,Sat cx H w→Sat cx H' w) (h:Tri cx fs H' c Q):Tri cx fs H c Q:=fun a w ha hw=>h a w ha (hs w hw)
theorem Tri.know {c:Code} {p:Prop} (hp:∀ w,Sat cx H w→p) (h:p→Tri cx fs H c Q):Tri cx fs H c Q:=fun a w ha hw=>h (hp w hw) a w ha hw
def kz (K:aW→List Chunk→Prop) (Q:co):co
 | .normal,fs,H=>K fs H
 | e,fs,H=>Q e fs H
theorem ae {x y:Code} (h:Tri cx fs H x (kz (fun fs H=>Tri cx fs H y Q) Q)):Tri cx fs H (.seq x y) Q:=fun a w ha hw=>by
 refine wp_seq (Go.wp_mono (h a w ha hw) fun e a' w' ⟨fs',H',h1,h2,h3⟩=>?_)
 cases e with
 | normal=>exact h3 a' w' h1 h2
 | _=>exact ⟨fs',H',h1,h2,h3⟩
theorem ub {x y:Code} (K:aW→List Chunk→Prop) (h:Tri cx fs H x (kz K Q)) (hk:∀ fs H,K fs H→Tri cx fs H y Q):Tri cx fs H (.seq x y) Q :=
 ae (h.mono fun e fs H hq=>by cases e<;>first | exact hk _ _ hq | exact hq)
theorem ao (h:Q .normal fs H):Tri cx fs H .skip Q:=fun _ _ ha hw=>wp_skip ⟨fs,H,ha,hw,h⟩
theorem pU {l:Nat} (h:Q .normal fs H):Tri cx fs H (.label l) Q:=fun _ _ ha hw=>wp_label ⟨fs,H,ha,hw,h⟩
theorem bu {id:Nat} (h:Q (.exit id) fs H):Tri cx fs H (.exit id) Q:=fun _ _ ha hw=>wp_exit ⟨fs,H,ha,hw,h⟩
theorem tri_goto {id:Nat} (h:Q (.goto id) fs H):Tri cx fs H (.goto id) Q:=fun _ _ ha hw=>wp_goto ⟨fs,H,ha,hw,h⟩
theorem aq (h:Q .ret fs H):Tri cx fs H .ret Q:=fun _ _ ha hw=>wp_ret ⟨fs,H,ha,hw,h⟩
def jT (id:Nat) (Q:co):co
 | .exit id',fs,H=>if id'=id then Q .normal fs H else Q (.exit id') fs H
 | e,fs,H=>Q e fs H
theorem ay {id:Nat} {c:Code} (h:Tri cx fs H c (jT id Q)):Tri cx fs H (.block id c) Q:=fun a w ha hw=>by
 refine wp_block (Go.wp_mono (h a w ha hw) fun e a' w' ⟨fs',H',h1,h2,h3⟩=>?_)
 cases e with
 | exit id' =>
  simp only [jT] at h3
  simp only [Exit.inBlock]
  split
  · rename_i hid; rw [if_pos hid] at h3; exact ⟨fs',H',h1,h2,h3⟩
  · rename_i hid; rw [if_neg hid] at h3; exact ⟨fs',H',h1,h2,h3⟩
 | _=>exact ⟨fs',H',h1,h2,h3⟩
theorem aP {id:Nat} (h:Q .normal fs H):jT id Q (.exit id) fs H:=by simp only [jT,if_true]; exact h
theorem bN {id id':Nat} (hne:Nat.beq id' id=false) (h:Q (.exit id') fs H):jT id Q (.exit id') fs H:=by
 have:id'≠id:=xe hne
 simp only [jT,this,if_false]; exact h
theorem am {id:Nat} (h:Q .normal fs H):jT id Q .normal fs H:=h
theorem ap {id:Nat} (h:Q .ret fs H):jT id Q .ret fs H:=h
theorem nt {id l:Nat} (h:Q (.goto l) fs H):jT id Q (.goto l) fs H:=h
theorem ag {K:aW→List Chunk→Prop} (h:K fs H):kz K Q .normal fs H:=h
theorem an {K:aW→List Chunk→Prop} (h:Q .ret fs H):kz K Q .ret fs H:=h
theorem ax {K:aW→List Chunk→Prop} {id:Nat} (h:Q (.exit id) fs H):kz K Q (.exit id) fs H:=h
theorem lQ {K:aW→List Chunk→Prop} {l:Nat} (h:Q (.goto l) fs H):kz K Q (.goto l) fs H:=h
theorem aG {c:Operand} {x y:Code} {t:Bool} (hc:ev fs c=some (.bool t)) (ht:t=true→Tri cx fs H x Q) (hf:t=false→Tri cx fs H y Q):Tri cx fs H (.cond c x y) Q :=
 fun a w ha hw=>wp_cond_split (ha.eval hc) (fun h=>ht h a w ha hw) (fun h=>hf h a w ha hw)
theorem cn {c:Operand} {x y:Code} (hc:ev fs c=some (.bool true)) (h:Tri cx fs H x Q):Tri cx fs H (.cond c x y) Q :=
 fun a w ha hw=>wp_cond_true (ha.eval hc) (h a w ha hw)
theorem kA {c:Operand} {x y:Code} (hc:ev fs c=some (.bool false)) (h:Tri cx fs H y Q):Tri cx fs H (.cond c x y) Q :=
 fun a w ha hw=>wp_cond_false (ha.eval hc) (h a w ha hw)
theorem bI {c:Code} {ι:Type} (F:ι→aW) (HH:ι→List Chunk) (Pu:ι→Prop) (μ:ι→Nat) (i:ι) (hs:Sub fs (F i)) (hh:∀ w,Sat cx H w→Sat cx (HH i) w) (hp:Pu i)
  (round:∀ i,Pu i→Tri cx (F i) (HH i) c (kz (fun fs' H'=>∃ j,Sub fs' (F j)∧(∀ w,Sat cx H' w→Sat cx (HH j) w)∧Pu j∧μ j < μ i) Q)):Tri cx fs H (.loop c) Q:=by
 intro a w ha hw b k cs
 have key:∀ n i a w,μ i=n→Pu i→Has cx.n cx.ds (F i) a→Sat cx (HH i) w →
   ∃ e a' w',iF cx Q e a' w'∧Arrives cx.P (lone (b.at a (.code c::.inLoop c::k)) cs w) b k cs e a' w':=by
  intro n
  induction n using Nat.strongRecOn with
  | _ n ih =>
   intro i a w hn hpi ha hw
   obtain ⟨e,a₁,w₁,⟨fs',H',h1,h2,hq⟩,harr⟩:=round i hpi a w ha hw b (.inLoop c::k) cs
   cases e with
   | normal =>
    obtain ⟨j,hsub,hheap,hpj,hlt⟩:=hq
    obtain ⟨e₂,a₂,w₂,hq₂,harr₂⟩:=ih (μ j) (by omega) j a₁ w₁ rfl hpj (h1.sub hsub) (hheap _ h2)
    exact ⟨e₂,a₂,w₂,hq₂,.of_steps (Steps.trans harr (.one step_inLoop)) harr₂⟩
   | exit id=>exact ⟨_,a₁,w₁,⟨fs',H',h1,h2,hq⟩,.pass (x:=.inLoop c) rfl (fun _ _=>.inl (by simp)) harr⟩
   | goto l=>exact ⟨_,a₁,w₁,⟨fs',H',h1,h2,hq⟩,.pass (x:=.inLoop c) rfl (fun _ _=>.inl (by simp)) harr⟩
   | ret=>exact ⟨_,a₁,w₁,⟨fs',H',h1,h2,hq⟩,.pass (x:=.inLoop c) rfl (fun _ _=>.inl (by simp)) harr⟩
   | panic ch=>exact ⟨_,a₁,w₁,⟨fs',H',h1,h2,hq⟩,.pass (x:=.inLoop c) rfl (fun _ _=>.inl (by simp)) harr⟩
   | outgrown=>exact ⟨_,a₁,w₁,⟨fs',H',h1,h2,hq⟩,.pass (x:=.inLoop c) rfl (fun _ _=>.inl (by simp)) harr⟩
 obtain ⟨e,a',w',hq,harr⟩:=key _ i a w rfl hp (ha.sub hs) (hh w hw)
 exact ⟨e,a',w',hq,.of_steps (.one step_loop) harr⟩
end rules
end Go.WK
namespace Go.WK
open Go.RowKit
def iG (ops:Array Oper) (fs:aW):Option (Nat × Bool)→Option Bool
 | none=>some true
 | some (j,b)=>match (ops[j]?).bind (·.dst) with
  | some d=>match look fs d with
   | some (.bool x)=>some (x == b)
   | some _=>some false
   | none=>none
  | none=>some false
def okW (ops:Array Oper) (fs:aW) (g:Option (Nat × Bool)):Bool:=match iG ops fs g with | some true=>true | _=>false
def okS (n:Nat) (ops:Array Oper) (fs:aW) (d:Nat) (g:Option (Nat × Bool)):Bool:=match iG ops fs g with | some true=>Nat.blt d n | _=>false
section
variable {cx:Cx} {fs:aW} {H:List Chunk} {Q:co} {ops:Array Oper} {rest:List Oper} {g:Option (Nat × Bool)} {d:Nat} {ty:TypeId} {pos:String} {af:Array Edge}
theorem cW {n ds a} (h:Has n ds fs a) {x:Bool} (hw:iG ops fs g=some x) (o:Oper) (ho:o.guard=g):Region.wanted o (yielded ops a.tmps)=x:=by
 subst ho
 unfold Region.wanted
 cases hg:o.guard with
 | none=>rw [hg] at hw; simp [iG] at hw; simp [hw]
 | some p =>
  obtain ⟨j,b⟩:=p
  rw [hg] at hw
  unfold iG at hw
  simp only [yielded]
  cases hd:(ops[j]?).bind (·.dst) with
  | none=>simp only [hd] at hw; simp only [Option.bind_none]; cases hw; rfl
  | some e =>
   simp only [hd] at hw
   simp only [Option.bind_some]
   cases hl:look fs e with
   | none=>simp only [hl] at hw; cases hw
   | some v =>
    simp only [hl] at hw
    rw [h.at_ e v hl]
    cases v<;>simp at hw<;>simp [hw]
theorem n9 (h:okW ops fs g=true):iG ops fs g=some true:=by
 unfold okW at h
 split at h<;>first | assumption | cases h
theorem ee {n} (h:okS n ops fs d g=true):iG ops fs g=some true:=by
 unfold okS at h
 split at h<;>first | assumption | cases h
theorem hM {n} (h:okS n ops fs d g=true):Nat.blt d n=true:=by
 unfold okS at h
 split at h
 · exact h
 · cases h
theorem iH {P:Program} {C:World→Prop} {K K':Act→Prop} (hk:∀ a,K a→K' a):∀ (l:List Oper) (a:Act),fb P ops C K l a→fb P ops C K' l a
 | [],a,h=>hk a h
 | o::l,a,h=>by
  unfold fb at h ⊢
  split
  · rename_i hw; rw [if_pos hw] at h; obtain ⟨v,h1,h2⟩:=h; exact ⟨v,h1,iH hk l _ h2⟩
  · rename_i hw; rw [if_neg hw] at h; exact iH hk l _ h
theorem pJ {P:Program} {C C':World→Prop} {o:Oper} {a:Act} {w:World} {v:Value} (hc:∀ w',C w'→C' w') (h:o.quietAt P a C w v):o.quietAt P a C' w v:=by
 unfold Oper.quietAt Oper.quietUpon at h ⊢
 split at h
 · exact h
 · exact h
 · exact ⟨h.1,h.2.mono fun e w'' ⟨h1,h2⟩=>⟨h1,hc _ h2⟩⟩
 · exact h.elim
theorem iI {P:Program} {C:World→Prop} {K:Act→Prop} (hc:∀ w w',C w→Chg [] w w'→C w'):∀ (l:List Oper) (a:Act),fb P ops C K l a→wpQuiet P ops C K l a
 | [],a,h=>h
 | o::l,a,h=>by
  unfold fb at h
  unfold wpQuiet
  split
  · rename_i hw; rw [if_pos hw] at h; obtain ⟨v,h1,h2⟩:=h; exact ⟨v,fun w hw=>pJ (fun w' h=>hc w w' hw h) (h1 w hw),iI hc l _ h2⟩
  · rename_i hw; rw [if_neg hw] at h; exact iI hc l _ h
theorem aa {id:Nat} {l:List Oper} (h:TriX false cx l.toArray fs H l Q):Tri cx fs H (.region id l.toArray false) Q:=fun a w ha hw=>wp_region_lit (h a w ha hw)
theorem xf {id:Nat} {l:List Oper} (hm:cx.P.follows .mixedOrders=true) (hB:Region.lexB .any l.toArray=true) (h:TriX true cx l.toArray fs H l Q):Tri cx fs H (.region id l.toArray true) Q:=fun a w ha hw =>
 wp_region_quiet (C:=Sat cx H) hm hB hw.drew (by
  have h1:=h a ha
  refine iI (fun w w' h k=>h.ext k) l a (iH ?_ l a h1)
  rintro a' ⟨fs',h2,h3⟩ w' hw'
  exact ⟨fs',H,h2,hw',h3⟩)
theorem ab {m:Bool} (h:Q .normal fs H):TriX m cx ops fs H [] Q:=by
 cases m with
 | false=>exact fun _ _ ha hw=>wpList_nil ⟨fs,H,ha,hw,h⟩
 | true=>exact fun _ ha=>⟨fs,ha,h⟩
theorem eL {P:Program} {o:Oper} {a:Act} {next next':Act→World→Prop} {R R':Exit→Act→World→Prop} (hn:∀ a w,next a w→next' a w) (hp:∀ ch a w,R (.panic ch) a w→R' (.panic ch) a w) (hg:∀ a w,R .outgrown a w→R' .outgrown a w) (r:Result Next)
  (h:o.upon P a next R r):o.upon P a next' R' r:=by
 unfold Oper.upon at h ⊢
 split at h
 · exact hn _ _ h
 · exact hn _ _ h
 · exact hn _ _ h
 · refine h.mono fun e w' he=>?_
   cases e with
   | returned v=>exact hn _ _ he
   | panicked ch=>exact hp _ _ _ he
   | outgrown=>obtain ⟨a',w'',hl⟩:=he; exact ⟨a',w'',hg _ _ hl⟩
 · exact h.mono fun v w' hv=>hn _ _ hv
 · exact hp _ _ _ h
 · exact h.elim
theorem i6 {P:Program} {ops:Array Oper} {R R':Exit→Act→World→Prop} (hq:∀ e a w,R e a w→R' e a w):∀ l a w,wpList P ops R l a w→wpList P ops R' l a w
 | [],_,_,h=>hq _ _ _ h
 | o::l,a,w,h=>by
  unfold wpList at h ⊢
  split
  · rename_i hw
    rw [if_pos hw] at h
    rcases h with h | ⟨h,a',w',hl⟩
    · exact .inl (eL (fun a w=>i6 hq l a w) (fun _=>hq _) (hq _) _ h)
    · exact .inr ⟨h,a',w',hq _ _ _ hl⟩
  · rename_i hw
    rw [if_neg hw] at h
    exact i6 hq l _ _ h
theorem TriX.subF {m:Bool} {l:List Oper} {fs':aW} (hs:∀ d v,look fs' d=some v→look fs d=some v) (h:TriX m cx ops fs' H l Q):TriX m cx ops fs H l Q:=by
 cases m with
 | false=>exact fun a w ha hw=>h a w ⟨ha.ds,ha.size,fun d v hd=>ha.at_ d v (hs d v hd)⟩ hw
 | true=>exact fun a ha=>h a ⟨ha.ds,ha.size,fun d v hd=>ha.at_ d v (hs d v hd)⟩
theorem TriX.heap {l:List Oper} {H':List Chunk} (hs:∀ w,Sat cx H w→Sat cx H' w) (h:TriX false cx ops fs H' l Q):TriX false cx ops fs H l Q:=fun a w ha hw=>h a w ha (hs w hw)
theorem TriX.know {l:List Oper} {p:Prop} (hp:∀ w,Sat cx H w→p) (h:p→TriX false cx ops fs H l Q):TriX false cx ops fs H l Q:=fun a w ha hw=>h (hp w hw) a w ha hw
theorem fM {o:Oper} {J:Type} (val:J→Value) (HH:J→List Chunk) (Pu:J→Prop) (hw:iG ops fs o.guard=some true) (hd:∀ e,o.dst=some e→Nat.blt e cx.n=true)
  (hrun:∀ a w,Has cx.n cx.ds fs a→Sat cx H w→∃ j w',((execOp a.eval o).run cx.P w=.ok (.value (val j)) w'∨(execOp a.eval o).run cx.P w=.ok .skip w'∧val j=undef)∧Sat cx (HH j) w'∧Pu j)
  (k:∀ j,Pu j→TriL cx ops (match o.dst with | some e=>(e,val j)::fs | none=>fs) (HH j) rest Q):TriL cx ops fs H (o::rest) Q:=by
 intro a w ha hs
 unfold wpList
 rw [if_pos (cW ha hw o rfl)]
 left
 obtain ⟨j,w',hr,hs',hp⟩:=hrun a w ha hs
 have hk:=k j hp
 have hput:∀ e,o.dst=some e→Has cx.n cx.ds ((e,val j)::fs) (a.put o.dst (val j)):=fun e he=>by rw [he]; exact ha.put (hd e he) _
 unfold Oper.wp
 have goal:wpList cx.P ops (iF cx Q) rest (a.put o.dst (val j)) w':=by
  cases hdst:o.dst with
  | none=>rw [hdst] at hk; exact hk _ _ ha hs'
  | some e=>have:=hput e hdst; rw [hdst] at hk this; exact hk _ _ this hs'
 rcases hr with hr | ⟨hr,hu⟩
 · rw [hr]; exact goal
 · rw [hr,Oper.upon_skip, ← hu]; exact goal
theorem bd {m:Bool} {op:Op} (v:Value) (hok:okS cx.n ops fs d g=true)
  (hrun:∀ a w,Has cx.n cx.ds fs a→Sat cx H w→(execOp a.eval ⟨some d,op,ty,pos,af,g⟩).run cx.P w=.ok (.value v) w)
  (k:TriX m cx ops ((d,v)::fs) H rest Q):TriX m cx ops fs H (⟨some d,op,ty,pos,af,g⟩::rest) Q:=by
 cases m with
 | false =>
  exact fM (J:=Unit) (fun _=>v) (fun _=>H) (fun _=>True) (ee hok) (fun e he=>by cases he; exact hM hok)
   (fun a w ha hw=>⟨(),w,.inl (hrun a w ha hw),hw,trivial⟩) (fun _ _=>k)
 | true =>
  intro a ha
  unfold fb
  rw [if_pos (cW ha (ee hok) _ rfl)]
  refine ⟨v,fun w hw=>?_,k _ (ha.put (hM hok) _)⟩
  unfold Oper.quietAt
  rw [hrun a w ha hw]
  exact ⟨rfl,rfl⟩
theorem jw {m:Bool} {op:Op} (hw:iG ops fs g=some false) (hd:Nat.blt d cx.n=true) (k:TriX m cx ops ((d,undef)::fs) H rest Q):TriX m cx ops fs H (⟨some d,op,ty,pos,af,g⟩::rest) Q:=by
 cases m with
 | false =>
  intro a w ha hs
  unfold wpList
  rw [if_neg (by rw [cW ha hw _ rfl]; simp)]
  exact k _ _ (ha.put hd _) hs
 | true =>
  intro a ha
  unfold fb
  rw [if_neg (by rw [cW ha hw _ rfl]; simp)]
  exact k _ (ha.put hd _)
theorem uc {m:Bool} {op:Op} (hw:iG ops fs g=some false) (k:TriX m cx ops fs H rest Q):TriX m cx ops fs H (⟨none,op,ty,pos,af,g⟩::rest) Q:=by
 cases m with
 | false =>
  intro a w ha hs
  unfold wpList
  rw [if_neg (by rw [cW ha hw _ rfl]; simp)]
  exact k _ _ ha hs
 | true =>
  intro a ha
  unfold fb
  rw [if_neg (by rw [cW ha hw _ rfl]; simp)]
  exact k _ ha
variable {m:Bool}
theorem ai {x:Operand} {v:Value} (hok:okS cx.n ops fs d g=true) (hx:ev fs x=some v) (k:TriX m cx ops ((d,v)::fs) H rest Q):TriX m cx ops fs H (⟨some d,.move x,ty,pos,af,g⟩::rest) Q :=
 bd v hok (fun a w ha _=>by simp [execOp,ha.eval hx]) k
theorem aO {x:Operand} {v:Value} (hok:okS cx.n ops fs d g=true) (hx:ev fs x=some v) (k:TriX m cx ops ((d,v)::fs) H rest Q):TriX m cx ops fs H (⟨some d,.assign x,ty,pos,af,g⟩::rest) Q :=
 bd v hok (fun a w ha _=>by simp [execOp,ha.eval hx]) k
theorem kB {c x y:Operand} {t:Bool} {u v:Value} (hok:okS cx.n ops fs d g=true) (hc:ev fs c=some (.bool t)) (hx:ev fs x=some u) (hy:ev fs y=some v)
  (k:TriX m cx ops ((d,if t then u else v)::fs) H rest Q):TriX m cx ops fs H (⟨some d,.pick c x y,ty,pos,af,g⟩::rest) Q :=
 bd _ hok (fun a w ha _=>by simp [execOp,ha.eval hx,ha.eval hy,ha.eval hc,asBool]) k
theorem dH {P:Program} {a:Act} {w:World} {op:BinOp} {t yt:TypeId} {x y:Operand} {u v r:Value} {dd:Option Tmp} (e1:a.eval x=u) (e2:a.eval y=v) (hg:eqGuard op t x y u v=pure ())
  (hr:(binOp op t u v).run P w=.ok r w):(execOp a.eval ⟨dd,.binOp op t x y yt,ty,pos,af,g⟩).run P w=.ok (.value r) w:=by
 simp only [execOp,e1,e2,hg]
 simp [hr]
theorem run_un {P:Program} {a:Act} {w:World} {op:UnOp} {t:TypeId} {x:Operand} {u r:Value} {dd:Option Tmp} (e1:a.eval x=u)
  (hr:(Op.unary op u).run P w=.ok r w):(execOp a.eval ⟨dd,.unOp op t x,ty,pos,af,g⟩).run P w=.ok (.value r) w:=by
 simp only [execOp,e1]
 simp [hr]
section
variable {P:Program} {w:World} {t:TypeId} {k:IntKind} {p q:Int}
theorem bin_add:(binOp .add t (.int k p) (.int k q)).run P w=.ok (.int k (k.wrap (p+q))) w:=by simp [binOp,Op.intArith]
theorem bin_sub:(binOp .sub t (.int k p) (.int k q)).run P w=.ok (.int k (k.wrap (p - q))) w:=by simp [binOp,Op.intArith]
theorem bin_lss:(binOp .lss t (.int k p) (.int k q)).run P w=.ok (.bool (decide (p < q))) w:=by simp [binOp,Op.intCmp]
theorem bin_leq:(binOp .leq t (.int k p) (.int k q)).run P w=.ok (.bool (decide (p≤q))) w:=by simp [binOp,Op.intCmp]
theorem bin_gtr:(binOp .gtr t (.int k p) (.int k q)).run P w=.ok (.bool (decide (q < p))) w:=by simp [binOp,Op.intCmp]
theorem bin_geq:(binOp .geq t (.int k p) (.int k q)).run P w=.ok (.bool (decide (q≤p))) w:=by simp [binOp,Op.intCmp]
theorem bin_eqlI:(binOp .eql t (.int k p) (.int k q)).run P w=.ok (.bool (decide (p=q))) w:=by
 have:(p == q)=decide (p=q):=by by_cases h:p=q<;>simp [h]
 simp [binOp,Op.intCmp,this]
theorem bin_neqI:(binOp .neq t (.int k p) (.int k q)).run P w=.ok (.bool (decide (p≠q))) w:=by
 have:(p != q)=decide (p≠q):=by by_cases h:p=q<;>simp [h]
 simp [binOp,Op.intCmp,this]
end
section
variable {x y:Operand} {t yt:TypeId} {ki:IntKind} {p q:Int}
variable (hok:okS cx.n ops fs d g=true) (hx:ev fs x=some (.int ki p)) (hy:ev fs y=some (.int ki q))
include hok hx hy
theorem o_add (k:TriX m cx ops ((d,.int ki (ki.wrap (p+q)))::fs) H rest Q):TriX m cx ops fs H (⟨some d,.binOp .add t x y yt,ty,pos,af,g⟩::rest) Q :=
 bd _ hok (fun _ _ ha _=>dH (ha.eval hx) (ha.eval hy) rfl bin_add) k
theorem o_sub (k:TriX m cx ops ((d,.int ki (ki.wrap (p - q)))::fs) H rest Q):TriX m cx ops fs H (⟨some d,.binOp .sub t x y yt,ty,pos,af,g⟩::rest) Q :=
 bd _ hok (fun _ _ ha _=>dH (ha.eval hx) (ha.eval hy) rfl bin_sub) k
theorem cR (k:TriX m cx ops ((d,.bool (decide (p < q)))::fs) H rest Q):TriX m cx ops fs H (⟨some d,.binOp .lss t x y yt,ty,pos,af,g⟩::rest) Q :=
 bd _ hok (fun _ _ ha _=>dH (ha.eval hx) (ha.eval hy) rfl bin_lss) k
theorem lH (k:TriX m cx ops ((d,.bool (decide (p≤q)))::fs) H rest Q):TriX m cx ops fs H (⟨some d,.binOp .leq t x y yt,ty,pos,af,g⟩::rest) Q :=
 bd _ hok (fun _ _ ha _=>dH (ha.eval hx) (ha.eval hy) rfl bin_leq) k
theorem i8 (k:TriX m cx ops ((d,.bool (decide (q < p)))::fs) H rest Q):TriX m cx ops fs H (⟨some d,.binOp .gtr t x y yt,ty,pos,af,g⟩::rest) Q :=
 bd _ hok (fun _ _ ha _=>dH (ha.eval hx) (ha.eval hy) rfl bin_gtr) k
theorem mh (k:TriX m cx ops ((d,.bool (decide (q≤p)))::fs) H rest Q):TriX m cx ops fs H (⟨some d,.binOp .geq t x y yt,ty,pos,af,g⟩::rest) Q :=
 bd _ hok (fun _ _ ha _=>dH (ha.eval hx) (ha.eval hy) rfl bin_geq) k
theorem aD (k:TriX m cx ops ((d,.bool (decide (p=q)))::fs) H rest Q):TriX m cx ops fs H (⟨some d,.binOp .eql t x y yt,ty,pos,af,g⟩::rest) Q :=
 bd _ hok (fun _ _ ha _=>dH (ha.eval hx) (ha.eval hy) (eqGuard_at_int _ _ _ _ _ _ _) bin_eqlI) k
theorem cX (k:TriX m cx ops ((d,.bool (decide (p≠q)))::fs) H rest Q):TriX m cx ops fs H (⟨some d,.binOp .neq t x y yt,ty,pos,af,g⟩::rest) Q :=
 bd _ hok (fun _ _ ha _=>dH (ha.eval hx) (ha.eval hy) (eqGuard_at_int _ _ _ _ _ _ _) bin_neqI) k
end
section
variable {x y:Operand} {t yt:TypeId} {ki kj:IntKind} {p q:Int}
variable (hok:okS cx.n ops fs d g=true) (hx:ev fs x=some (.int ki p)) (hy:ev fs y=some (.int kj q))
include hok hx hy
end
theorem ey {v v':Value} {l:List Oper} (h:v=v') (k:TriX m cx ops ((d,v')::fs) H l Q):TriX m cx ops ((d,v)::fs) H l Q:=by rw [h]; exact k
theorem dV {x:Operand} {t:TypeId} {b:Bool} (hok:okS cx.n ops fs d g=true) (hx:ev fs x=some (.bool b)) (k:TriX m cx ops ((d,.bool (!b))::fs) H rest Q):TriX m cx ops fs H (⟨some d,.unOp .not t x,ty,pos,af,g⟩::rest) Q :=
 bd _ hok (fun a w ha _=>run_un (ha.eval hx) (by simp [Op.unary])) k
theorem rb {x y:Operand} {t yt:TypeId} {b c:Bool} (hok:okS cx.n ops fs d g=true) (ht:cx.P.underlying t=some .bool) (hx:ev fs x=some (.bool b)) (hy:ev fs y=some (.bool c)) (k:TriX m cx ops ((d,.bool (b == c))::fs) H rest Q) :
  TriX m cx ops fs H (⟨some d,.binOp .eql t x y yt,ty,pos,af,g⟩::rest) Q :=
 bd _ hok (fun _ w ha _=>dH (ha.eval hx) (ha.eval hy) (eqGuard_at_bool _ _ _ _ _ _) (run_eql_bool w t b c ht)) k
theorem rc {x y:Operand} {t yt:TypeId} {b c:Bool} (hok:okS cx.n ops fs d g=true) (ht:cx.P.underlying t=some .bool) (hx:ev fs x=some (.bool b)) (hy:ev fs y=some (.bool c)) (k:TriX m cx ops ((d,.bool (b != c))::fs) H rest Q) :
  TriX m cx ops fs H (⟨some d,.binOp .neq t x y yt,ty,pos,af,g⟩::rest) Q :=
 bd _ hok (fun a w ha _=>dH (ha.eval hx) (ha.eval hy) (eqGuard_at_bool _ _ _ _ _ _) (by rw [run_neq_bool w t b c ht]; rfl)) k
end
section
variable {m:Bool} {cx:Cx} {fs:aW} {H:List Chunk} {Q:co} {ops:Array Oper} {rest:List Oper} {g:Option (Nat × Bool)} {d:Nat} {ty:TypeId} {pos:String} {af:Array Edge}
theorem triL_nilN {K:aW→List Chunk→Prop} (h:K fs H):TriX m cx ops fs H [] (kz K Q):=ab (ag h)
theorem o_assignN {x:Operand} {v:Value} {K:aW→List Chunk→Prop} (hok:okS cx.n ops fs d g=true) (hx:ev fs x=some v) (k:K ((d,v)::fs) H):TriX m cx ops fs H [⟨some d,.assign x,ty,pos,af,g⟩] (kz K Q):=aO hok hx (triL_nilN k)
end
theorem N0 {c:Chunk} {l:List Chunk}:Nth (c::l) 0 c:=.z
theorem N1 {d0 c:Chunk} {l:List Chunk}:Nth (d0::c::l) 1 c:=(.s .z)
theorem N2 {d0 d1 c:Chunk} {l:List Chunk}:Nth (d0::d1::c::l) 2 c:=(.s (.s .z))
theorem N3 {d0 d1 d2 c:Chunk} {l:List Chunk}:Nth (d0::d1::d2::c::l) 3 c:=(.s (.s (.s .z)))
theorem N4 {d0 d1 d2 d3 c:Chunk} {l:List Chunk}:Nth (d0::d1::d2::d3::c::l) 4 c:=(.s (.s (.s (.s .z))))
theorem N5 {d0 d1 d2 d3 d4 c:Chunk} {l:List Chunk}:Nth (d0::d1::d2::d3::d4::c::l) 5 c:=(.s (.s (.s (.s (.s .z)))))
theorem N6 {d0 d1 d2 d3 d4 d5 c:Chunk} {l:List Chunk}:Nth (d0::d1::d2::d3::d4::d5::c::l) 6 c:=(.s (.s (.s (.s (.s (.s .z))))))
theorem N7 {d0 d1 d2 d3 d4 d5 d6 c:Chunk} {l:List Chunk}:Nth (d0::d1::d2::d3::d4::d5::d6::c::l) 7 c:=(.s (.s (.s (.s (.s (.s (.s .z)))))))
theorem N8 {d0 d1 d2 d3 d4 d5 d6 d7 c:Chunk} {l:List Chunk}:Nth (d0::d1::d2::d3::d4::d5::d6::d7::c::l) 8 c:=(.s (.s (.s (.s (.s (.s (.s (.s .z))))))))
theorem N9 {d0 d1 d2 d3 d4 d5 d6 d7 d8 c:Chunk} {l:List Chunk}:Nth (d0::d1::d2::d3::d4::d5::d6::d7::d8::c::l) 9 c:=(.s (.s (.s (.s (.s (.s (.s (.s (.s .z)))))))))
theorem N10 {d0 d1 d2 d3 d4 d5 d6 d7 d8 d9 c:Chunk} {l:List Chunk}:Nth (d0::d1::d2::d3::d4::d5::d6::d7::d8::d9::c::l) 10 c:=(.s (.s (.s (.s (.s (.s (.s (.s (.s (.s .z))))))))))
theorem N11 {d0 d1 d2 d3 d4 d5 d6 d7 d8 d9 d10 c:Chunk} {l:List Chunk}:Nth (d0::d1::d2::d3::d4::d5::d6::d7::d8::d9::d10::c::l) 11 c:=(.s (.s (.s (.s (.s (.s (.s (.s (.s (.s (.s .z)))))))))))
theorem N12 {d0 d1 d2 d3 d4 d5 d6 d7 d8 d9 d10 d11 c:Chunk} {l:List Chunk}:Nth (d0::d1::d2::d3::d4::d5::d6::d7::d8::d9::d10::d11::c::l) 12 c:=(.s (.s (.s (.s (.s (.s (.s (.s (.s (.s (.s (.s .z))))))))))))
end Go.WK
namespace Go.WK
open Go.RowKit
def cF (P:Program) (t:TypeId):Option Bool:=match P.underlying t with | some (.struct _) | some (.array _ _)=>some true | some _=>some false | none=>none
def szB (P:Program) (t:TypeId):Option Nat:=(P.info? t).map (·.size)
def bo (P:Program) (t:TypeId) (f:Nat):Option Nat:=match P.underlying t with
 | some (.struct fs)=>match fs[f]? with
  | some fd=>match szB P fd.type with
   | some 0=>none
   | some _=>some fd.offset
   | none=>none
  | none=>none
 | _=>none
section
variable {P:Program} {w:World}
theorem ez {t:TypeId} {b:Bool} (h:cF P t=some b):(isAgg t).run P w=.ok b w:=by
 unfold cF at h
 unfold isAgg
 cases hu:P.underlying t with
 | none=>simp [hu] at h
 | some ds=>cases ds<;>simp_all [run_underlying hu]
theorem dq {t:TypeId} {z:Nat} (h:szB P t=some z):(sizeOf t).run P w=.ok z w:=by
 unfold szB at h
 cases hi:P.info? t with
 | none=>simp [hi] at h
 | some i=>simp [hi] at h; simp [sizeOf,typeInfo,hi,h]
theorem ja (a:Addr) (i j:Nat):(a.add i).add j=a.add (i+j):=by
 unfold Addr.add
 by_cases hi:i=0<;>by_cases hj:j=0<;>simp [hi,hj,Nat.add_assoc]
theorem jx (a:Addr) (i:Nat):(a.add i).block=a.block:=by unfold Addr.add; split<;>rfl
theorem jU (g o i:Nat):(⟨g,o,none⟩:Addr).add i=⟨g,o+i,none⟩:=by unfold Addr.add; split<;>simp_all
theorem pV {t:TypeId} {f fo:Nat} (h:bo P t f=some fo) (a:Addr):(Instr.fieldAt t (.pointer (some a)) f).run P w=.ok (.pointer (some (a.add fo))) w:=by
 unfold bo at h
 cases hu:P.underlying t with
 | none=>simp [hu] at h
 | some ds =>
  cases ds<;>simp only [hu] at h<;>try cases h
  rename_i fs
  cases hf:fs[f]? with
  | none=>simp [hf] at h
  | some fd =>
   simp only [hf] at h
   cases hz:szB P fd.type with
   | none=>simp [hz] at h
   | some z =>
    cases z with
    | zero=>simp [hz] at h
    | succ z =>
     simp only [hz,Option.some.injEq] at h
     subst h
     simp [Instr.fieldAt,run_underlying hu,hf,Instr.sureAddr,fieldPlace,dq hz]
end
def Rd (w:World) (A:Option Addr) (xs:List Value):Prop:=∀ j u,xs[j]? = some u→∃ a,A=some a∧w.cell? (a.add j)=some u
def RdS (cx:Cx) (H:List Chunk) (A:Option Addr) (xs:List Value):Prop:=∀ w,Sat cx H w→Rd w A xs
def ko (A:Option Addr) (k:Nat):Value:=.pointer (A.map (·.add k))
def cutA (A:Option Addr) (cap l s:Nat):Option Addr:=if cap=l then A else A.map (·.add (l * s))
theorem Rd.nil (w:World) (A:Option Addr):Rd w A []:=fun j u h=>by simp at h
theorem Rd.ext {w w':World} {A:Option Addr} {xs:List Value} (h:Rd w A xs) (hx:Chg [] w w'):Rd w' A xs:=fun j u hj=>by
 obtain ⟨a,ha,hc⟩:=h j u hj
 exact ⟨a,ha,(World.cell?_of_block (hx.block _ (World.block_lt_of_cell? w _ hc) (by simp))).trans hc⟩
theorem Rd.chg {l:List Nat} {w w':World} {A:Option Addr} {xs:List Value} (h:Rd w A xs) (hx:Chg l w w') (hl:∀ a,A=some a→a.block ∉ l):Rd w' A xs:=fun j u hj=>by
 obtain ⟨a,ha,hc⟩:=h j u hj
 exact ⟨a,ha,(World.cell?_of_block (hx.block _ (World.block_lt_of_cell? w _ hc) (by rw [jx]; exact hl a ha))).trans hc⟩
section
variable {cx:Cx} {H:List Chunk} {A:Option Addr} {xs:List Value}
theorem RdS.arg (h:Rd cx.w0 A xs) (hl:cx.lent=[]):RdS cx H A xs:=fun _ hs=>h.chg hs.chg (fun a _=>by rw [hl]; simp)
theorem RdS.lent (h:Rd cx.w0 A xs) (hl:∀ a,A=some a→a.block ∉ cx.lent):RdS cx H A xs:=fun _ hs=>h.chg hs.chg hl
theorem RdS.row {i e size n c:Nat} (hn:Nth H i (row (.slice A n c) e size n xs)):RdS cx H A xs:=fun w hs j u hj=>by
 have ho:w.ownsRow 0 e size (.slice A n c) n xs:=hs.holds _ hn.mem
 cases A with
 | none =>
  obtain ⟨hl,h2⟩:=ho
  rcases h2 with ⟨h3,h4⟩ | ⟨g,cap,cur,hv,_⟩
  · subst h4; have:xs=[]:=List.eq_nil_of_length_eq_zero (by simpa using hl)
    subst this; simp at hj
  · injection hv with h5; cases h5
 | some a =>
  have hform:=ho.2
  rcases hform with ⟨h3,_⟩ | ⟨g,cap,cur,hv,_⟩
  · injection h3 with h5; cases h5
  · injection hv with h5
    injection h5 with h5
    subst h5
    exact ⟨_,rfl,ho.cells (g:=g) rfl j u hj⟩
theorem RdS.box {i g t:Nat} {cs:List Value} (hn:Nth H i (box g t cs)):RdS cx H (some ⟨g,0,none⟩) cs:=fun w hs j u hj=>by
 have hb:w.heap[g]? = some (.cells cs.toArray t (0,0)):=hs.holds _ hn.mem
 exact ⟨_,rfl,by rw [jU,Nat.zero_add,cell_of_row w g j cs.toArray t (0,0) hb]; simpa using hj⟩
end
abbrev B (l:List UInt8):ByteArray:=⟨l.toArray⟩
def kq (b:UInt8):Value:=.int .u8 (b.toNat:Int)
def dw (l:List UInt8):List Value:=l.map kq
theorem pL (l:List UInt8):(dw l).length=l.length:=by simp [dw]
theorem dC (l:List UInt8):(B l).size=l.length:=by simp [ByteArray.size]
theorem iJ (l:List UInt8):(B l).toList=l:=by
 simp
section ops
variable {m:Bool}
variable {cx:Cx} {fs:aW} {H:List Chunk} {Q:co} {ops:Array Oper} {rest:List Oper} {g:Option (Nat × Bool)} {d:Nat} {ty:TypeId} {pos:String} {af:Array Edge}
theorem cD {x:Operand} {t:TypeId} {v:Value} (cs:List Value) (hok:okS cx.n ops fs d g=true) (hx:ev fs x=some v) (hcs:v.cells=cs.toArray)
  (k:∀ b:Nat,TriX false cx ops ((d,.pointer (some ⟨b,0,none⟩))::fs) (box b t cs::H) rest Q):TriX false cx ops fs H (⟨some d,.box t x,ty,pos,af,g⟩::rest) Q :=
 fM (J:=Nat) (fun b=>.pointer (some ⟨b,0,none⟩)) (fun b=>box b t cs::H) (fun _=>True) (ee hok) (fun e he=>by cases he; exact hM hok)
  (fun a w ha hw=>⟨w.heap.size,w.alloc (.cells cs.toArray t),.inl (by simp [execOp,ha.eval hx,Instr.box,newVar,newRow,hcs]),hw.push (Chg.alloc _ _ _) _ (heap_alloc_new w _) (fun k hk=>by cases hk; exact Nat.le_refl _),trivial⟩) (fun b _=>k b)
theorem aQ {t:TypeId} {z:Value} (cs:List Value) (hok:okS cx.n ops fs d g=true) (hz:(cx.P.info? t).map (·.zero)=some (some z)) (hcs:z.cells=cs.toArray)
  (k:∀ b:Nat,TriX false cx ops ((d,.pointer (some ⟨b,0,none⟩))::fs) (box b t cs::H) rest Q):TriX false cx ops fs H (⟨some d,.alloc t,ty,pos,af,g⟩::rest) Q :=
 fM (J:=Nat) (fun b=>.pointer (some ⟨b,0,none⟩)) (fun b=>box b t cs::H) (fun _=>True) (ee hok) (fun e he=>by cases he; exact hM hok)
  (fun a w ha hw=>⟨w.heap.size,w.alloc (.cells cs.toArray t),.inl (by
   obtain ⟨i,hi,hz'⟩:=Option.map_eq_some_iff.1 hz
   simp [execOp,Instr.alloc,zeroValue,typeInfo,hi,hz',newVar,newRow,hcs]),hw.push (Chg.alloc _ _ _) _ (heap_alloc_new w _) (fun k hk=>by cases hk; exact Nat.le_refl _),trivial⟩) (fun b _=>k b)
theorem aj {x:Operand} {t:TypeId} {f fo b o:Nat} (hf:bo cx.P t f=some fo) (hok:okS cx.n ops fs d g=true) (hx:ev fs x=some (.pointer (some ⟨b,o,none⟩)))
  (k:TriX m cx ops ((d,.pointer (some ⟨b,o+fo,none⟩))::fs) H rest Q):TriX m cx ops fs H (⟨some d,.fieldAddr t x f,ty,pos,af,g⟩::rest) Q :=
 bd _ hok (fun a w ha _=>by simp [execOp,ha.eval hx,pV hf,jU]) k
theorem aV {x:Operand} {t:TypeId} {f fo kk:Nat} {A:Option Addr} {xs:List Value} {u:Value} (hf:bo cx.P t f=some fo) (hok:okS cx.n ops fs d g=true) (hx:ev fs x=some (ko A kk)) (hr:RdS cx H A xs) (hu:xs[kk]? = some u)
  (k:TriX m cx ops ((d,ko A (kk+fo))::fs) H rest Q):TriX m cx ops fs H (⟨some d,.fieldAddr t x f,ty,pos,af,g⟩::rest) Q :=
 bd _ hok (fun a w ha hw=>by
  obtain ⟨a0,rfl,_⟩:=hr w hw _ u hu
  simp [execOp,ha.eval hx,ko,pV hf,ja]) k
theorem kC {P:Program} {w:World} {t:TypeId} {a:Addr} {v:Value} (ht:cF P t=some false) (hc:w.cell? a=some v):(Instr.loadAt t (.pointer (some a))).run P w=.ok v w:=by
 simp [Instr.loadAt,Instr.sureAddr,loadVar,ez ht,hc]
theorem nu {P:Program} {w:World} {t:TypeId} {a:Addr} {vs:List Value} (ht:cF P t=some true) (hz:szB P t=some vs.length) (hc:∀ j v,vs[j]? = some v→w.cell? (a.add j)=some v) :
  (Instr.loadAt t (.pointer (some a))).run P w=.ok (.agg vs.toArray) w:=by
 simp [Instr.loadAt,Instr.sureAddr,loadVar,ez ht,dq hz,run_loadCells_list w a vs hc]
theorem ak {x:Operand} {t bt b o i:Nat} {cs:List Value} {v:Value} (ht:cF cx.P t=some false) (hn:Nth H i (box b bt cs)) (hok:okS cx.n ops fs d g=true) (hx:ev fs x=some (.pointer (some ⟨b,o,none⟩))) (hv:cs[o]? = some v)
  (k:TriX m cx ops ((d,v)::fs) H rest Q):TriX m cx ops fs H (⟨some d,.load t x,ty,pos,af,g⟩::rest) Q :=
 bd v hok (fun a w ha hw=>by
  have hb:w.heap[b]? = some (.cells cs.toArray bt (0,0)):=hw.holds _ hn.mem
  have hc:w.cell? ⟨b,o,none⟩=some v:=by rw [cell_of_row w b o cs.toArray bt (0,0) hb]; simpa using hv
  simp [execOp,ha.eval hx,kC ht hc]) k
theorem aS {x:Operand} {t bt b o i z:Nat} {cs vs:List Value} (ht:cF cx.P t=some true) (hz:szB cx.P t=some z) (hn:Nth H i (box b bt cs)) (hok:okS cx.n ops fs d g=true) (hx:ev fs x=some (.pointer (some ⟨b,o,none⟩)))
  (hv:(cs.drop o).take z=vs) (hl:vs.length=z) (k:TriX m cx ops ((d,.agg vs.toArray)::fs) H rest Q):TriX m cx ops fs H (⟨some d,.load t x,ty,pos,af,g⟩::rest) Q :=
 bd _ hok (fun a w ha hw=>by
  have hb:w.heap[b]? = some (.cells cs.toArray bt (0,0)):=hw.holds _ hn.mem
  have hc:∀ j v,vs[j]? = some v→w.cell? ((⟨b,o,none⟩:Addr).add j)=some v:=fun j v hj=>by
   rw [jU,cell_of_row w b _ cs.toArray bt (0,0) hb]
   rw [← hv,List.getElem?_take] at hj
   split at hj
   · simpa using hj
   · cases hj
  simp [execOp,ha.eval hx,nu ht (by rw [hz,hl]) hc]) k
theorem aL {x:Operand} {t kk:Nat} {A:Option Addr} {xs:List Value} {v:Value} (ht:cF cx.P t=some false) (hok:okS cx.n ops fs d g=true) (hx:ev fs x=some (ko A kk)) (hr:RdS cx H A xs) (hv:xs[kk]? = some v)
  (k:TriX m cx ops ((d,v)::fs) H rest Q):TriX m cx ops fs H (⟨some d,.load t x,ty,pos,af,g⟩::rest) Q :=
 bd v hok (fun a w ha hw=>by
  obtain ⟨a0,rfl,hc⟩:=hr w hw _ v hv
  simp [execOp,ha.eval hx,ko,kC ht hc]) k
theorem bF {x:Operand} {t kk z:Nat} {A:Option Addr} {xs vs:List Value} (ht:cF cx.P t=some true) (hz:szB cx.P t=some z) (hok:okS cx.n ops fs d g=true) (hx:ev fs x=some (ko A kk)) (hr:RdS cx H A xs)
  (hv:(xs.drop kk).take z=vs) (hl:vs.length=z) (hpos:0 < z) (k:TriX m cx ops ((d,.agg vs.toArray)::fs) H rest Q):TriX m cx ops fs H (⟨some d,.load t x,ty,pos,af,g⟩::rest) Q :=
 bd _ hok (fun a w ha hw=>by
  have hget:∀ j v,vs[j]? = some v→xs[kk+j]? = some v:=fun j v hj=>by
   rw [← hv,List.getElem?_take] at hj
   split at hj
   · simpa using hj
   · cases hj
  have h0:0 < vs.length:=by omega
  obtain ⟨a0,rfl,_⟩:=hr w hw _ _ (hget 0 _ (List.getElem?_eq_getElem h0))
  have hc:∀ j v,vs[j]? = some v→w.cell? ((a0.add kk).add j)=some v:=fun j v hj=>by
   obtain ⟨a1,h1,hc⟩:=hr w hw _ _ (hget j v hj)
   cases h1
   rw [ja]; exact hc
  simp [execOp,ha.eval hx,ko,nu ht (by rw [hz,hl]) hc]) k
def hY:List Value→Nat→List Value→List Value
 | cs,_,[]=>cs
 | cs,o,v::vs=>hY (cs.set o v) (o+1) vs
theorem lj (vs:List Value):∀ (cs:List Value) (o:Nat),o+vs.length≤cs.length→hY cs o vs=cs.take o++vs++cs.drop (o+vs.length):=by
 induction vs with
 | nil=>intro cs o _; simp [hY]
 | cons v vs ih =>
  intro cs o h
  simp only [List.length_cons] at h
  rw [hY,ih _ _ (by simp; omega)]
  have e:=list_seg_step cs o v vs (by omega)
  simpa [Nat.add_assoc,Nat.add_comm 1] using e
theorem ud {P:Program} {w:World} {t b bt o z:Nat} {cs vs:List Value} {v:Value} (hz:szB P t=some z) (hb:w.heap[b]? = some (.cells cs.toArray bt (0,0))) (hv:v.cells=vs.toArray) (hl:vs.length=z) (hfit:o+z≤cs.length)
  (h1:∀ u ∈ vs,u.oneCell'=true):(Instr.storeAt t (.pointer (some ⟨b,o,none⟩)) v).run P w=.ok () (w.setRow b (hY cs o vs).toArray):=by
 have hst:=run_storeCells_at P b o bt vs 0 cs.toArray w hb (by simp; omega) h1
 simp only [Nat.add_zero] at hst
 rw [← lj vs cs o (by omega)] at hst
 simp [Instr.storeAt,Instr.sureAddr,storeVar,dq hz,hv,hl,hst]
theorem gE {w:World} {g t:Nat} {c:Array Value} {fr:Nat × Nat} (cs:Array Value) (h:w.heap[g]? = some (.cells c t fr)):(w.setRow g cs).heap[g]? = some (.cells cs t fr):=setRow_heap w g c cs t fr h
theorem fP {w:World} {g k:Nat} (cs:Array Value) (h:k≠g):(w.setRow g cs).heap[k]? = w.heap[k]?:=by
 simp only [World.setRow,Array.getElem?_modify]
 rw [if_neg (by omega)]
def allOne:List Value→Bool
 | []=>true
 | v::vs=>v.oneCell' && allOne vs
theorem cj:∀ {vs:List Value},allOne vs=true→∀ u ∈ vs,u.oneCell'=true
 | [],_,u,hu=>by simp at hu
 | v::vs,h,u,hu=>by
  simp only [allOne,Bool.and_eq_true] at h
  rcases List.mem_cons.1 hu with rfl | hu
  · exact h.1
  · exact cj h.2 u hu
theorem aC {x y:Operand} {t bt b o i z:Nat} {cs vs:List Value} {v:Value} (hz:szB cx.P t=some z) (hn:Nth H i (box b bt cs)) (hok:okW ops fs g=true) (hx:ev fs x=some (.pointer (some ⟨b,o,none⟩))) (hy:ev fs y=some v)
  (hv:v.cells=vs.toArray) (hl:vs.length=z) (hfit:o+z≤cs.length) (h1:allOne vs=true) (k:TriX false cx ops fs (iE H i (box b bt (hY cs o vs))) rest Q):TriX false cx ops fs H (⟨none,.store t x y,ty,pos,af,g⟩::rest) Q :=
 fM (J:=Unit) (fun _=>undef) (fun _=>iE H i (box b bt (hY cs o vs))) (fun _=>True) (n9 hok) (fun e he=>by cases he)
  (fun a w ha hw=>by
   have hb:w.heap[b]? = some (.cells cs.toArray bt (0,0)):=hw.holds _ hn.mem
   refine ⟨(),w.setRow b (hY cs o vs).toArray,.inr ⟨by simp [execOp,ha.eval hx,ha.eval hy,ud hz hb hv hl hfit (cj h1)],rfl⟩, ?_,trivial⟩
   exact hw.change hn _ (gE _ hb) rfl rfl rfl (by simp) (fun k _ hk=>fP _ (fun e=>hk e)) (fun k hk=>.inl hk)) (fun _ _=>k)
def evs (fs:aW):List Operand→Option (List Value)
 | []=>some []
 | x::r=>match ev fs x with
  | some v=>match evs fs r with
   | some vs=>some (v::vs)
   | none=>none
  | none=>none
theorem Has.evals {n ds a} (h:Has n ds fs a):∀ {xs:List Operand} {vs:List Value},evs fs xs=some vs→xs.map a.eval=vs
 | [],vs,hx=>by simp [evs] at hx; simp [hx]
 | x::r,vs,hx=>by
  unfold evs at hx
  cases h1:ev fs x with
  | none=>simp [h1] at hx
  | some v =>
   cases h2:evs fs r with
   | none=>simp [h1,h2] at hx
   | some us =>
    simp only [h1,h2,Option.some.injEq] at hx
    subst hx
    simp [h.eval h1,h.evals h2]
def cG (w:World) (v:Value) (e:Ending) (w':World):Prop:=e=.returned v∧Chg [] w w'
theorem re {J:Type} {f:Operand} {xs:List Operand} {ats:Array TypeId} {fid:FuncId} {first cap:List Value} {vs:List Value} (val:J→Value) (HH:J→List Chunk) (Pu:J→Prop) (hok:okS cx.n ops fs d g=true)
  (hf:ev fs f=some (.func (.func fid) first.toArray cap.toArray)) (hxs:evs fs xs=some vs) (hcf:∀ args w,(callFunc fid args).run cx.P w=.ok (.enter fid args) w)
  (hc:∀ w,Sat cx H w→Calls cx.P fid (first++vs++cap).toArray w fun e w'=>∃ j,Pu j∧e=.returned (val j)∧Sat cx (HH j) w')
  (k:∀ j,Pu j→TriX false cx ops ((d,val j)::fs) (HH j) rest Q):TriX false cx ops fs H (⟨some d,.call ⟨.value f,xs.toArray,ats⟩,ty,pos,af,g⟩::rest) Q:=by
 intro a w ha hs
 unfold wpList
 rw [if_pos (cW ha (ee hok) _ rfl)]
 left
 have hargs:((first++xs.map a.eval)++cap).toArray=(first++vs++cap).toArray:=by rw [ha.evals hxs]
 have hrun:(execOp a.eval ⟨some d,.call ⟨.value f,xs.toArray,ats⟩,ty,pos,af,g⟩).run cx.P w=.ok (.enter fid (first++vs++cap).toArray) w:=by
  simp only [execOp,resolve,ha.eval hf,Deferred.ofValue,pure_bind,invoke]
  rw [show (first.toArray++Array.map a.eval xs.toArray++cap.toArray)=(first++vs++cap).toArray by simp [ha.evals hxs]]
  exact hcf _ _
 unfold Oper.wp
 rw [hrun,Oper.upon_enter]
 refine (hc w hs).mono fun e w' ⟨j,hp,he,hs'⟩=>?_
 subst he
 exact k j hp _ _ (ha.put (hM hok) _) hs'
theorem aF {f:Operand} {xs:List Operand} {ats:Array TypeId} {fid:FuncId} {first cap:List Value} {vs:List Value} {v:Value} (hok:okS cx.n ops fs d g=true)
  (hf:ev fs f=some (.func (.func fid) first.toArray cap.toArray)) (hxs:evs fs xs=some vs) (hcf:∀ args w,(callFunc fid args).run cx.P w=.ok (.enter fid args) w)
  (hc:∀ w,Sat cx H w→Calls cx.P fid (first++vs++cap).toArray w (cG w v))
  (k:TriX m cx ops ((d,v)::fs) H rest Q):TriX m cx ops fs H (⟨some d,.call ⟨.value f,xs.toArray,ats⟩,ty,pos,af,g⟩::rest) Q:=by
 cases m with
 | false=>exact re (J:=Unit) (fun _=>v) (fun _=>H) (fun _=>True) hok hf hxs hcf (fun w hw=>(hc w hw).mono fun e w' ⟨he,hx⟩=>⟨(),trivial,he,hw.ext hx⟩) (fun _ _=>k)
 | true =>
  intro a ha
  unfold fb
  rw [if_pos (cW ha (ee hok) _ rfl)]
  refine ⟨v,fun w hw=>?_,k _ (ha.put (hM hok) _)⟩
  have hrun:(execOp a.eval ⟨some d,.call ⟨.value f,xs.toArray,ats⟩,ty,pos,af,g⟩).run cx.P w=.ok (.enter fid (first++vs++cap).toArray) w:=by
   simp only [execOp,resolve,ha.eval hf,Deferred.ofValue,pure_bind,invoke]
   rw [show (first.toArray++Array.map a.eval xs.toArray++cap.toArray)=(first++vs++cap).toArray by simp [ha.evals hxs]]
   exact hcf _ _
  unfold Oper.quietAt
  rw [hrun]
  exact ⟨rfl,(hc w hw).mono fun e w' ⟨he,hx⟩=>⟨he,hx⟩⟩
theorem rf {w:World} {A:Option Addr} {n c:Nat} (h:∀ a,A=some a→w.heap.size≤a.block):∀ k,(Value.slice A n c).ownBlock=some k→w.heap.size≤k:=by
 intro k hk
 cases A with
 | none=>simp [Value.ownBlock] at hk
 | some a=>simp only [Value.ownBlock,Option.some.injEq] at hk; subst hk; exact h a rfl
end ops
section
variable {P:Program} {fn:Func}
def argS:Nat→List Value→aW
 | _,[]=>[]
 | i,v::vs=>(i,v)::argS (i+1) vs
theorem mK:∀ (vs:List Value) (i d:Nat) (v:Value),look (argS i vs) d=some v→i≤d∧vs[d - i]? = some v
 | [],_,_,_,h=>by simp [argS,look] at h
 | u::vs,i,d,v,h=>by
  by_cases hd:i=d
  · subst hd; simp only [argS] at h; rw [dP] at h; exact ⟨Nat.le_refl _,by simpa using h⟩
  · simp only [argS] at h
    rw [fL _ _ hd] at h
    obtain ⟨h1,h2⟩:=mK vs (i+1) d v h
    refine ⟨by omega, ?_⟩
    rw [show d - i=(d - (i+1))+1 by omega]
    simpa using h2
def endQ (cx:Cx) (fn:Func) (R:Ending→World→Prop):co
 | .normal,fs,H | .ret,fs,H=>∃ v,(∀ a w,Has cx.n cx.ds fs a→Sat cx H w→(results fn a.tmps).run cx.P w=.ok v w)∧∀ w,Sat cx H w→R (.returned v) w
 | .panic ch,_,H=>∀ w,Sat cx H w→R (.panicked ch) w
 | _,_,_=>False
theorem az {f:FuncId} {c:Code} {args:List Value} {n:Nat} {w:World} {R:Ending→World→Prop} {lent:List Nat} {H:List Chunk} (hf:P.funcs[f]? = some fn) (hb:fn.body=some c) (hn:fn.ntmps=n) (ha:Nat.ble args.length n=true)
  (hs:Sat ⟨P,n,[],w,lent⟩ H w) (h:Tri ⟨P,n,[],w,lent⟩ (argS 0 args) H c (endQ ⟨P,n,[],w,lent⟩ fn R)):Calls P f args.toArray w R:=by
 have hle:args.length≤n:=Nat.le_of_ble_eq_true ha
 refine calls_of_wp hf hb ?_
 have hh:Has n [] (argS 0 args) { tmps:=args.toArray++Array.replicate (fn.ntmps - args.toArray.size) undef,defers:=[] }:=by
  refine ⟨rfl,by simp [hn]; omega,fun d v hd=>?_⟩
  obtain ⟨_,h2⟩:=mK args 0 d v hd
  have hlt:d < args.length:=by have:=(List.getElem?_eq_some_iff.1 h2).1; omega
  rw [Array.getElem?_append_left (by simpa using hlt)]
  simpa using h2
 refine Go.wp_mono (h _ w hh hs) fun e a' w' ⟨fs',H',h1,h2,h3⟩=>?_
 cases e with
 | normal=>obtain ⟨v,hv,hR⟩:=h3; exact ⟨h1.ds,v,hv _ _ h1 h2,hR _ h2⟩
 | ret=>obtain ⟨v,hv,hR⟩:=h3; exact ⟨h1.ds,v,hv _ _ h1 h2,hR _ h2⟩
 | panic ch=>exact ⟨h1.ds,h3 _ h2⟩
 | exit id=>exact h3.elim
 | goto l=>exact h3.elim
 | outgrown=>exact h3.elim
variable {cx:Cx} {fs:aW} {H:List Chunk} {R:Ending→World→Prop}
theorem ba {t:Tmp} {v:Value} (hr:fn.results = #[.tmp t]) (hv:look fs t=some v) (h:∀ w,Sat cx H w→R (.returned v) w):endQ cx fn R .ret fs H :=
 ⟨v,fun a w ha _=>by rw [results_tmp hr,ha.get hv],h⟩
theorem ky {t u:Tmp} {v v':Value} (hr:fn.results = #[.tmp t,.tmp u]) (hv:look fs t=some v) (hv':look fs u=some v') (h:∀ w,Sat cx H w→R (.returned (.tuple #[v,v'])) w):endQ cx fn R .ret fs H :=
 ⟨_,fun a w ha _=>by rw [results_tmp2 hr,ha.get hv,ha.get hv'],h⟩
theorem end0 (hr:fn.results = #[]) (h:∀ w,Sat cx H w→R (.returned (.tuple #[])) w):endQ cx fn R .ret fs H :=
 ⟨_,fun _ _ _ _=>results_none hr _ _ _,h⟩
theorem bS (hr:fn.results = #[]) (h:∀ w,Sat cx H w→R (.returned (.tuple #[])) w):endQ cx fn R .normal fs H :=
 ⟨_,fun _ _ _ _=>results_none hr _ _ _,h⟩
theorem oa {P n w} {H:List Chunk} {v:Value}:∀ w',Sat ⟨P,n,[],w,[]⟩ H w'→cG w v (.returned v) w':=fun _ h=>⟨rfl,h.chg⟩
end
end Go.WK
namespace Go.WK
open Go.RowKit
section ops
variable {md:Bool}
variable {cx:Cx} {fs:aW} {H:List Chunk} {Q:co} {ops:Array Oper} {rest:List Oper} {g:Option (Nat × Bool)} {d:Nat} {ty:TypeId} {pos:String} {af:Array Edge}
theorem dt {P:Program} {a:Act} {w:World} {b:Builtin} {xs:List Operand} {ats:Array TypeId} {dd:Option Tmp} {vs:List Value} {n:Nat} {ds:List Deferred} (ha:Has n ds fs a) (hxs:evs fs xs=some vs) {r:Result Next}
  (hr:(builtin b ats ty (xs.toArray.map fun | .const _=>true | _=>false) vs.toArray).run P w=r):(execOp a.eval ⟨dd,.call ⟨.builtin b,xs.toArray,ats⟩,ty,pos,af,g⟩).run P w=r:=by
 simp only [execOp,resolve,pure_bind,invoke]
 rw [show Array.map a.eval xs.toArray=vs.toArray by simp [ha.evals hxs]]
 exact hr
theorem aX {x:Operand} {t e:TypeId} {A:Option Addr} {n c:Nat} (ht:cx.P.underlying t=some (.slice e)) (hok:okS cx.n ops fs d g=true) (hx:ev fs x=some (.slice A n c))
  (k:TriX md cx ops ((d,.int .i64 (n:Int))::fs) H rest Q):TriX md cx ops fs H (⟨some d,.call ⟨.builtin .len, #[x], #[t]⟩,ty,pos,af,g⟩::rest) Q :=
 bd _ hok (fun a w ha _=>dt (xs:=[x]) (vs:=[.slice A n c]) ha (by simp [evs,hx]) (by simp [builtin,Builtin.len_,run_underlying ht,goInt])) k
theorem hZ {x:Operand} {t:TypeId} {l:List UInt8} (ht:cx.P.underlying t=some .string) (hok:okS cx.n ops fs d g=true) (hx:ev fs x=some (.string (B l)))
  (k:TriX md cx ops ((d,.int .i64 (l.length:Int))::fs) H rest Q):TriX md cx ops fs H (⟨some d,.call ⟨.builtin .len, #[x], #[t]⟩,ty,pos,af,g⟩::rest) Q :=
 bd _ hok (fun a w ha _=>dt (xs:=[x]) (vs:=[.string (B l)]) ha (by simp [evs,hx]) (by have h:=run_len_string w t ty (B l) ht; rw [dC] at h; simp [builtin,h,goInt])) k
theorem o_min {x y:Operand} {ats:Array TypeId} {ki kj:IntKind} {p q:Int} (hok:okS cx.n ops fs d g=true) (hx:ev fs x=some (.int ki p)) (hy:ev fs y=some (.int kj q))
  (k:TriX md cx ops ((d,.int ki (min p q))::fs) H rest Q):TriX md cx ops fs H (⟨some d,.call ⟨.builtin .min, #[x,y],ats⟩,ty,pos,af,g⟩::rest) Q :=
 bd _ hok (fun a w ha _=>dt (xs:=[x,y]) (vs:=[.int ki p,.int kj q]) ha (by simp [evs,hx,hy]) (by
  have:(if q < p then q else p)=min p q:=by split<;>omega
  simp [builtin,Builtin.min_,Builtin.min2,this])) k
theorem o_max {x y:Operand} {ats:Array TypeId} {ki kj:IntKind} {p q:Int} (hok:okS cx.n ops fs d g=true) (hx:ev fs x=some (.int ki p)) (hy:ev fs y=some (.int kj q))
  (k:TriX md cx ops ((d,.int ki (max p q))::fs) H rest Q):TriX md cx ops fs H (⟨some d,.call ⟨.builtin .max, #[x,y],ats⟩,ty,pos,af,g⟩::rest) Q :=
 bd _ hok (fun a w ha _=>dt (xs:=[x,y]) (vs:=[.int ki p,.int kj q]) ha (by simp [evs,hx,hy]) (by
  have:(if p < q then q else p)=max p q:=by split<;>omega
  simp [builtin,Builtin.max_,Builtin.max2,this])) k
theorem jl {x y:Operand} {t:TypeId} {l:List UInt8} {ki:IntKind} {i:Int} (ht:cx.P.underlying t=some .string) (hok:okS cx.n ops fs d g=true) (hx:ev fs x=some (.string (B l))) (hy:ev fs y=some (.int ki i)) (h0:0≤i) (h1:i < l.length)
  (k:TriX md cx ops ((d,kq (l.getD i.toNat 0))::fs) H rest Q):TriX md cx ops fs H (⟨some d,.index t x y,ty,pos,af,g⟩::rest) Q :=
 bd _ hok (fun a w ha _=>by
  have hlt:i.toNat < l.length:=by omega
  have hs:0≤i∧i < ((B l).size:Int):=by rw [dC]; exact ⟨h0,h1⟩
  have hb:(B l)[i.toNat]'(by rw [dC]; exact hlt)=l.getD i.toNat 0:=by
   simp [List.getD,hlt]; rfl
  simp only [execOp,ha.eval hx,ha.eval hy,Sem.run_bind,run_index_string w t (B l) ki i ht,dif_pos hs,hb]
  rfl) k
theorem mL {P:Program} {w:World} {t:TypeId} {l:List UInt8} {lo hi:Option Value} {a b:Nat} (ht:P.underlying t=some .string) (hlo:lo=none∧a=0∨∃ k,lo=some (.int k (a:Int))) (hhi:hi=none∧b=l.length∨∃ k,hi=some (.int k (b:Int)))
  (hab:a≤b) (hb:b≤l.length):(Instr.sliceAt t (.string (B l)) lo hi none).run P w=.ok (.string (B ((l.drop a).take (b - a)))) w:=by
 have hb':(b:Int)≤l.length:=by omega
 have ha':(a:Int)≤b:=by omega
 have he:(B l).extract a b=B ((l.drop a).take (b - a)):=ByteArray.extract_mk l a b
 have hsz:(B l).size=l.length:=dC l
 rw [run_sliceAt_string w t _ lo hi none ht, ← he]
 generalize B l=S at hsz ⊢
 rw [← hsz] at hb hb'
 have hbl:b≤l.length:=by omega
 have hbl':(b:Int)≤l.length:=by omega
 have hS:S.extract 0 l.length=S:=by rw [← hsz]; exact ByteArray.extract_zero_size
 rcases hlo with ⟨rfl,rfl⟩ | ⟨k1,rfl⟩<;>rcases hhi with ⟨rfl,rfl⟩ | ⟨k2,rfl⟩ <;>
  simp [Instr.slice,Instr.sliceBounds,Instr.sliceBound,asIntOf,run_underlying ht,hab,hbl,hsz,hS]
theorem ob {x y z:Operand} {t:TypeId} {l:List UInt8} {k1 k2:IntKind} {i j:Int} (ht:cx.P.underlying t=some .string) (hok:okS cx.n ops fs d g=true) (hx:ev fs x=some (.string (B l))) (hy:ev fs y=some (.int k1 i)) (hz:ev fs z=some (.int k2 j))
  (h0:0≤i) (h1:i≤j) (h2:j≤l.length) (k:TriX md cx ops ((d,.string (B ((l.drop i.toNat).take (j.toNat - i.toNat))))::fs) H rest Q):TriX md cx ops fs H (⟨some d,.slice t x (some y) (some z) none,ty,pos,af,g⟩::rest) Q :=
 bd _ hok (fun a w ha _=>by
  obtain ⟨p,rfl⟩:=Int.eq_ofNat_of_zero_le h0
  obtain ⟨q,rfl⟩:=Int.eq_ofNat_of_zero_le (show 0≤j by omega)
  simp only [execOp,ha.eval hx,ha.eval hy,ha.eval hz,Option.map_some,Option.map_none,Sem.run_bind,Int.toNat_natCast]
  rw [mL (a:=p) (b:=q) ht (.inr ⟨k1,rfl⟩) (.inr ⟨k2,rfl⟩) (by omega) (by omega)]
  rfl) k
theorem jy {x y:Operand} {t:TypeId} {l:List UInt8} {k1:IntKind} {i:Int} (ht:cx.P.underlying t=some .string) (hok:okS cx.n ops fs d g=true) (hx:ev fs x=some (.string (B l))) (hy:ev fs y=some (.int k1 i))
  (h0:0≤i) (h2:i≤l.length) (k:TriX md cx ops ((d,.string (B (l.drop i.toNat)))::fs) H rest Q):TriX md cx ops fs H (⟨some d,.slice t x (some y) none none,ty,pos,af,g⟩::rest) Q :=
 bd _ hok (fun a w ha _=>by
  obtain ⟨p,rfl⟩:=Int.eq_ofNat_of_zero_le h0
  simp only [execOp,ha.eval hx,ha.eval hy,Option.map_some,Option.map_none,Sem.run_bind,Int.toNat_natCast]
  rw [mL (a:=p) (b:=l.length) ht (.inr ⟨k1,rfl⟩) (.inl ⟨rfl,rfl⟩) (by omega) (by omega),List.take_of_length_le (by simp)]
  rfl) k
theorem xg {x z:Operand} {t:TypeId} {l:List UInt8} {k2:IntKind} {j:Int} (ht:cx.P.underlying t=some .string) (hok:okS cx.n ops fs d g=true) (hx:ev fs x=some (.string (B l))) (hz:ev fs z=some (.int k2 j))
  (h1:0≤j) (h2:j≤l.length) (k:TriX md cx ops ((d,.string (B (l.take j.toNat)))::fs) H rest Q):TriX md cx ops fs H (⟨some d,.slice t x none (some z) none,ty,pos,af,g⟩::rest) Q :=
 bd _ hok (fun a w ha _=>by
  obtain ⟨q,rfl⟩:=Int.eq_ofNat_of_zero_le h1
  simp only [execOp,ha.eval hx,ha.eval hz,Option.map_some,Option.map_none,Sem.run_bind,Int.toNat_natCast]
  rw [mL (a:=0) (b:=q) ht (.inl ⟨rfl,rfl⟩) (.inr ⟨k2,rfl⟩) (by omega) (by omega)]
  rfl) k
theorem o_cat {x y:Operand} {t yt:TypeId} {l m:List UInt8} (hok:okS cx.n ops fs d g=true) (hx:ev fs x=some (.string (B l))) (hy:ev fs y=some (.string (B m))) (hb:l.length+m.length≤9223372036854775807)
  (k:TriX md cx ops ((d,.string (B (l++m)))::fs) H rest Q):TriX md cx ops fs H (⟨some d,.binOp .add t x y yt,ty,pos,af,g⟩::rest) Q :=
 bd _ hok (fun a w ha _=>dH (ha.eval hx) (ha.eval hy) rfl (by
  have h1:¬ ((((B l).size+(B m).size:Nat):Int) > IntKind.i64.max):=by rw [dC,dC,IntKind.max_i64]; omega
  have h2:B l++B m=B (l++m):=by apply ByteArray.ext; simp
  simp only [binOp_string_add,Op.stringOp,if_neg h1,h2]
  rfl)) k
section
variable {x y:Operand} {t yt:TypeId} {l m:List UInt8}
variable (hok:okS cx.n ops fs d g=true) (hx:ev fs x=some (.string (B l))) (hy:ev fs y=some (.string (B m)))
include hok hx hy
theorem bE (k:TriX md cx ops ((d,.bool (decide (l=m)))::fs) H rest Q):TriX md cx ops fs H (⟨some d,.binOp .eql t x y yt,ty,pos,af,g⟩::rest) Q :=
 bd _ hok (fun a w ha _=>dH (ha.eval hx) (ha.eval hy) (eqGuard_at_string _ _ _ _ _ _) (by
  rw [binOp_string_eql,iJ,iJ]
  have:(l == m)=decide (l=m):=by by_cases h:l=m<;>simp [h]
  rw [this]; rfl)) k
theorem dX (k:TriX md cx ops ((d,.bool (decide (l≠m)))::fs) H rest Q):TriX md cx ops fs H (⟨some d,.binOp .neq t x y yt,ty,pos,af,g⟩::rest) Q :=
 bd _ hok (fun a w ha _=>dH (ha.eval hx) (ha.eval hy) (eqGuard_at_string _ _ _ _ _ _) (by
  rw [binOp_string_neq,iJ,iJ]
  have:(!(l == m))=decide (l≠m):=by by_cases h:l=m<;>simp [h]
  rw [this]; rfl)) k
end
theorem ue (l:List UInt8):∀ s:ByteArray,(l.map fun b=>(b.toNat:Int)).foldl (fun r n=>r.push (UInt8.ofNat n.toNat)) s=s++B l:=by
 induction l with
 | nil=>intro s; apply ByteArray.ext; simp
 | cons b l ih=>intro s; simp only [List.map_cons,List.foldl_cons,ih]; apply ByteArray.ext; simp
theorem sm {x:Operand} {t u e:TypeId} {A:Option Addr} {n c:Nat} {l:List UInt8} (ht:cx.P.underlying t=some (.slice e)) (he:cx.P.underlying e=some (.int .u8)) (hu:cx.P.underlying u=some .string) (hok:okS cx.n ops fs d g=true)
  (hx:ev fs x=some (.slice A n c)) (hr:RdS cx H A (dw l)) (hn:n=l.length) (k:TriX md cx ops ((d,.string (B l))::fs) H rest Q):TriX md cx ops fs H (⟨some d,.convert t u x,ty,pos,af,g⟩::rest) Q :=
 bd _ hok (fun a w ha hw=>by
  simp only [execOp,ha.eval hx,Sem.run_bind,run_convert_bytes_string w t u e A n c ht he hu]
  cases A with
  | none =>
   have:l=[]:=by
    cases l with
    | nil=>rfl
    | cons b r=>obtain ⟨a0,h,_⟩:=hr w hw 0 (kq b) (by simp [dw]); cases h
   subst this
   simp [Conv.bytesToString]; rfl
  | some a0 =>
   have hl:(loadCells a0 n).run cx.P w=.ok ((l.map fun b=>(b.toNat:Int)).map (Value.int .u8)).toArray w:=by
    have:=run_loadCells_list (P:=cx.P) w a0 (dw l) (fun j v hj=>by obtain ⟨a1,h1,h2⟩:=hr w hw j v hj; cases h1; exact h2)
    rw [pL, ← hn] at this
    rw [this]; simp [dw,kq,Function.comp_def]
   rw [run_bytesToString w a0 n c _ hl,ue]
   have:ByteArray.empty++B l=B l:=by apply ByteArray.ext; simp
   rw [this]; rfl) k
theorem aU {x y:Operand} {t e:TypeId} {A:Option Addr} {n c s:Nat} {ki:IntKind} {i:Int} {xs:List Value} (ht:cx.P.underlying t=some (.slice e)) (hs:szB cx.P e=some s) (hok:okS cx.n ops fs d g=true) (hx:ev fs x=some (.slice A n c)) (hy:ev fs y=some (.int ki i))
  (hr:RdS cx H A xs) (h0:0≤i) (h1:i < n) (hl:xs.length=n * s) (hpos:0 < s) (k:TriX md cx ops ((d,ko A (i.toNat * s))::fs) H rest Q):TriX md cx ops fs H (⟨some d,.indexAddr t x y,ty,pos,af,g⟩::rest) Q :=
 bd _ hok (fun a w ha hw=>by
  obtain ⟨p,rfl⟩:=Int.eq_ofNat_of_zero_le h0
  have hp:p < n:=by omega
  have hlt:0 < xs.length:=by rw [hl]; exact Nat.mul_pos (by omega) hpos
  obtain ⟨a0,rfl,_⟩:=hr w hw 0 _ (List.getElem?_eq_getElem hlt)
  simp [execOp,ha.eval hx,ha.eval hy,Instr.indexAt,asIntOf,run_underlying ht,dq hs,hp,ko]) k
theorem sl_slice {P:Program} {w:World} {t e:TypeId} {A:Option Addr} {n c s:Nat} {lo hi:Option Value} {a b:Nat} (ht:P.underlying t=some (.slice e)) (hs:szB P e=some s) (hlo:lo=none∧a=0∨∃ k,lo=some (.int k (a:Int)))
  (hhi:hi=none∧b=n∨∃ k,hi=some (.int k (b:Int))) (hab:a≤b) (hb:b≤c):(Instr.sliceAt t (.slice A n c) lo hi none).run P w=.ok (.slice (cutA A c a s) (b - a) (c - a)) w:=by
 have hb':(b:Int)≤c:=by omega
 have ha':(a:Int)≤b:=by omega
 have ht':P.underlying t=some (.slice (P.elem t)):=by rw [ht,Program.elem,ht]
 rw [run_sliceAt_slice w t _ lo hi none ht']
 rcases hlo with ⟨rfl,rfl⟩ | ⟨k1,rfl⟩<;>rcases hhi with ⟨rfl,rfl⟩ | ⟨k2,rfl⟩ <;>
  simp [Instr.slice,Instr.sliceBounds,Instr.sliceBound,asIntOf,run_underlying ht,dq hs,hab,hb,cutA]
theorem jz {x y:Operand} {t e:TypeId} {A:Option Addr} {n c s:Nat} {k1:IntKind} {i:Int} (ht:cx.P.underlying t=some (.slice e)) (hs:szB cx.P e=some s) (hok:okS cx.n ops fs d g=true) (hx:ev fs x=some (.slice A n c)) (hy:ev fs y=some (.int k1 i))
  (h0:0≤i) (h1:i≤n) (h2:n≤c) (k:TriX md cx ops ((d,.slice (cutA A c i.toNat s) (n - i.toNat) (c - i.toNat))::fs) H rest Q):TriX md cx ops fs H (⟨some d,.slice t x (some y) none none,ty,pos,af,g⟩::rest) Q :=
 bd _ hok (fun a w ha _=>by
  obtain ⟨p,rfl⟩:=Int.eq_ofNat_of_zero_le h0
  simp only [execOp,ha.eval hx,ha.eval hy,Option.map_some,Option.map_none,Sem.run_bind,Int.toNat_natCast]
  rw [sl_slice (a:=p) (b:=n) ht hs (.inr ⟨k1,rfl⟩) (.inl ⟨rfl,rfl⟩) (by omega) (by omega)]
  rfl) k
theorem xh (v : Value) (z : Array Value) (s : Nat) (_ : z.size = s) (hv : v.cells.size = s) : Instr.fill (fun i => some (i * s,s)) ((Array.range (1 * s)).map (z[· % z.size]!)) [(0,v)] = some v.cells := by
  simp only [Instr.fill,Nat.zero_mul,Nat.zero_add,hv,ne_eq,not_true_eq_false,Array.size_map,Array.size_range,Nat.one_mul,gt_iff_lt,Nat.lt_irrefl,decide_false,Bool.or_self,Bool.false_eq_true,if_false,Option.some.injEq]
  have key : ∀ (l : List Value) (j : Nat) (cs : Array Value),j + l.length = cs.size → ∀ k,((l.zipIdx j).foldl (fun cs (c,j) => cs.setIfInBounds j c) cs)[k]? = if j ≤ k then l[k - j]? else cs[k]? := by
    intro l
    induction l with
    | nil => intro j cs hj k; simp at hj; simp only [List.zipIdx_nil,List.foldl_nil]; split
             · simp; omega
             · rfl
    | cons c l ih =>
      intro j cs hj k
      simp only [List.zipIdx_cons,List.foldl_cons]
      rw [ih (j + 1) _ (by simp at hj ⊢; omega) k]
      by_cases h1 : j + 1 ≤ k
      · rw [if_pos h1,if_pos (by omega),show k - j = (k - (j + 1)) + 1 by omega]; simp
      · rw [if_neg h1]
        by_cases h2 : j = k
        · subst h2; rw [if_pos (Nat.le_refl _)]; simp at hj; simp [Array.getElem?_setIfInBounds]; omega
        · rw [if_neg (by omega),Array.getElem?_setIfInBounds_ne h2]
  apply Array.ext_getElem?
  intro k
  have := key v.cells.toList 0 ((Array.range s).map (z[· % z.size]!)) (by simp [hv]) k
  simp only [Nat.zero_le,if_true,Nat.sub_zero,Array.getElem?_toList] at this
  rw [← Array.foldl_toList,Array.toList_zipIdx]
  simpa using this
theorem bk {x:Operand} {t e:TypeId} {v z:Value} {s:Nat} {vs:List Value} (ht:cx.P.underlying t=some (.slice e)) (hi:(cx.P.info? e).map (fun i=>(i.zero,i.size))=some (some z,s)) (hzs:z.cells.size=s) (hok:okS cx.n ops fs d g=true)
  (hx:ev fs x=some v) (hv:v.cells=vs.toArray) (hl:vs.length=s) (hpos:0 < s) (hsm:s≤16777216)
  (k:∀ b,TriX false cx ops ((d,.slice (some ⟨b,0,none⟩) 1 1)::fs) (row (.slice (some ⟨b,0,none⟩) 1 1) e s 1 vs::H) rest Q):TriX false cx ops fs H (⟨some d,.buildSlice t 1 #[(0,x)],ty,pos,af,g⟩::rest) Q :=
 fM (J:=Nat) (fun b=>.slice (some ⟨b,0,none⟩) 1 1) (fun b=>row (.slice (some ⟨b,0,none⟩) 1 1) e s 1 vs::H) (fun _=>True) (ee hok) (fun e he=>by cases he; exact hM hok)
  (fun a w ha hw=>by
   obtain ⟨i,hi0,hz'⟩:=Option.map_eq_some_iff.1 hi
   simp only [Prod.mk.injEq] at hz'
   obtain ⟨hz,hsz⟩:=hz'
   have hf:=xh v z.cells s hzs (by rw [hv]; simpa using hl)
   have hne:¬ s=0:=by omega
   have hsm':¬ (16777216 < s):=by omega
   refine ⟨w.heap.size,w.alloc (.cells vs.toArray e),.inl ?_,hw.push (Chg.alloc _ _ _) _ ?_ (rf (fun a h=>by cases h; exact Nat.le_refl _)),trivial⟩
   · simp [execOp,ha.eval hx,Instr.buildSlice,run_underlying ht,sizeOf,typeInfo,hi0,hsz,zeroValue,hz,hne,hsm']
     simp only [Nat.one_mul] at hf
     simp [hf,hv,newRow]
   · exact ⟨by simp [hl],.inr ⟨w.heap.size,1,vs.toArray,rfl,Nat.zero_le _,heap_alloc_new w _,Nat.le_refl _,by decide,by simp [hl],by rw [Nat.one_mul, ← hl]; simp⟩⟩) (fun b _=>k b)
theorem so {w:World} {e size n:Nat} {v:Value} {xs:List Value} (h:w.ownsRow 0 e size v n xs):∃ A c,v=.slice A n c:=by
 rcases h.2 with ⟨rfl,rfl⟩ | ⟨g,cap,cur,rfl,_⟩
 · exact ⟨_,_,rfl⟩
 · exact ⟨_,_,rfl⟩
theorem app_none {P:Program} {w:World} {t ty e:TypeId} {ti:TypeInfo} {s n c:Nat} {A:Option Addr} {xs:List Value} (c2:Nat) (hi:P.info? e=some ti) (ht:P.underlying t=some (.slice e)) (ho:w.ownsRow 0 e s (.slice A n c) n xs) :
  (Builtin.append_ #[t,t] ty #[.slice A n c,.slice none 0 c2]).run P w=.ok (.slice A n c) w:=by
 have hu:=run_underlying (w:=w) ht
 rcases ho.2 with ⟨h,-⟩ | ⟨g,cap,cur,h,_,_,hle,_⟩<;>cases h
 · simp [Builtin.append_,Builtin.firstCells,Builtin.lenOf,sizeOf,typeInfo,hu,hi]
 · simp [Builtin.append_,Builtin.firstCells,Builtin.lenOf,sizeOf,typeInfo,storeCells,hu,hi,hle]
theorem cH {x y:Operand} {t e:TypeId} {z:Value} {s bytes i n c m c2:Nat} {A A2:Option Addr} {xs news:List Value} (ht:cx.P.underlying t=some (.slice e)) (hi:(cx.P.info? e).map (fun i=>(i.zero,i.size,i.bytes))=some (some z,s,bytes)) (hzs:z.cells.size=s) (hpos:0 < s)
  (hn:Nth H i (row (.slice A n c) e s n xs)) (hok:okS cx.n ops fs d g=true) (hx:ev fs x=some (.slice A n c)) (hy:ev fs y=some (.slice A2 m c2)) (hr:RdS cx H A2 news) (hl:news.length=m * s) (h1:∀ u ∈ news,u.oneCell'=true)
  (h63:n+m≤maxLen) (hbytes:(n+m) * bytes≤140737488355328)
  (k:∀ A' c',TriX false cx ops ((d,.slice A' (n+m) c')::fs) (iE H i (row (.slice A' (n+m) c') e s (n+m) (xs++news))) rest Q):TriX false cx ops fs H (⟨some d,.call ⟨.builtin .append, #[x,y], #[t,t]⟩,ty,pos,af,g⟩::rest) Q :=
 fM (J:=Option Addr × Nat) (fun j=>.slice j.1 (n+m) j.2) (fun j=>iE H i (row (.slice j.1 (n+m) j.2) e s (n+m) (xs++news))) (fun _=>True) (ee hok) (fun e he=>by cases he; exact hM hok)
  (fun a w ha hw=>by
   obtain ⟨ti,hi0,hz,hsz,hby⟩:=info_parts hi
   have hown:w.ownsRow 0 e s (.slice A n c) n xs:=hw.holds _ hn.mem
   have fin:∀ v' w',(Builtin.append_ #[t,t] ty #[.slice A n c,.slice A2 m c2]).run cx.P w=.ok v' w'→w'.ownsRow 0 e s v' (n+m) (xs++news)→w.grownBy w' (Value.slice A n c).ownBlock→(v'.ownBlock=(Value.slice A n c).ownBlock∨v'.ownBlock=some w.heap.size) →
     ∃ j w',((execOp a.eval ⟨some d,.call ⟨.builtin .append, #[x,y], #[t,t]⟩,ty,pos,af,g⟩).run cx.P w=.ok (.value ((fun j:Option Addr × Nat=>.slice j.1 (n+m) j.2) j)) w'∨(execOp a.eval ⟨some d,.call ⟨.builtin .append, #[x,y], #[t,t]⟩,ty,pos,af,g⟩).run cx.P w=.ok .skip w'∧(fun j:Option Addr × Nat=>Value.slice j.1 (n+m) j.2) j=undef) ∧
      Sat cx (iE H i (row (.slice j.1 (n+m) j.2) e s (n+m) (xs++news))) w'∧True:=by
    intro v' w' hrun ho hg hb
    obtain ⟨A',c',rfl⟩:=so ho
    refine ⟨(A',c'),w',.inl (dt (xs:=[x,y]) ha (vs:=[.slice A n c,.slice A2 m c2]) (by simp [evs,hx,hy]) (by simp [builtin,hrun])), ?_,trivial⟩
    refine hw.change hn _ ho hg.os hg.tape hg.output hg.size (fun k hk hf=>hg.block k hk (fun e=>hf e.symm)) (fun k hk=>?_)
    rcases hb with hb | hb
    · left; show (Value.slice A n c).ownBlock=some k; rw [← hb]; exact hk
    · right; have hk':(Value.slice A' (n+m) c').ownBlock=some k:=hk
      rw [hb] at hk'; cases hk'; exact Nat.le_refl _
   cases A2 with
   | none =>
    have hm0:news=[]:=by
     cases news with
     | nil=>rfl
     | cons u r=>obtain ⟨a0,h,_⟩:=hr w hw 0 u (by simp); cases h
    subst hm0
    have hm:m=0:=by
     have:0=m * s:=by simpa using hl
     rcases Nat.mul_eq_zero.1 this.symm with h | h<;>omega
    subst hm
    exact fin _ w (app_none c2 hi0 ht hown) (by simpa using hown) (World.grownBy.refl w _) (.inl rfl)
   | some a2 =>
    obtain ⟨v',w',hrun,ho,hg,_,hb⟩:=run_append_own_at (P:=cx.P) w 0 t ty e ti z s bytes ht hi0 hz hsz hby hzs hpos _ n xs hown a2 m c2 news hl (fun j u hu=>by obtain ⟨a1,h1,h2⟩:=hr w hw j u hu; cases h1; exact h2) h1 h63 hbytes (Nat.zero_le _)
    exact fin v' w' hrun ho hg hb) (fun j _=>k j.1 j.2)
end ops
end Go.WK
namespace Go.WK
open Go.RowKit
def jV (n:Nat) (ops:Array Oper):aW→List Oper→Option aW
 | fs,[]=>some fs
 | fs,o::l=>match iG ops fs o.guard with
  | some false=>match o.dst with
   | some d=>bif Nat.blt d n then jV n ops ((d,undef)::fs) l else none
   | none=>jV n ops fs l
  | _=>none
theorem gJ {P:Program} {ops:Array Oper} {R:Exit→Act→World→Prop}:∀ (l1 l2:List Oper) (a:Act) (w:World),
  wpList P ops (Exit.then (fun a w=>wpList P ops R l2 a w) R) l1 a w→wpList P ops R (l1++l2) a w
 | [],l2,a,w,h=>h
 | o::l1,l2,a,w,h=>by
  simp only [List.cons_append]
  unfold wpList at h ⊢
  split
  · rename_i hw
    rw [if_pos hw] at h
    rcases h with h | ⟨h,a',w',hl⟩
    · exact .inl (eL (fun a w hh=>gJ l1 l2 a w hh) (fun _ _ _ h=>h) (fun _ _ h=>h) _ h)
    · exact .inr ⟨h,a',w',hl⟩
  · rename_i hw
    rw [if_neg hw] at h
    exact gJ l1 l2 _ _ h
section
variable {cx:Cx} {fs:aW} {H:List Chunk} {Q:co} {ops:Array Oper} {rest:List Oper} {g:Option (Nat × Bool)} {d:Nat} {ty:TypeId} {pos:String} {af:Array Edge}
theorem ip {P:Program} {C:World→Prop} {K:Act→Prop}:∀ (l1 l2:List Oper) (a:Act),fb P ops C (fb P ops C K l2) l1 a→fb P ops C K (l1++l2) a
 | [],l2,a,h=>h
 | o::l1,l2,a,h=>by
  simp only [List.cons_append]
  unfold fb at h ⊢
  split
  · rename_i hw; rw [if_pos hw] at h; obtain ⟨v,h1,h2⟩:=h; exact ⟨v,h1,ip l1 l2 _ h2⟩
  · rename_i hw; rw [if_neg hw] at h; exact ip l1 l2 _ h
theorem iq {md:Bool}:∀ (l:List Oper) (fs fs':aW) (rest:List Oper) (Q:co),jV cx.n ops fs l=some fs'→TriX md cx ops fs' H rest Q→TriX md cx ops fs H (l++rest) Q
 | [],fs,fs',rest,Q,h,k=>by simp only [jV,Option.some.injEq] at h; subst h; exact k
 | o::l,fs,fs',rest,Q,h,k=>by
  obtain ⟨dst,op,ty,pos,af,g⟩:=o
  unfold jV at h
  split at h
  · rename_i hw
    split at h
    · rename_i d hd
      simp only at hd
      subst hd
      cases hb:Nat.blt d cx.n with
      | false=>simp [hb] at h
      | true =>
       simp only [hb,cond_true] at h
       exact jw hw hb (iq l _ fs' rest Q h k)
    · rename_i hd
      simp only at hd
      subst hd
      exact uc hw (iq l fs fs' rest Q h k)
  · cases h
def Piece (keep:aW) (H:List Chunk) (cx:Cx) (dj dr:Nat) (b y:Bool):co:=fun e fs' H'=>e=.normal∧look fs' dr=some (.bool y)∧look fs' dj=some (.bool b)∧Sub fs' keep∧∀ w,Sat cx H' w→Sat cx H w
theorem Piece.mk {keep fs':aW} {H H':List Chunk} {cx:Cx} {dj dr:Nat} {b y:Bool} (h1:look fs' dr=some (.bool y)) (h2:look fs' dj=some (.bool b)) (h3:Sub fs' keep) (h4:∀ w,Sat cx H' w→Sat cx H w):Piece keep H cx dj dr b y .normal fs' H':=⟨rfl,h1,h2,h3,h4⟩
theorem Has.literal {n ds fs a} (h:Has n ds fs a) {dj:Nat} {x b:Bool} (hx:look fs dj=some (.bool x)) (hb:x=b):Has n ds ((dj,.bool b)::fs) a :=
 ⟨h.ds,h.size,fun e v he=>by
  by_cases hd:dj=e
  · subst hd; rw [dP] at he; cases he; rw [← hb]; exact h.at_ _ _ hx
  · rw [fL _ _ hd] at he; exact h.at_ _ _ he⟩
theorem uf {fs fs':aW} (hs:∀ d v,look fs' d=some v→look fs d=some v) {x:Bool} (h:iG ops fs' g=some x):iG ops fs g=some x:=by
 cases g with
 | none=>exact h
 | some p =>
  obtain ⟨j,b⟩:=p
  unfold iG at h ⊢
  cases hd:(ops[j]?).bind (·.dst) with
  | none=>simp only [hd] at h ⊢; exact h
  | some e =>
   simp only [hd] at h ⊢
   cases hl:look fs' e with
   | none=>simp only [hl] at h; cases h
   | some v=>simp only [hl,hs _ _ hl] at h ⊢; exact h
theorem jA {n:Nat} {fs fs':aW} (hs:∀ d v,look fs' d=some v→look fs d=some v) (h:okS n ops fs' d g=true):okS n ops fs d g=true:=by
 have h1:=uf hs (ee h)
 have h2:=hM h
 simp [okS,h1,h2]
theorem jB {fs fs':aW} (hs:∀ d v,look fs' d=some v→look fs d=some v) (d:Nat) (u:Value):∀ e v,look ((d,u)::fs') e=some v→look ((d,u)::fs) e=some v:=fun e v he=>by
 by_cases hd:d=e
 · subst hd; rw [dP] at he ⊢; exact he
 · rw [fL _ _ hd] at he ⊢; exact hs _ _ he
theorem TriX.literal {md:Bool} {l:List Oper} {dj:Nat} {x b:Bool} (hx:look fs dj=some (.bool x)) (hb:x=b) (h:TriX md cx ops ((dj,.bool b)::fs) H l Q):TriX md cx ops fs H l Q:=by
 cases md with
 | false=>exact fun a w ha hw=>h a w (ha.literal hx hb) hw
 | true=>exact fun a ha=>h a (ha.literal hx hb)
theorem aJ {md:Bool} (seg:List Oper) (keep:aW) {l:List Oper} {dj dr:Nat} {x y:Bool} (hx:look fs dj=some (.bool x)) (hp:l=seg++⟨some d,.pick (.tmp dj) (.tmp dr) (.const (.bool false)),ty,pos,af,g⟩::rest)
  (ht:x=true→TriX md cx ops ((dj,.bool true)::fs) H seg (Piece keep H cx dj dr true y))
  (hf:∃ fsF,jV cx.n ops ((dj,.bool false)::fs) seg=some fsF∧look fsF dj=some (.bool false)∧look fsF dr=some undef∧Sub fsF keep)
  (hg:okS cx.n ops keep d g=true) (k:TriX md cx ops ((d,.bool (x && y))::keep) H rest Q):TriX md cx ops fs H l Q:=by
 rw [hp]
 cases hxb:x with
 | true =>
  rw [hxb] at k
  cases md with
  | true =>
   intro a ha
   refine ip _ _ a (iH ?_ _ a (ht hxb a (ha.literal hx hxb)))
   rintro a' ⟨fs',h1,_,h3,h4,h5,h6⟩
   refine (kB (m:=true) (c:=.tmp dj) (x:=.tmp dr) (y:=.const (.bool false)) (t:=true) (u:=.bool y) (v:=.bool false) (fs:=fs') (jA h5.get hg) h4 h3 rfl ?_:TriX true cx ops fs' H _ Q) a' h1
   exact TriX.subF (jB h5.get _ _) k
  | false =>
  intro a w ha hw
  refine gJ _ _ a w (i6 ?_ _ a w (ht hxb a w (ha.literal hx hxb) hw))
  rintro e a' w' ⟨fs',H',h1,h2,rfl,h3,h4,h5,h6⟩
  refine (kB (m:=false) (c:=.tmp dj) (x:=.tmp dr) (y:=.const (.bool false)) (t:=true) (u:=.bool y) (v:=.bool false) (fs:=fs') (jA h5.get hg) h4 h3 rfl ?_:TriX false cx ops fs' H _ Q) a' w' h1 (h6 _ h2)
  exact TriX.subF (jB h5.get _ _) k
 | false =>
  obtain ⟨fsF,hs,h3,h3',h5⟩:=hf
  refine TriX.literal hx hxb (iq seg _ fsF _ Q hs ?_)
  refine kB (c:=.tmp dj) (x:=.tmp dr) (y:=.const (.bool false)) (t:=false) (u:=undef) (v:=.bool false) (fs:=fsF) (jA h5.get hg) h3 h3' rfl ?_
  refine TriX.subF (jB h5.get _ _) ?_
  rw [hxb] at k
  exact k
theorem bv {md:Bool} (seg:List Oper) (keep:aW) {l:List Oper} {dj dr:Nat} {x y:Bool} (hx:look fs dj=some (.bool x)) (hp:l=seg++⟨some d,.pick (.tmp dj) (.const (.bool true)) (.tmp dr),ty,pos,af,g⟩::rest)
  (hf:x=false→TriX md cx ops ((dj,.bool false)::fs) H seg (Piece keep H cx dj dr false y))
  (ht:∃ fsF,jV cx.n ops ((dj,.bool true)::fs) seg=some fsF∧look fsF dj=some (.bool true)∧look fsF dr=some undef∧Sub fsF keep)
  (hg:okS cx.n ops keep d g=true) (k:TriX md cx ops ((d,.bool (x || y))::keep) H rest Q):TriX md cx ops fs H l Q:=by
 rw [hp]
 cases hxb:x with
 | false =>
  rw [hxb] at k
  cases md with
  | true =>
   intro a ha
   refine ip _ _ a (iH ?_ _ a (hf hxb a (ha.literal hx hxb)))
   rintro a' ⟨fs',h1,_,h3,h4,h5,h6⟩
   refine (kB (m:=true) (c:=.tmp dj) (x:=.const (.bool true)) (y:=.tmp dr) (t:=false) (u:=.bool true) (v:=.bool y) (fs:=fs') (jA h5.get hg) h4 rfl h3 ?_:TriX true cx ops fs' H _ Q) a' h1
   exact TriX.subF (jB h5.get _ _) k
  | false =>
  intro a w ha hw
  refine gJ _ _ a w (i6 ?_ _ a w (hf hxb a w (ha.literal hx hxb) hw))
  rintro e a' w' ⟨fs',H',h1,h2,rfl,h3,h4,h5,h6⟩
  refine (kB (m:=false) (c:=.tmp dj) (x:=.const (.bool true)) (y:=.tmp dr) (t:=false) (u:=.bool true) (v:=.bool y) (fs:=fs') (jA h5.get hg) h4 rfl h3 ?_:TriX false cx ops fs' H _ Q) a' w' h1 (h6 _ h2)
  exact TriX.subF (jB h5.get _ _) k
 | true =>
  obtain ⟨fsF,hs,h3,h3',h5⟩:=ht
  refine TriX.literal hx hxb (iq seg _ fsF _ Q hs ?_)
  refine kB (c:=.tmp dj) (x:=.const (.bool true)) (y:=.tmp dr) (t:=true) (u:=.bool true) (v:=undef) (fs:=fsF) (jA h5.get hg) h3 rfl h3' ?_
  refine TriX.subF (jB h5.get _ _) ?_
  rw [hxb] at k
  exact k
theorem vD {x:Int} (h:-9223372036854775808≤x∧x≤9223372036854775807):IntKind.i64.wrap x=x:=IntWalk.i64_in _ h
section
variable {md:Bool} {x y:Operand} {t yt:TypeId} {p q:Int}
variable (hok:okS cx.n ops fs d g=true) (hx:ev fs x=some (.int .i64 p)) (hy:ev fs y=some (.int .i64 q))
include hok hx hy
theorem bJ (hb:-9223372036854775808≤p+q∧p+q≤9223372036854775807) (k:TriX md cx ops ((d,.int .i64 (p+q))::fs) H rest Q):TriX md cx ops fs H (⟨some d,.binOp .add t x y yt,ty,pos,af,g⟩::rest) Q :=
 o_add hok hx hy (by rw [vD hb]; exact k)
theorem ug (hb:-9223372036854775808≤p - q∧p - q≤9223372036854775807) (k:TriX md cx ops ((d,.int .i64 (p - q))::fs) H rest Q):TriX md cx ops fs H (⟨some d,.binOp .sub t x y yt,ty,pos,af,g⟩::rest) Q :=
 o_sub hok hx hy (by rw [vD hb]; exact k)
end
theorem aZ {md:Bool} {x:Operand} {i:Nat} {vs:List Value} {v:Value} (hok:okS cx.n ops fs d g=true) (hx:ev fs x=some (.tuple vs.toArray)) (hv:vs[i]? = some v) (k:TriX md cx ops ((d,v)::fs) H rest Q):TriX md cx ops fs H (⟨some d,.extract x i,ty,pos,af,g⟩::rest) Q :=
 bd v hok (fun a w ha _=>by simp [execOp,ha.eval hx,Instr.extract,hv]) k
theorem bD {md:Bool} {fn:Fn} {xs ys:List Operand} {us vs:List Value} (hok:okS cx.n ops fs d g=true) (hx:evs fs xs=some us) (hy:evs fs ys=some vs) (k:TriX md cx ops ((d,.func fn us.toArray vs.toArray)::fs) H rest Q) :
  TriX md cx ops fs H (⟨some d,.makeFunc fn xs.toArray ys.toArray,ty,pos,af,g⟩::rest) Q :=
 bd _ hok (fun a w ha _=>by simp [execOp,Instr.makeFunc,ha.evals hx,ha.evals hy]) k
theorem jW {md:Bool} {x:Operand} {t:TypeId} {v:Value} {ds:TypeDesc} (ht:cx.P.underlying t=some ds) (hni:(match ds with | .interface _=>true | _=>false)=false) (hok:okS cx.n ops fs d g=true) (hx:ev fs x=some v) (k:TriX md cx ops ((d,.iface t v)::fs) H rest Q) :
  TriX md cx ops fs H (⟨some d,.makeInterface t x,ty,pos,af,g⟩::rest) Q :=
 bd _ hok (fun a w ha _=>by cases ds<;>simp_all [execOp,ha.eval hx,Instr.makeInterface,run_underlying ht]) k
theorem aE {md:Bool} {x:Operand} {ad:Addr} (hok:okS cx.n ops fs d g=true) (hx:ev fs x=some (.pointer (some ad))) (k:TriX md cx ops ((d,.pointer (some ad))::fs) H rest Q):TriX md cx ops fs H (⟨some d,.nilCheck x,ty,pos,af,g⟩::rest) Q :=
 bd _ hok (fun a w ha _=>by simp [execOp,ha.eval hx]) k
end
theorem av {cx:Cx} {fs:aW} {H:List Chunk} {Q:co} {c:Operand} {x y:Code} {p:Prop} [Decidable p] (hc:ev fs c=some (.bool (decide p))) (ht:p→Tri cx fs H x Q) (hf:¬ p→Tri cx fs H y Q):Tri cx fs H (.cond c x y) Q :=
 aG hc (fun h=>ht (of_decide_eq_true h)) (fun h=>hf (of_decide_eq_false h))
def joinQ (cx:Cx) {ι:Type} (F:ι→aW) (HH:ι→List Chunk) (Pu:ι→Prop) (fs:aW) (H:List Chunk):Prop:=∃ i,Sub fs (F i)∧(∀ w,Sat cx H w→Sat cx (HH i) w)∧Pu i
theorem cz {cx:Cx} {fs:aW} {H:List Chunk} {Q:co} {x y:Code} {ι:Type} (F:ι→aW) (HH:ι→List Chunk) (Pu:ι→Prop) (h:Tri cx fs H x (kz (joinQ cx F HH Pu) Q)) (k:∀ i,Pu i→Tri cx (F i) (HH i) y Q):Tri cx fs H (.seq x y) Q :=
 ub _ h fun _ _ ⟨i,hs,hh,hp⟩=>Tri.sub hs (Tri.heap hh (k i hp))
theorem au {cx:Cx} {fs:aW} {H:List Chunk} {Q:co} {c:Code} (fs':aW) (hs:Sub fs fs') (h:Tri cx fs' H c Q):Tri cx fs H c Q:=Tri.sub hs h
def keepO:List Nat→aW→Option aW
 | [],_=>some []
 | k::l,fs=>match look fs k with
  | none=>none
  | some v=>match keepO l fs with
   | none=>none
   | some r=>some ((k,v)::r)
theorem keepO_sub:∀ (ks:List Nat) (fs r:aW),keepO ks fs=some r→Sub fs r
 | [],fs,r,h=>by cases h; exact .nil _
 | k::l,fs,r,h=>by
  unfold keepO at h
  cases h1:look fs k with
  | none=>simp only [h1] at h; cases h
  | some v =>
   simp only [h1] at h
   cases h2:keepO l fs with
   | none=>simp only [h2] at h; cases h
   | some r' =>
    simp only [h2] at h
    cases h
    exact .cons h1 (keepO_sub l fs r' h2)
theorem tri_slo {cx:Cx} {fs:aW} {H:List Chunk} {Q:co} {c:Code} (fs':aW) (e:keepO (fs'.map Prod.fst) fs=some fs') (h:Tri cx fs' H c Q):Tri cx fs H c Q:=au fs' (keepO_sub _ _ _ e) h
end Go.WK
namespace Go.WK
open Go.RowKit
section
variable {P:Program} {ops:Array Oper} {md:Region.Mode} {C:World→Prop} {kp:Nat→Bool}
abbrev jm:Exit→Act→World→Prop:=fun _ _ _=>False
def adv (b:Bool) (w w':World):Prop:=match b with | true=>Chg [] w w' | false=>w'=w
theorem cU {b:Bool} {w w':World} (h:adv b w w'):Chg [] w w':=by
 cases b with
 | true=>exact h
 | false=>rw [show w'=w from h]; exact Chg.refl _ _
theorem sq (b:Bool) (w:World):adv b w w:=by
 cases b with
 | true=>exact Chg.refl _ _
 | false=>rfl
def dY (P:Program) (md:Region.Mode) (ops:Array Oper) (C:World→Prop) (kp:Nat→Bool) (Q:Act→World→Prop):Nat→Array Bool→Act→World→Prop
 | 0,listed,a,w=>Region.ready md ops listed=[]∧Q a w
 | f+1,listed,a,w =>
  (Region.ready md ops listed=[]→Q a w) ∧
  ∀ i ∈ Region.ready md ops listed,wpOp P ops jm i (fun a' w'=>(kp i=true→C w')∧∀ w'',adv (kp i) w' w''→dY P md ops C kp Q f (listed.setIfInBounds i true) a' w'') a w
theorem mM {Q:Exit→Act→World→Prop} {i:Nat} {K:Act→World→Prop} {a:Act} {w:World} (h:wpOp P ops jm i K a w):wpOp P ops Q i K a w:=by
 unfold wpOp at h ⊢
 split
 · rename_i ho; simp only [ho] at h; exact h
 · rename_i o ho
   simp only [ho] at h
   split
   · rename_i hw
     simp only [hw,if_true] at h
     rcases h with h | ⟨_,_,_,h⟩
     · exact .inl (eL (fun _ _ h=>h) (fun _ _ _ h=>h.elim) (fun _ _ h=>h.elim) _ h)
     · exact h.elim
   · rename_i hw; simp only [hw] at h; exact h
theorem dZ {Q:Exit→Act→World→Prop}:∀ (f:Nat) (listed:Array Bool) (a:Act) (w:World),dY P md ops C kp (Q .normal) f listed a w→wpAny P md ops Q f listed a w
 | 0,_,_,_,h=>h
 | f+1,_,_,_,h=>⟨h.1,fun i hi=>wpOp_mono (fun a' w' h'=>dZ f _ a' w' (h'.2 w' (sq _ _))) (mM (h.2 i hi))⟩
def YieldsF (P:Program) (ops:Array Oper) (C:World→Prop) (o:Oper) (v:Value) (a:Act):Prop :=
 (Region.wanted o (yielded ops a.tmps)=true∧∀ w,C w→o.quietAt P a (Chg [] w) w v)∨(Region.wanted o (yielded ops a.tmps)=false∧v=undef)
theorem YieldsF.of_same {o:Oper} {v:Value} {a a':Act} (hy:YieldsF P ops C o v a) (he:execOp a'.eval o=execOp a.eval o)
  (hw:Region.wanted o (yielded ops a'.tmps)=Region.wanted o (yielded ops a.tmps)):YieldsF P ops C o v a':=by
 unfold YieldsF Oper.quietAt at *
 rw [he,hw]
 exact hy
theorem YieldsF.wpOp {i:Nat} {o:Oper} {v:Value} {a:Act} {w:World} (hi:ops[i]? = some o) (hy:YieldsF P ops C o v a) (hC:C w) {K:Act→World→Prop} (h:∀ w',Chg [] w w'→K (a.put o.dst v) w'):wpOp P ops jm i K a w:=by
 unfold Go.wpOp
 simp only [hi]
 rcases hy with ⟨hw,hv⟩ | ⟨hw,rfl⟩
 · simp only [hw,if_true]
   left
   have h3:=hv w hC
   unfold Oper.quietAt at h3
   unfold Oper.wp
   generalize (execOp a.eval o).run P w=r at *
   cases r with
   | ok n w' =>
    cases n<;>simp only [Oper.quietUpon] at h3<;>simp only [Oper.upon]
    case value u=>obtain ⟨e1,e2⟩:=h3; rw [e1,e2]; exact h _ (Chg.refl _ _)
    case skip=>obtain ⟨e1,e2⟩:=h3; rw [e1, ← e2]; exact h _ (Chg.refl _ _)
    case enter f args=>obtain ⟨e1,hc⟩:=h3; rw [e1]; exact hc.mono fun e w'' ⟨he,hw''⟩=>by subst he; exact h _ hw''
   | halt x w'=>simp only [Oper.quietUpon] at h3
 · simp only [hw,Bool.false_eq_true,if_false]; exact h _ (Chg.refl _ _)
theorem oc (a:Act) (d:Deferred) (i:Option Tmp) (v:Value):({ (a.put i v) with defers:=d::(a.put i v).defers }:Act)=({ a with defers:=d::a.defers }:Act).put i v:=by
 cases i<;>rfl
theorem od {j:Nat} {oi oj:Oper} {v:Value} {w:World} (hj:ops[j]? = some oj) (hap:oi.apart ops oj=true)
  (hsi:∀ cs b,oi.op≠.select cs b) (hsj:∀ cs b,oj.op≠.select cs b) {K:Act→World→Prop} {a:Act}
  (hy:YieldsF P ops C oi v a) (h:wpOp P ops jm j K (a.put oi.dst v) w) :
  wpOp P ops jm j (fun a' w'=>YieldsF P ops C oi v a'∧K (a'.put oi.dst v) w') a w:=by
 obtain ⟨h1,h2,h3⟩:=Oper.apart_spec hap
 have keep:∀ (a:Act),YieldsF P ops C oi v a→∀ u,YieldsF P ops C oi v (a.put oj.dst u):=fun a hy u =>
  hy.of_same (execOp_put oi hsi a oj.dst u h3) (wanted_put oi a oj.dst u h3)
 unfold wpOp at *
 simp only [hj] at *
 rw [wanted_put oj a oi.dst v h1] at h
 split
 · rename_i hw
   simp only [hw,if_true] at h
   rcases h with h | ⟨_,_,_,h⟩
   · left
     unfold Oper.wp at *
     rw [execOp_put oj hsj a oi.dst v h1] at h
     generalize (execOp a.eval oj).run P w=r at *
     cases r with
     | ok n w' =>
      cases n<;>simp only [Oper.upon] at h ⊢
      case value u=>exact ⟨keep a hy u,by rw [← Act.put_comm a v u h2]; exact h⟩
      case skip=>exact ⟨keep a hy _,by rw [← Act.put_comm a v undef h2]; exact h⟩
      case defer d =>
       rw [oc] at h
       exact ⟨keep { a with defers:=d::a.defers } (hy.of_same rfl rfl) undef,by rw [← Act.put_comm _ v undef h2]; exact h⟩
      case enter f args =>
       refine Calls.mono h fun e w'' he=>?_
       cases e with
       | returned u=>exact ⟨keep a hy u,by rw [← Act.put_comm a v u h2]; exact he⟩
       | panicked ch=>exact he
       | outgrown=>exact he
      case row nm args=>exact Rows.mono h fun u w'' he=>⟨keep a hy u,by rw [← Act.put_comm a v u h2]; exact he⟩
      all_goals exact h
     | halt x w'=>cases x<;>simp only [Oper.upon] at h ⊢<;>exact h
   · exact h.elim
 · rename_i hw
   simp only [hw] at h
   exact ⟨keep a hy _,by rw [← Act.put_comm a v undef h2]; exact h⟩
def Shut (md:Region.Mode) (ops:Array Oper) (listed:Array Bool):Prop:=∀ (j:Nat) (oj:Oper),ops[j]? = some oj→listed.getD j false=true→∀ e ∈ oj.after,Region.binds md e=true→listed.getD e.on false=true
theorem Shut.set {listed:Array Bool} {i:Nat} (inv:Shut md ops listed) (hi:i ∈ Region.ready md ops listed):Shut md ops (listed.setIfInBounds i true):=by
 obtain ⟨_,oi,hoi,hall⟩:=mem_ready.1 hi
 have up:∀ k,listed.getD k false=true→(listed.setIfInBounds i true).getD k false=true:=fun k hk=>by
  by_cases hik:i=k
  · subst hik
    have hlt:i < listed.size:=by
     rcases Nat.lt_or_ge i listed.size with h | h
     · exact h
     · simp [Array.getElem?_eq_none h] at hk
    simp [hlt]
  · rw [getD_set_ne false hik]; exact hk
 intro j oj hj hl e he hb
 by_cases hij:i=j
 · subst hij
   obtain rfl:oj=oi:=Option.some.inj (hj.symm.trans hoi)
   exact up _ (hall e he hb)
 · rw [getD_set_ne false hij] at hl
   exact up _ (inv j oj hj hl e he hb)
theorem fU (m j:Nat):(Array.replicate m false).getD j false=false:=by
 rcases Nat.lt_or_ge j m with h | h
 · simp [h]
 · simp [h]
def nv (md:Region.Mode) (i:Nat):List Oper→Array Bool→Array Bool
 | [],acc=>acc
 | o::l,acc=>nv md i l (acc.push (acc.size == i || o.after.any (fun e=>Region.binds md e && acc.getD e.on false)))
theorem mi {acc:Array Bool} {b:Bool} {k:Nat} (h:acc.getD k false=true):(acc.push b).getD k false=true:=by
 rcases Nat.lt_or_ge k acc.size with hk | hk
 · simp [hk] at h
   simp [Nat.lt_succ_of_lt hk,Array.getElem_push_lt hk,h]
 · simp [Array.getElem?_eq_none hk] at h
theorem oe (i:Nat):∀ (l:List Oper) (acc:Array Bool),(∀ k o,l[k]? = some o→ops[acc.size+k]? = some o) →
  (∀ j,acc.getD j false=true→j=i∨∃ oj,ops[j]? = some oj∧∃ e ∈ oj.after,Region.binds md e=true∧e.on < j∧acc.getD e.on false=true) →
  ∀ j,(nv md i l acc).getD j false=true→j=i∨∃ oj,ops[j]? = some oj∧∃ e ∈ oj.after,Region.binds md e=true∧e.on < j∧(nv md i l acc).getD e.on false=true
 | [],acc,_,h=>h
 | o::l,acc,hl,h=>by
  unfold nv
  refine oe i l _ (fun k o' hk=>?_) (fun j hj=>?_)
  · have:=hl (k+1) o' (by simpa using hk)
    rw [Array.size_push,show acc.size+1+k=acc.size+(k+1) by omega]
    exact this
  · rcases Nat.lt_or_ge j acc.size with hj' | hj'
    · have hj2:acc.getD j false=true:=by simp [hj',Array.getElem_push_lt,Nat.lt_succ_of_lt hj'] at hj ⊢; exact hj
      rcases h j hj2 with h1 | ⟨oj,h1,e,h2,h3,h4,h5⟩
      · exact .inl h1
      · exact .inr ⟨oj,h1,e,h2,h3,h4,mi h5⟩
    · rcases Nat.lt_or_ge acc.size j with hj3 | hj3
      · rw [Array.getD_eq_getD_getElem?,Array.getElem?_eq_none (by rw [Array.size_push]; omega)] at hj; cases hj
      · obtain rfl:j=acc.size:=by omega
        simp only [Array.getD_eq_getD_getElem?,Array.getElem?_push_size,Option.getD_some,Bool.or_eq_true,beq_iff_eq] at hj
        rcases hj with hj | hj
        · exact .inl hj
        · obtain ⟨e,he,hb⟩:=Array.any_eq_true'.1 hj
          simp only [Bool.and_eq_true] at hb
          have h5:acc.getD e.on false=true:=by rw [Array.getD_eq_getD_getElem?]; exact hb.2
          refine .inr ⟨o,by simpa using hl 0 o rfl,e,he,hb.1, ?_,mi h5⟩
          rcases Nat.lt_or_ge e.on acc.size with h6 | h6
          · exact h6
          · rw [Array.getD_eq_getD_getElem?,Array.getElem?_eq_none h6] at h5; cases h5
theorem mN {i j:Nat} {listed:Array Bool} (hs:Shut md ops listed) (hi:listed.getD i true=false) (hji:j≠i) (hb:(nv md i ops.toList #[]).getD j false=true):j ∉ Region.ready md ops listed:=by
 have spec:=oe (ops:=ops) (md:=md) i ops.toList #[] (fun k o hk=>by simpa using hk) (fun j hj=>by simp at hj)
 have low:∀ j,(nv md i ops.toList #[]).getD j false=true→listed.getD j false=false:=by
  intro j
  induction j using Nat.strongRecOn with
  | _ j ih =>
   intro hj
   rcases spec j hj with rfl | ⟨oj,h1,e,h2,h3,h4,h5⟩
   · rcases Nat.lt_or_ge j listed.size with h | h
     · simp [h] at hi ⊢; exact hi
     · simp [Array.getElem?_eq_none h] at hi
   · cases hl:listed.getD j false with
     | false=>rfl
     | true=>have:=hs j oj h1 hl e h2 h3; rw [ih e.on h4 h5] at this; cases this
 intro hr
 obtain ⟨_,oj,hoj,hall⟩:=mem_ready.1 hr
 rcases spec j hb with h | ⟨o',h1,e,h2,h3,_,h5⟩
 · exact hji h
 · obtain rfl:o'=oj:=Option.some.inj (h1.symm.trans hoj)
   have:=hall e h2 h3
   rw [low _ h5] at this
   cases this
theorem fV {Q:Act→World→Prop} {i:Nat} {oi:Oper} {v:Value} (hi:ops[i]? = some oi) (hsel:∀ (j:Nat) (o:Oper) cs b,ops[j]? = some o→o.op≠.select cs b)
  (hext:∀ w w',C w→Chg [] w w'→C w') (hkp:∀ (listed:Array Bool) j,Shut md ops listed→listed.getD i true=false→j≠i→j ∈ Region.ready md ops listed→kp j=true) :
  ∀ (fuel:Nat) (listed:Array Bool) (a:Act) (w:World),Shut md ops listed →
   (∀ j oj,ops[j]? = some oj→j≠i→listed.getD j true=false→(∀ e ∈ oj.after,Region.binds md e=true→e.on≠i)→oi.apart ops oj=true) →
   i ∈ Region.ready md ops listed→YieldsF P ops C oi v a→C w →
   (∀ w',Chg [] w w'→dY P md ops C kp Q fuel (listed.setIfInBounds i true) (a.put oi.dst v) w')→dY P md ops C kp Q (fuel+1) listed a w:=by
 intro fuel
 induction fuel with
 | zero =>
  intro listed a w _ _ hr hy hC H
  refine ⟨fun h=>(by rw [h] at hr; cases hr),fun j hj=>?_⟩
  by_cases hji:j=i
  · subst hji; exact hy.wpOp hi hC fun w' hw'=>⟨fun _=>hext _ _ hC hw',fun w'' h''=>H w'' (hw'.trans (cU h''))⟩
  · have:=ready_mono hj hji
    rw [(H w (Chg.refl _ _)).1] at this
    cases this
 | succ fuel ih =>
  intro listed a w hcl hfree hr hy hC H
  refine ⟨fun h=>(by rw [h] at hr; cases hr),fun j hj=>?_⟩
  by_cases hji:j=i
  · subst hji; exact hy.wpOp hi hC fun w' hw'=>⟨fun _=>hext _ _ hC hw',fun w'' h''=>H w'' (hw'.trans (cU h''))⟩
  · have h1:=(H w (Chg.refl _ _)).2 j (ready_mono hj hji)
    obtain ⟨hjun,oj,hoj,hall⟩:=mem_ready.1 hj
    have hnot:∀ e ∈ oj.after,Region.binds md e=true→e.on≠i:=fun e he hb heq=>by
     have h1:=hall e he hb
     have h0:=(mem_ready.1 hr).1
     rw [heq] at h1
     rcases Nat.lt_or_ge i listed.size with h' | h'
     · simp [h'] at h0 h1; rw [h0] at h1; cases h1
     · simp [Array.getElem?_eq_none h'] at h1
    have hap:=hfree j oj hoj hji hjun hnot
    have hkj:=hkp listed j hcl (mem_ready.1 hr).1 hji hj
    have h2:=od hoj hap (fun cs b=>hsel i oi cs b hi) (fun cs b=>hsel j oj cs b hoj) hy h1
    have hfree':∀ k ok,ops[k]? = some ok→k≠i→(listed.setIfInBounds j true).getD k true=false →
      (∀ e ∈ ok.after,Region.binds md e=true→e.on≠i)→oi.apart ops ok=true:=fun k ok hk hki hun hno=>by
     refine hfree k ok hk hki ?_ hno
     by_cases hjk:j=k
     · subst hjk; exact hjun
     · rw [getD_set_ne true hjk] at hun; exact hun
    refine wpOp_mono (fun a' w' h3=>⟨h3.2.1,fun w'' hw''=>?_⟩) h2
    refine ih (listed.setIfInBounds j true) a' w'' (hcl.set hj) hfree' (ready_mono hr (Ne.symm hji)) h3.1 (hext _ _ (h3.2.1 hkj) (cU hw'')) (fun w3 hw3=>?_)
    have:=h3.2.2 w3 (by rw [hkj] at hw'' ⊢; exact Chg.trans hw'' hw3)
    rw [Array.setIfInBounds_comm _ _ (Ne.symm hji)] at this
    exact this
def fW (md:Region.Mode) (ops:Array Oper) (loose:List Nat):List (Nat × Bool)→Array Bool→Bool
 | [],listed=>(Region.ready md ops listed).isEmpty
 | (i,true)::l,listed=>(Region.ready md ops listed).contains i && (Region.free md ops listed i && (loose.all (fun j=>(nv md i ops.toList #[]).getD j false) && fW md ops loose l (listed.setIfInBounds i true)))
 | (i,false)::l,listed=>Region.ready md ops listed == [i] && ((!loose.contains i || l.all (fun p=>!p.2)) && fW md ops loose l (listed.setIfInBounds i true))
def mixB (md:Region.Mode) (ops:Array Oper) (loose:List Nat) (l:List (Nat × Bool)):Bool:=Region.noSelect ops && ((l.length == ops.size) && fW md ops loose l (Array.replicate ops.size false))
def ik (P:Program) (ops:Array Oper) (C:World→Prop) (loose:List Nat) (Q:Act→World→Prop):List (Nat × Bool)→Act→World→Prop
 | [],a,w=>Q a w
 | (i,true)::l,a,w=>∃ o v,ops[i]? = some o∧YieldsF P ops C o v a∧∀ w',Chg [] w w'→ik P ops C loose Q l (a.put o.dst v) w'
 | (i,false)::l,a,w=>wpOp P ops jm i (fun a' w'=>((!loose.contains i)=true→C w')∧∀ w'',adv (!loose.contains i) w' w''→ik P ops C loose Q l a' w'') a w
theorem dM {Q:Act→World→Prop} {loose:List Nat} (hs:Region.noSelect ops=true) (hext:∀ w w',C w→Chg [] w w'→C w'):∀ (l:List (Nat × Bool)) (listed:Array Bool) (a:Act) (w:World),
  fW md ops loose l listed=true→Shut md ops listed→((∃ p ∈ l,p.2=true)→C w)→ik P ops C loose Q l a w→dY P md ops C (fun j=>!loose.contains j) Q l.length listed a w
 | [],_,_,_,hB,_,_,h=>⟨by simpa [fW] using hB,h⟩
 | (i,true)::l,listed,a,w,hB,hcl,hC,h=>by
  obtain ⟨o,v,hi,hy,hk⟩:=h
  simp only [fW,Bool.and_eq_true] at hB
  obtain ⟨hr,hf,hk',hB'⟩:=hB
  have hCw:=hC ⟨_,List.mem_cons_self,rfl⟩
  refine fV hi (Region.noSelect_spec hs) hext (fun lst j hs' hi' hji hj=>?_) l.length listed a w hcl (Region.free_spec hi hf) (by simpa using hr) hy hCw
   (fun w' hw'=>dM hs hext l _ _ w' hB' (hcl.set (by simpa using hr)) (fun _=>hext _ _ hCw hw') (hk w' hw'))
  cases hc:loose.contains j with
  | false=>rfl
  | true=>exact absurd hj (mN hs' hi' hji (List.all_eq_true.1 hk' j (by simpa using hc)))
 | (i,false)::l,listed,a,w,hB,hcl,hC,h=>by
  simp only [fW,Bool.and_eq_true,beq_iff_eq] at hB
  obtain ⟨hr,hl,hB'⟩:=hB
  show dY P md ops C _ Q (l.length+1) listed a w
  refine ⟨fun h0=>(by rw [hr] at h0; cases h0),fun j hj=>?_⟩
  rw [hr] at hj
  obtain rfl:j=i:=by simpa using hj
  refine wpOp_mono (fun a' w' h'=>⟨h'.1,fun w'' hw''=>dM hs hext l _ a' w'' hB' (hcl.set (by rw [hr]; exact List.mem_cons_self)) ?_ (h'.2 w'' hw'')⟩) h
  rintro ⟨p,hp,hpt⟩
  simp only [Bool.or_eq_true] at hl
  rcases hl with hl | hl
  · exact hext _ _ (h'.1 hl) (cU hw'')
  · have:=List.all_eq_true.1 hl p hp
    rw [hpt] at this
    cases this
end
section
variable {cx:Cx} {fs:aW} {H C:List Chunk} {Q:co} {ops:Array Oper} {loose:List Nat} {ord:List (Nat × Bool)}
def lE (cx:Cx) (C:List Chunk) (ops:Array Oper) (loose:List Nat) (fs:aW) (H:List Chunk) (ord:List (Nat × Bool)) (Q:co):Prop :=
 ∀ a w,Has cx.n cx.ds fs a→Sat cx H w→ik cx.P ops (Sat cx C) loose (fun a w=>iF cx Q .normal a w) ord a w
theorem bj {id:Nat} {l:List Oper} (C:List Chunk) (ord:List (Nat × Bool)) (loose:List Nat) (hm:cx.P.follows .mixedOrders=true) (hB:mixB .any l.toArray loose ord=true) (hC:∀ w,Sat cx H w→Sat cx C w)
  (h:lE cx C l.toArray loose fs H ord Q):Tri cx fs H (.region id l.toArray true) Q:=fun a w ha hw=>by
 simp only [mixB,Bool.and_eq_true,beq_iff_eq] at hB
 have h1:=dM hB.1 (fun w w' h k=>h.ext k) ord _ a _ hB.2.2 (fun j oj _ hj=>by rw [fU] at hj; cases hj) (fun _=>hC _ hw.drew) (h a _ ha hw.drew)
 rw [hB.2.1] at h1
 exact wp_region_any hm (dZ _ _ _ _ h1)
theorem cI (h:Q .normal fs H):lE cx C ops loose fs H [] Q:=fun _ _ ha hw=>⟨fs,H,ha,hw,h⟩
theorem ah {i:Nat} {o:Oper} (hi:ops[i]? = some o) (h:TriX true cx ops fs C [o] (fun e fs' _=>e=.normal∧lE cx C ops loose fs' H ord Q)):lE cx C ops loose fs H ((i,true)::ord) Q:=fun a w ha hw=>by
 have h1:=h a ha
 unfold fb at h1
 by_cases hw':Region.wanted o (yielded ops a.tmps)=true
 · rw [if_pos hw'] at h1
   obtain ⟨v,h2,fs',h3,_,h4⟩:=h1
   exact ⟨o,v,hi,.inl ⟨hw',h2⟩,fun w' hc=>h4 _ w' h3 (hw.ext hc)⟩
 · rw [if_neg hw'] at h1
   obtain ⟨fs',h3,_,h4⟩:=h1
   exact ⟨o,undef,hi,.inr ⟨by simpa using hw',rfl⟩,fun w' hc=>h4 _ w' h3 (hw.ext hc)⟩
theorem aN {i:Nat} {o:Oper} (hi:ops[i]? = some o) (h:TriX false cx ops fs H [o] (fun e fs' H'=>e=.normal∧((!loose.contains i)=true→∀ w,Sat cx H' w→Sat cx C w)∧lE cx C ops loose fs' H' ord Q)):lE cx C ops loose fs H ((i,false)::ord) Q:=fun a w ha hw=>by
 have h1:=h a w ha hw
 unfold wpList at h1
 unfold ik wpOp
 simp only [hi]
 have key:∀ a' w',wpList cx.P ops (iF cx (fun e fs' H'=>e=.normal∧((!loose.contains i)=true→∀ w,Sat cx H' w→Sat cx C w)∧lE cx C ops loose fs' H' ord Q)) [] a' w' →
   ((!loose.contains i)=true→Sat cx C w')∧∀ w'',adv (!loose.contains i) w' w''→ik cx.P ops (Sat cx C) loose (fun a w=>iF cx Q .normal a w) ord a' w'':=by
  rintro a' w' ⟨fs',H',h2,h3,_,h4,h5⟩
  exact ⟨fun hk=>h4 hk _ h3,fun w'' hc=>h5 _ _ h2 (h3.ext (cU hc))⟩
 split
 · rename_i hw'
   rw [if_pos hw'] at h1
   rcases h1 with h1 | ⟨_,a',w',fs',H',_,_,h2,_⟩
   · exact .inl (eL key (fun _ _ _ ⟨_,_,_,_,h,_⟩=>by cases h) (fun _ _ ⟨_,_,_,_,h,_⟩=>by cases h) _ h1)
   · cases h2
 · rename_i hw'
   rw [if_neg hw'] at h1
   exact key _ _ h1
theorem Sat.dropS {w:World} (k:Nat) (h:Sat cx H w):Sat cx (H.drop k) w:=h.sublist (List.drop_sublist k H)
theorem bM (is:List Nat) (l:List Oper) (hl:is.map (fun i=>ops[i]?)=l.map some) (hi:(is.all fun i=>loose.contains i)=true) (h:TriX false cx ops fs H l (fun e fs' H'=>e=.normal∧Q .normal fs' H')) :
  lE cx C ops loose fs H (is.map fun i=>(i,false)) Q:=by
 have key:∀ (is:List Nat) (l:List Oper) (a:Act) (w:World),is.map (fun i=>ops[i]?)=l.map some→(is.all fun i=>loose.contains i)=true →
   wpList cx.P ops (iF cx (fun e fs' H'=>e=.normal∧Q .normal fs' H')) l a w→ik cx.P ops (Sat cx C) loose (fun a w=>iF cx Q .normal a w) (is.map fun i=>(i,false)) a w:=by
  intro is
  induction is with
  | nil =>
   intro l a w hl _ h
   cases l with
   | nil=>obtain ⟨fs',H',h1,h2,_,h3⟩:=h; exact ⟨fs',H',h1,h2,h3⟩
   | cons o l=>simp at hl
  | cons i is ih =>
   intro l a w hl hi h
   cases l with
   | nil=>simp at hl
   | cons o l =>
    simp only [List.map_cons,List.cons.injEq] at hl
    simp only [List.all_cons,Bool.and_eq_true] at hi
    unfold wpList at h
    simp only [List.map_cons]
    unfold ik wpOp
    simp only [hl.1]
    have hk:∀ a' w',wpList cx.P ops (iF cx (fun e fs' H'=>e=.normal∧Q .normal fs' H')) l a' w' →
      ((!loose.contains i)=true→Sat cx C w')∧∀ w'',adv (!loose.contains i) w' w''→ik cx.P ops (Sat cx C) loose (fun a w=>iF cx Q .normal a w) (is.map fun i=>(i,false)) a' w'':=by
     intro a' w' h'
     rw [hi.1]
     exact ⟨fun hf=>by simp at hf,fun w'' hc=>by rw [show w''=w' from hc]; exact ih l a' w' hl.2 hi.2 h'⟩
    split
    · rename_i hw'
      rw [if_pos hw'] at h
      rcases h with h | ⟨_,a',w',fs',H',_,_,h2,_⟩
      · exact .inl (eL hk (fun _ _ _ ⟨_,_,_,_,h,_⟩=>by cases h) (fun _ _ ⟨_,_,_,_,h,_⟩=>by cases h) _ h)
      · cases h2
    · rename_i hw'
      rw [if_neg hw'] at h
      exact hk _ _ h
 exact fun a w ha hw=>key is l a w hl hi (h a w ha hw)
end
end Go.WK
namespace Go.WK
open Go.RowKit
def evp (fs:aW):List (Nat × Operand)→Option (List (Nat × Value))
 | []=>some []
 | (i,x)::r=>match ev fs x with
  | some v=>match evp fs r with
   | some vs=>some ((i,v)::vs)
   | none=>none
  | none=>none
theorem Has.evp {n ds a} {fs:aW} (h:Has n ds fs a):∀ {xs:List (Nat × Operand)} {vs:List (Nat × Value)},evp fs xs=some vs→xs.map (fun p=>(p.1,a.eval p.2))=vs
 | [],vs,hx=>by simp [WK.evp] at hx; simp [hx]
 | (i,x)::r,vs,hx=>by
  unfold WK.evp at hx
  cases h1:ev fs x with
  | none=>simp [h1] at hx
  | some v =>
   cases h2:WK.evp fs r with
   | none=>simp [h1,h2] at hx
   | some us =>
    simp only [h1,h2,Option.some.injEq] at hx
    subst hx
    simp [h.eval h1,h.evp h2]
def jX (s:Nat):Nat→List (Nat × Value)→Option (List Value)
 | _,[]=>some []
 | k,(i,v)::r=>bif Nat.beq i k && Nat.beq v.cells.toList.length s then
   (match jX s (k+1) r with | some l=>some (v.cells.toList++l) | none=>none) else none
theorem xi (l:List Value):∀ (off j:Nat) (cs:Array Value),off+j+l.length≤cs.size →
  ((l.zipIdx j).foldl (fun cs (c,j)=>cs.setIfInBounds (off+j) c) cs).toList=cs.toList.take (off+j)++l++cs.toList.drop (off+j+l.length):=by
 induction l with
 | nil=>intro off j cs _; simp
 | cons c l ih =>
  intro off j cs h
  simp only [List.length_cons] at h
  simp only [List.zipIdx_cons,List.foldl_cons]
  rw [ih off (j+1) _ (by simp; omega)]
  have e:=list_seg_step cs.toList (off+j) c l (by simp; omega)
  simpa [Array.toList_setIfInBounds,Nat.add_assoc,Nat.add_comm 1] using e
theorem mj (s:Nat):∀ (pv:List (Nat × Value)) (k:Nat) (cells:Array Value) (xs:List Value),jX s k pv=some xs→k * s+xs.length≤cells.size →
  ∃ r,Instr.fill (fun i=>some (i * s,s)) cells pv=some r∧r.toList=cells.toList.take (k * s)++xs++cells.toList.drop (k * s+xs.length)
 | [],k,cells,xs,h,_=>by
  simp only [jX,Option.some.injEq] at h
  subst h
  exact ⟨cells,rfl,by simp⟩
 | (i,v)::r,k,cells,xs,h,hl=>by
  unfold jX at h
  cases hc:(Nat.beq i k && Nat.beq v.cells.toList.length s) with
  | false=>rw [hc,cond_false] at h; cases h
  | true =>
   simp only [Bool.and_eq_true] at hc
   have hi:i=k:=Nat.eq_of_beq_eq_true hc.1
   have hs:v.cells.toList.length=s:=Nat.eq_of_beq_eq_true hc.2
   subst hi
   have hb:(Nat.beq i i && Nat.beq v.cells.toList.length s)=true:=by rw [Bool.and_eq_true]; exact hc
   simp only [hb,cond_true] at h
   cases hr:jX s (i+1) r with
   | none=>simp [hr] at h
   | some l =>
    simp only [hr,Option.some.injEq] at h
    subst h
    simp only [List.length_append] at hl
    have hsz:v.cells.size=s:=by rw [← hs]; exact Array.length_toList.symm
    have hf:=xi v.cells.toList (i * s) 0 cells (by omega)
    simp only [Nat.add_zero] at hf
    have hlen:(v.cells.zipIdx.foldl (fun cs (c,j)=>cs.setIfInBounds (i * s+j) c) cells).toList=cells.toList.take (i * s)++v.cells.toList++cells.toList.drop (i * s+v.cells.toList.length):=by
     rw [← Array.foldl_toList,Array.toList_zipIdx]; exact hf
    have hsize:(v.cells.zipIdx.foldl (fun cs (c,j)=>cs.setIfInBounds (i * s+j) c) cells).size=cells.size:=by
     rw [← Array.length_toList,hlen]; simp; omega
    obtain ⟨r',h1,h2⟩:=mj s r (i+1) _ l hr (by rw [hsize,Nat.add_mul]; omega)
    refine ⟨r', ?_, ?_⟩
    · have hng:¬ (i * s+s > cells.size):=by omega
      simp only [Instr.fill,hsz,ne_eq,not_true_eq_false,decide_false,hng,Bool.or_self,Bool.false_eq_true,if_false]
      exact h1
    · rw [h2,hlen,hs]
      have e1:(i+1) * s=i * s+s:=by rw [Nat.add_mul]; omega
      have hA:(cells.toList.take (i * s)++v.cells.toList).length=i * s+s:=by simp; omega
      rw [e1]
      rw [List.take_append_of_le_length (by omega),List.take_of_length_le (by omega)]
      rw [List.drop_append,hA,List.drop_of_length_le (by rw [hA]; omega)]
      simp [Nat.add_assoc,hsz]
section ops
variable {m:Bool} {cx:Cx} {fs:aW} {H:List Chunk} {Q:co} {ops:Array Oper} {rest:List Oper} {g:Option (Nat × Bool)} {d:Nat} {ty:TypeId} {pos:String} {af:Array Edge}
theorem gA {parts:List (Nat × Operand)} {pv:List (Nat × Value)} {t e n:Nat} {z:Value} {s:Nat} (xs:List Value) (ht:cx.P.underlying t=some (.slice e)) (hi:(cx.P.info? e).map (fun i=>(i.zero,i.size))=some (some z,s)) (hok:okS cx.n ops fs d g=true)
  (hx:evp fs parts=some pv) (hv:jX s 0 pv=some xs) (hl:xs.length=n * s) (hsm:n * s≤16777216) (hm:n≤maxLen)
  (k:∀ b,TriX false cx ops ((d,.slice (some ⟨b,0,none⟩) n n)::fs) (row (.slice (some ⟨b,0,none⟩) n n) e s n xs::H) rest Q):TriX false cx ops fs H (⟨some d,.buildSlice t n parts.toArray,ty,pos,af,g⟩::rest) Q :=
 fM (J:=Nat) (fun b=>.slice (some ⟨b,0,none⟩) n n) (fun b=>row (.slice (some ⟨b,0,none⟩) n n) e s n xs::H) (fun _=>True) (ee hok) (fun e he=>by cases he; exact hM hok)
  (fun a w ha hw=>by
   obtain ⟨i,hi0,hz'⟩:=Option.map_eq_some_iff.1 hi
   simp only [Prod.mk.injEq] at hz'
   obtain ⟨hz,hsz⟩:=hz'
   have hsm':¬ (16777216 < n * s):=by omega
   obtain ⟨r,h1,h2⟩:∃ r,Instr.fill (fun i=>some (i * s,s)) ((Array.range (n * s)).map ((if n * s=0 then #[] else z.cells)[· % (if n * s=0 then #[] else z.cells).size]!)) pv=some r∧r.toList=xs:=by
    obtain ⟨r,h1,h2⟩:=mj s pv 0 ((Array.range (n * s)).map ((if n * s=0 then #[] else z.cells)[· % (if n * s=0 then #[] else z.cells).size]!)) xs hv (by simp [hl])
    refine ⟨r,h1, ?_⟩
    rw [h2,hl]
    simp only [Nat.zero_mul,List.take_zero,List.nil_append,Nat.zero_add]
    rw [List.drop_of_length_le (by simp)]
    simp
   refine ⟨w.heap.size,w.alloc (.cells xs.toArray e),.inl ?_,hw.push (Chg.alloc _ _ _) _ ?_ (rf (fun a h=>by cases h; exact Nat.le_refl _)),trivial⟩
   · have hr:r=xs.toArray:=by rw [← h2]
     have hpe:(Array.map (fun p:Nat × Operand=>(p.1,a.eval p.2)) parts.toArray).toList=pv:=by simp [ha.evp hx]
     have hszr:(sizeOf e).run cx.P w=.ok s w:=by simp [sizeOf,typeInfo,hi0,hsz]
     simp only [execOp,Instr.buildSlice,Sem.run_bind,run_underlying ht,Result.andThen_ok,hszr,gt_iff_lt,Nat.reducePow,hsm',if_false,hpe]
     by_cases h0:n * s=0
     · rw [if_pos h0] at h1
       rw [if_pos h0]
       simp only [pure_bind,h1]
       simp [newRow,hr]
     · rw [if_neg h0] at h1
       rw [if_neg h0]
       have hzr:(zeroValue e).run cx.P w=.ok z w:=by simp [zeroValue,typeInfo,hi0,hz]
       simp only [Sem.run_bind,hzr,Result.andThen_ok,pure_bind,h1]
       simp [newRow,hr]
   · refine ⟨hl,.inr ⟨w.heap.size,n,xs.toArray,rfl,Nat.zero_le _,heap_alloc_new w _,Nat.le_refl _,hm,by simp [hl], ?_⟩⟩
     rw [← hl]; simp) (fun b _=>k b)
theorem sr {w:World} {A:Option Addr} {e s n c:Nat} {xs:List Value} (h:w.ownsRow 0 e s (.slice A n c) n xs) (hpos:0 < xs.length) :
  ∃ g cur,A=some ⟨g,0,none⟩∧w.heap[g]? = some (.cells cur e (0,0))∧n≤c∧cur.size=c * s∧cur.toList.take (n * s)=xs:=by
 obtain ⟨hl,h2⟩:=h
 rcases h2 with ⟨h3,h4⟩ | ⟨g,cap,cur,hv,_,hh,hnc,hcm,hcs,htk⟩
 · subst h4; simp at hl; rw [hl] at hpos; simp at hpos
 · injection hv with h5 h6 h7
   subst h7
   exact ⟨g,cur,h5,hh,hnc,hcs,htk⟩
end ops
theorem og (l:List UInt8):∀ u ∈ dw l,u.oneCell'=true:=fun u hu=>by
 obtain ⟨b,_,rfl⟩:=List.mem_map.1 hu; rfl
theorem jn (l m:List UInt8):dw (l++m)=dw l++dw m:=by simp [dw]
def nS (f:Value→Value) (w:World) (e size n:Nat) (xs:List Value) (en:Ending) (w':World):Prop :=
 ∃ A c,en=.returned (f (.slice A n c))∧w'.ownsRow 0 e size (.slice A n c) n xs∧(∀ a,A=some a→w.heap.size≤a.block)∧Chg [] w w'
theorem vE {P n0 w} {H:List Chunk} {i:Nat} {A:Option Addr} {n c e size:Nat} {xs:List Value} (f:Value→Value) (hn:Nth H i (row (.slice A n c) e size n xs)):∀ w',Sat ⟨P,n0,[],w,[]⟩ H w'→nS f w e size n xs (.returned (f (.slice A n c))) w':=fun w' h=>by
 refine ⟨A,c,rfl,h.holds _ hn.mem,fun a ha=>?_,h.chg⟩
 rcases h.fresh _ hn.mem a.block (by subst ha; rfl) with h1 | h1
 · exact h1
 · cases h1
section
variable {cx:Cx} {fs:aW} {H:List Chunk} {Q:co} {ops:Array Oper} {rest:List Oper} {g:Option (Nat × Bool)} {d:Nat} {ty:TypeId} {pos:String} {af:Array Edge}
theorem o_callF {f:Operand} {xs:List Operand} {ats:Array TypeId} {fid:FuncId} {first cap:List Value} {vs:List Value} {e size n:Nat} {ys:List Value} (F:Value→Value) (hok:okS cx.n ops fs d g=true)
  (hf:ev fs f=some (.func (.func fid) first.toArray cap.toArray)) (hxs:evs fs xs=some vs) (hcf:∀ args w,(callFunc fid args).run cx.P w=.ok (.enter fid args) w)
  (hc:∀ w,Sat cx H w→Calls cx.P fid (first++vs++cap).toArray w (nS F w e size n ys))
  (k:∀ A c,TriX false cx ops ((d,F (.slice A n c))::fs) (row (.slice A n c) e size n ys::H) rest Q):TriX false cx ops fs H (⟨some d,.call ⟨.value f,xs.toArray,ats⟩,ty,pos,af,g⟩::rest) Q :=
 re (J:=Option Addr × Nat) (fun j=>F (.slice j.1 n j.2)) (fun j=>row (.slice j.1 n j.2) e size n ys::H) (fun _=>True) hok hf hxs hcf
  (fun w hw=>(hc w hw).mono fun _ _ ⟨A,c,he,ho,hn,hx⟩=>⟨(A,c),trivial,he,hw.push hx _ ho (rf hn)⟩) (fun j _=>k j.1 j.2)
end
end Go.WK
namespace Go.WK
open Go.RowKit
theorem Sat.cx {P P':Program} {n n':Nat} {ds ds':List Deferred} {w0 w:World} {lent:List Nat} {H:List Chunk} (h:Sat ⟨P,n,ds,w0,lent⟩ H w):Sat ⟨P',n',ds',w0,lent⟩ H w:=⟨h.chg,h.holds,h.fresh,h.apart⟩
theorem Sat.lend {cx:Cx} {D F:List Chunk} {w:World} {P:Program} {n:Nat} {ds:List Deferred} {lent:List Nat} (h:Sat cx (D++F) w) (hl:∀ c ∈ D,∀ k,c.fp k→k ∈ lent):Sat ⟨P,n,ds,w,lent⟩ D w :=
 ⟨Chg.refl _ _,fun c hc=>h.holds c (List.mem_append_left _ hc),fun c hc k hk=>.inr (hl c hc k hk),(List.pairwise_append.1 h.apart).1⟩
theorem Sat.frame {cx:Cx} {D D' F:List Chunk} {w w':World} {P:Program} {n:Nat} {ds:List Deferred} {lent:List Nat} (h:Sat cx (D++F) w) (hl:∀ k ∈ lent, ∃ c ∈ D,c.fp k) (h':Sat ⟨P,n,ds,w,lent⟩ D' w'):Sat cx (D'++F) w':=by
 obtain ⟨-,hF,hDF⟩:=List.pairwise_append.1 h.apart
 have hout:∀ c ∈ F,∀ k,c.fp k→k ∉ lent:=fun c hc k hk hkl=>by
  obtain ⟨d,hd,hdk⟩:=hl k hkl
  exact hDF d hd c hc k hdk hk
 have hlt:∀ c ∈ F,∀ k,c.fp k→k < w.heap.size:=fun c hc k hk=>h.lt (List.mem_append_right _ hc) hk
 refine ⟨⟨h'.chg.os.trans h.chg.os,h'.chg.tape.trans h.chg.tape,h'.chg.output.trans h.chg.output,Nat.le_trans h.chg.size h'.chg.size,fun k hk hkl=>?_⟩,fun c hc=>?_,fun c hc k hk=>?_,List.pairwise_append.2 ⟨h'.apart,hF,fun c hc d hd k hk hdk=>?_⟩⟩
 · refine (h'.chg.block k (Nat.lt_of_lt_of_le hk h.chg.size) (fun hin=>?_)).trans (h.chg.block k hk hkl)
   obtain ⟨d,hd,hdk⟩:=hl k hin
   rcases h.fresh d (List.mem_append_left _ hd) k hdk with h1 | h1
   · omega
   · exact hkl h1
 · rcases List.mem_append.1 hc with hc | hc
   · exact h'.holds c hc
   · exact c.stab w w' (h.holds c (List.mem_append_right _ hc)) (fun k hk=>h'.chg.block k (hlt c hc k hk) (hout c hc k hk))
 · rcases List.mem_append.1 hc with hc | hc
   · rcases h'.fresh c hc k hk with h1 | h1
     · exact .inl (Nat.le_trans h.chg.size h1)
     · obtain ⟨d,hd,hdk⟩:=hl k h1
       exact h.fresh d (List.mem_append_left _ hd) k hdk
   · exact h.fresh c (List.mem_append_right _ hc) k hk
 · rcases h'.fresh c hc k hk with h1 | h1
   · have h2:w.heap.size≤k:=h1
     exact absurd (hlt d hd k hdk) (by omega)
   · exact hout d hd k hdk h1
def Turn {J:Type} (w:World) (lent:List Nat) (val:J→Value) (D':J→List Chunk) (Pu:J→Prop) (e:Ending) (w':World):Prop:=∃ j,Pu j∧e=.returned (val j)∧Sat ⟨default,0,[],w,lent⟩ (D' j) w'
theorem bz {J:Type} {P:Program} {n:Nat} {w:World} {lent:List Nat} {H:List Chunk} {val:J→Value} {D':J→List Chunk} {Pu:J→Prop} {v:Value} (j:J) (hv:v=val j) (hp:Pu j) (hH:∀ w',Sat ⟨P,n,[],w,lent⟩ H w'→Sat ⟨P,n,[],w,lent⟩ (D' j) w') :
  ∀ w',Sat ⟨P,n,[],w,lent⟩ H w'→Turn w lent val D' Pu (.returned v) w':=fun w' h=>⟨j,hp,by rw [hv],(hH w' h).cx⟩
section ops
variable {cx:Cx} {fs:aW} {H:List Chunk} {Q:co} {ops:Array Oper} {rest:List Oper} {g:Option (Nat × Bool)} {d:Nat} {ty:TypeId} {pos:String} {af:Array Edge}
theorem gK {J:Type} {f:Operand} {xs:List Operand} {ats:Array TypeId} {fid:FuncId} {first cap:List Value} {vs:List Value} {val:J→Value} {D':J→List Chunk} {Pu:J→Prop} (H1 D H2:List Chunk) (lent:List Nat) (hH:H=H1++(D++H2)) (hok:okS cx.n ops fs d g=true)
  (hf:ev fs f=some (.func (.func fid) first.toArray cap.toArray)) (hxs:evs fs xs=some vs) (hcf:∀ args w,(callFunc fid args).run cx.P w=.ok (.enter fid args) w)
  (hl1:∀ c ∈ D,∀ k,c.fp k→k ∈ lent) (hl2:∀ k ∈ lent, ∃ c ∈ D,c.fp k)
  (hc:∀ w,Sat cx H w→Sat ⟨default,0,[],w,lent⟩ D w→Calls cx.P fid (first++vs++cap).toArray w (Turn w lent val D' Pu))
  (k:∀ j,Pu j→TriX false cx ops ((d,val j)::fs) (H1++(D' j++H2)) rest Q):TriX false cx ops fs H (⟨some d,.call ⟨.value f,xs.toArray,ats⟩,ty,pos,af,g⟩::rest) Q:=by
 subst hH
 have hp:(H1++(D++H2)).Perm (D++(H1++H2)):=by
  rw [← List.append_assoc, ← List.append_assoc]
  exact (List.perm_append_comm).append_right H2
 refine re val (fun j=>H1++(D' j++H2)) Pu hok hf hxs hcf (fun w hw=>?_) k
 have hw1:=hw.perm hp
 refine (hc w hw (hw1.lend hl1)).mono fun e w' ⟨j,hpu,he,hs⟩=>⟨j,hpu,he, ?_⟩
 refine (hw1.frame hl2 hs).perm ?_
 rw [← List.append_assoc, ← List.append_assoc]
 exact (List.perm_append_comm).append_right H2
theorem aw {g t:Nat} {cs:List Value}:∀ c ∈ [box g t cs],∀ k,c.fp k→k ∈ [g]:=fun c hc k hk=>by
 obtain rfl:=List.mem_singleton.1 hc
 exact List.mem_singleton.2 hk
theorem ar {g t:Nat} {cs:List Value}:∀ k ∈ [g], ∃ c ∈ [box g t cs],c.fp k:=fun _ hk=>⟨_,List.mem_singleton.2 rfl,List.mem_singleton.1 hk⟩
theorem Sat.nilRow {w:World} (e s:Nat) (h:Sat cx H w):Sat cx (row (.slice none 0 0) e s 0 []::H) w :=
 h.push (Chg.refl _ _) _ ⟨by simp,.inl ⟨rfl,rfl⟩⟩ (fun k hk=>by cases hk)
theorem xj (vs:List Value):∀ (cs:List Value) (o m:Nat),(hY cs o vs).take m=hY (cs.take m) o vs:=by
 induction vs with
 | nil=>intro cs o m; rfl
 | cons v vs ih=>intro cs o m; simp only [hY]; rw [ih,List.take_set]
theorem iC {x y : Operand} {t e i kk s n c z : Nat} {A : Option Addr} {xs vs : List Value} {v : Value} (hz : szB cx.P t = some z) (hn : Nth H i (row (.slice A n c) e s n xs)) (hok : okW ops fs g = true) (hx : ev fs x = some (ko A kk)) (hy : ev fs y = some v)
    (hv : v.cells = vs.toArray) (hl : vs.length = z) (hpos : 0 < z) (hk : kk + z ≤ xs.length) (h1 : allOne vs = true) (k : TriX false cx ops fs (iE H i (row (.slice A n c) e s n (hY xs kk vs))) rest Q) : TriX false cx ops fs H (⟨none,.store t x y,ty,pos,af,g⟩ :: rest) Q :=
  fM (J := Unit) (fun _ => undef) (fun _ => iE H i (row (.slice A n c) e s n (hY xs kk vs))) (fun _ => True) (n9 hok) (fun e he => by cases he)
    (fun a w ha hw => by
      have ho : w.ownsRow 0 e s (.slice A n c) n xs := hw.holds _ hn.mem
      obtain ⟨gg,cur,rfl,hh,hnc,hcs,htk⟩ := sr ho (by omega)
      have hxs : xs.length = n * s := ho.1
      have hcur : n * s ≤ cur.size := by rw [hcs]; exact Nat.mul_le_mul_right s hnc
      have hst := run_storeCells_at cx.P gg kk e vs 0 cur w hh (by omega) (cj h1)
      simp only [Nat.add_zero] at hst
      have hset : cur.toList.take kk ++ vs ++ cur.toList.drop (kk + vs.length) = hY cur.toList kk vs := (lj vs cur.toList kk (by simp; omega)).symm
      rw [hset] at hst
      refine ⟨(),w.setRow gg (hY cur.toList kk vs).toArray,.inr ⟨?_,rfl⟩, ?_,trivial⟩
      · simp [execOp,ha.eval hx,ha.eval hy,ko,Instr.storeAt,Instr.sureAddr,storeVar,dq hz,hv,hl,jU,hst]
      · have hfpc : ∀ k,(row (.slice (some ⟨gg,0,none⟩) n c) e s n xs).fp k ↔ k = gg := fun k => by
          show (Value.slice (some ⟨gg,0,none⟩) n c).ownBlock = some k ↔ k = gg
          simp [Value.ownBlock,eq_comm]
        refine hw.change hn _ ?_ rfl rfl rfl (by simp) (fun k _ hk => fP _ (fun e => hk ((hfpc k).2 e))) (fun k hk => .inl hk)
        have hlen : (hY cur.toList kk vs).length = cur.size := by
          rw [lj vs cur.toList kk (by simp; omega)]; simp; omega
        refine ⟨by rw [lj vs xs kk (by omega)]; simp; omega,.inr ⟨gg,c,_,rfl,Nat.zero_le _,gE _ hh,hnc, ?_,by simp [hlen,hcs], ?_⟩⟩
        · rcases ho.2 with ⟨h3,_⟩ | ⟨_,cap,_,hv2,_,_,_,hcm,_⟩
          · cases h3
          · injection hv2 with _ _ h7; subst h7; exact hcm
        · rw [← htk]; exact xj vs cur.toList kk (n * s)) (fun _ _ => k)
variable {m:Bool}
theorem aT {t:TypeId} {parts:List (Nat × Operand)} {ps:List (Nat × Value)} {cs:List Value} (hb:cx.P.built t ps=some cs.toArray) (hok:okS cx.n ops fs d g=true) (hp:evp fs parts=some ps)
  (k:TriX m cx ops ((d,.agg cs.toArray)::fs) H rest Q):TriX m cx ops fs H (⟨some d,.build t parts.toArray,ty,pos,af,g⟩::rest) Q :=
 bd _ hok (fun a w ha _=>by
  have h1:(parts.toArray.map fun (i,x)=>(i,a.eval x)).toList=ps:=by
   rw [← ha.evp hp]; simp
  simp only [execOp,Sem.run_bind]
  rw [run_build w t _ cs.toArray (by rw [h1]; exact hb)]
  rfl) k
inductive SK where
 | int (k:IntKind)
 | bool
 | str
def skOf (P:Program) (t:TypeId):Option SK:=match P.underlying t with
 | some (.int k)=>some (.int k)
 | some .bool=>some .bool
 | some .string=>some .str
 | _=>none
def kD (P:Program):Nat→List Field→Option (List SK)
 | _,[]=>some []
 | i, f :: fs => if f.name = "_" ∨ f.offset ≠ i then none else match skOf P f.type, kD P (i + 1) fs with
  | some k,some r=>some (k::r)
  | _,_=>none
def jb (P:Program) (t:TypeId):Option (List SK):=if P.stoodInHeld t || P.eqGuardType P.depth t then none else match P.underlying t with
 | some (.struct fs)=>kD P 0 fs.toList
 | _=>none
def pW:Value→Value→Bool
 | .int _ a,.int _ b=>a == b
 | .bool a,.bool b=>a == b
 | .string a,.string b=>a.toList == b.toList
 | _,_=>false
def gP:List Value→List Value→Bool
 | [],[]=>true
 | a::l,b::m=>pW a b && gP l m
 | _,_=>false
def SK.fits:SK→Value→Bool
 | .int k,.int k' _=>decide (k=k')
 | .bool,.bool _=>true
 | .str,.string _=>true
 | _,_=>false
def fX:List SK→List Value→Bool
 | [],[]=>true
 | k::ks,v::vs=>k.fits v && fX ks vs
 | _,_=>false
theorem pX {P:Program} (w:World) (d:Nat):∀ (fs:List Field) (i:Nat) (ks:List SK) (vs us:List Value) (xs ys:Array Value),kD P i fs=some ks→xs.toList.drop i=vs→ys.toList.drop i=us→fX ks vs=true→fX ks us=true →
  (Op.eqFields (d+1) xs ys fs).run P w=.ok (gP vs us) w
 | [],i,ks,vs,us,xs,ys,hf,hx,hy,h1,h2=>by
  simp only [kD,Option.some.injEq] at hf
  subst hf
  cases vs<;>simp [fX] at h1
  cases us<;>simp [fX] at h2
  simp [Op.eqFields,gP]
 | f::fs,i,ks,vs,us,xs,ys,hf,hx,hy,h1,h2=>by
  unfold kD at hf
  split at hf
  · cases hf
  · rename_i hn
    split at hf
    · rename_i k r hk hr
      simp only [Option.some.injEq] at hf
      subst hf
      cases vs with
      | nil=>simp [fX] at h1
      | cons v vs =>
      cases us with
      | nil=>simp [fX] at h2
      | cons u us =>
      simp only [fX,Bool.and_eq_true] at h1 h2
      have hname : f.name ≠ "_" := fun h => hn (.inl h)
      have hoff:f.offset=i:=Decidable.byContradiction fun h=>hn (.inr h)
      have gx:xs[i]? = some v:=by
       have:(xs.toList.drop i)[0]? = some v:=by rw [hx]; rfl
       rw [List.getElem?_drop] at this
       simpa using this
      have gy:ys[i]? = some u:=by
       have:(ys.toList.drop i)[0]? = some u:=by rw [hy]; rfl
       rw [List.getElem?_drop] at this
       simpa using this
      have tx:xs.toList.drop (i+1)=vs:=by rw [← List.tail_drop,hx]; rfl
      have ty:ys.toList.drop (i+1)=us:=by rw [← List.tail_drop,hy]; rfl
      have ih:=pX w d fs (i+1) r vs us xs ys hr tx ty h1.2 h2.2
      have pl:∀ (zs:Array Value) (z:Value),zs[i]? = some z→(part f.type zs f.offset).run P w=.ok z w:=fun zs z hz=>by
       rw [hoff]
       unfold skOf at hk
       cases hu:P.underlying f.type with
       | none=>simp [hu] at hk
       | some de=>cases de<;>simp [hu] at hk<;>simp [part,isAgg,run_underlying hu,hz]
      have heq:(Op.equalIn (d+1) f.type v u).run P w=.ok (pW v u) w:=by
       unfold skOf at hk
       split at hk
       · rename_i k0 hu
         cases hk
         cases v<;>simp [SK.fits] at h1
         cases u<;>simp [SK.fits] at h2
         obtain ⟨rfl,_⟩:=h1
         obtain ⟨rfl,_⟩:=h2
         rw [run_equalIn_int w d f.type _ _ _ _ hu]
         rfl
       · rename_i hu
         cases hk
         cases v<;>simp [SK.fits] at h1
         cases u<;>simp [SK.fits] at h2
         rw [run_equalIn_bool' w d f.type _ _ hu]
         rfl
       · rename_i hu
         cases hk
         cases v<;>simp [SK.fits] at h1
         cases u<;>simp [SK.fits] at h2
         rw [run_equalIn_string w d f.type _ _ hu]
         rfl
       · cases hk
      simp only [Op.eqFields,if_pos hname,Sem.run_bind,pl xs v gx,pl ys u gy,heq,Result.andThen_ok,gP]
      cases pW v u with
      | true=>simpa using ih
      | false=>simp
    · cases hf
theorem su {P:Program} {t:TypeId} {ks:List SK} {vs us:List Value} (w:World) (hf:jb P t=some ks) (h1:fX ks vs=true) (h2:fX ks us=true):(Op.equalIn 10000 t (.agg vs.toArray) (.agg us.toArray)).run P w=.ok (gP vs us) w:=by
 unfold jb at hf
 split at hf
 · cases hf
 · rename_i hg
   simp only [Bool.or_eq_true,not_or,Bool.not_eq_true] at hg
   split at hf
   · rename_i fields hu
     have e:P.fieldsOf t=fields:=by simp [Program.fieldsOf,hu]
     rw [show (10000:Nat)=9999+1 from rfl,run_equalIn_struct w 9999 t _ _ (by rw [e]; exact hu) hg.1,e]
     exact pX w 9998 fields.toList 0 ks vs us _ _ hf (by simp) (by simp) h1 h2
   · cases hf
theorem oh {P:Program} {t:TypeId} {ks:List SK} (hf:jb P t=some ks):P.eqGuardType P.depth t=false:=by
 unfold jb at hf
 split at hf
 · cases hf
 · rename_i hg
   simp only [Bool.or_eq_true,not_or,Bool.not_eq_true] at hg
   exact hg.2
theorem sv {P:Program} {a:Act} {w:World} {op:BinOp} {t yt:TypeId} {x y:Operand} {u v r:Value} {dd:Option Tmp} (e1:a.eval x=u) (e2:a.eval y=v) (hg:(eqGuard op t x y u v).run P w=.ok () w)
  (hr:(binOp op t u v).run P w=.ok r w):(execOp a.eval ⟨dd,.binOp op t x y yt,ty,pos,af,g⟩).run P w=.ok (.value r) w:=by
 simp only [execOp,e1,e2,Sem.run_bind,hg,Result.andThen_ok]
 simp [hr]
section
variable {x y:Operand} {t yt:TypeId} {ks:List SK} {vs us:List Value} (hf:jb cx.P t=some ks) (hok:okS cx.n ops fs d g=true) (hx:ev fs x=some (.agg vs.toArray)) (hy:ev fs y=some (.agg us.toArray)) (h1:fX ks vs=true) (h2:fX ks us=true)
include hf hok hx hy h1 h2
theorem o_eqlA (k:TriX m cx ops ((d,.bool (gP vs us))::fs) H rest Q):TriX m cx ops fs H (⟨some d,.binOp .eql t x y yt,ty,pos,af,g⟩::rest) Q :=
 bd _ hok (fun a w ha _=>sv (ha.eval hx) (ha.eval hy) (run_eqGuard_agg w _ t _ _ _ _ (oh hf)) (by
  rw [run_eql_struct,su w hf h1 h2]; rfl)) k
theorem uh (k:TriX m cx ops ((d,.bool (!(gP vs us)))::fs) H rest Q):TriX m cx ops fs H (⟨some d,.binOp .neq t x y yt,ty,pos,af,g⟩::rest) Q :=
 bd _ hok (fun a w ha _=>sv (ha.eval hx) (ha.eval hy) (run_eqGuard_agg w _ t _ _ _ _ (oh hf)) (by
  rw [run_neq_struct,su w hf h1 h2]; rfl)) k
end
end ops
section ops
variable {m:Bool} {cx:Cx} {fs:aW} {H:List Chunk} {Q:co} {ops:Array Oper} {rest:List Oper} {g:Option (Nat × Bool)} {d:Nat} {ty:TypeId} {pos:String} {af:Array Edge}
variable {x y:Operand} {t yt u:TypeId}
theorem jY (a b:UInt8) (hok:okS cx.n ops fs d g=true) (hx:ev fs x=some (kq a)) (hy:ev fs y=some (kq b)) (k:TriX m cx ops ((d,.bool (decide (a=b)))::fs) H rest Q):TriX m cx ops fs H (⟨some d,.binOp .eql t x y yt,ty,pos,af,g⟩::rest) Q :=
 aD hok hx hy (by
  have:decide ((a.toNat:Int)=(b.toNat:Int))=decide (a=b):=by
   apply decide_eq_decide.2
   constructor
   · intro h; exact UInt8.toNat_inj.1 (by omega)
   · intro h; rw [h]
  rw [this]; exact k)
theorem o_neqU8 (a b:UInt8) (hok:okS cx.n ops fs d g=true) (hx:ev fs x=some (kq a)) (hy:ev fs y=some (kq b)) (k:TriX m cx ops ((d,.bool (decide (a≠b)))::fs) H rest Q):TriX m cx ops fs H (⟨some d,.binOp .neq t x y yt,ty,pos,af,g⟩::rest) Q :=
 cX hok hx hy (by
  have:decide ((a.toNat:Int)≠(b.toNat:Int))=decide (a≠b):=by
   apply decide_eq_decide.2
   constructor
   · intro h e; exact h (by rw [e])
   · intro h e; exact h (UInt8.toNat_inj.1 (by omega))
  rw [this]; exact k)
end ops
def ui (Q:co):co:=fun e fs H=>match e with
 | .goto _=>False
 | e=>Q e fs H
section
variable {cx:Cx} {fs:aW} {H:List Chunk} {Q:co}
theorem xk {c:Code} (h:Tri cx fs H c (ui Q)):Tri cx fs H (.scope c) Q:=fun a w ha hw =>
 wp_scope_straight (Go.wp_mono (h a w ha hw) fun e a' w' ⟨fs',H',h1,h2,h3⟩=>by
  cases e<;>first | exact h3.elim | exact ⟨fs',H',h1,h2,h3⟩)
theorem lR (h:Q .ret fs H):ui Q .ret fs H:=h
end
section
variable {cx:Cx} {fs:aW} {H:List Chunk} {fn:Func} {R:Ending→World→Prop}
theorem mO {w:World} {b bt:Nat} {cs:List Value} {o z:Nat} {vs:List Value} (hb:w.heap[b]? = some (.cells cs.toArray bt (0,0))) (hv:(cs.drop o).take z=vs):∀ j v,vs[j]? = some v→w.cell? ((⟨b,o,none⟩:Addr).add j)=some v:=fun j v hj=>by
 rw [jU,cell_of_row w b _ cs.toArray bt (0,0) hb]
 rw [← hv,List.getElem?_take] at hj
 split at hj
 · simpa using hj
 · cases hj
theorem pN {P:Program} {w:World} {t:TypeId} {x:Tmp} {a:Addr} {vs:List Value} {tmps:Array Value} (hr:fn.results = #[.cell x t]) (hx:tmps.getD x undef=.pointer (some a)) (ht:cF P t=some true) (hz:szB P t=some vs.length) (hc:∀ j v,vs[j]? = some v→w.cell? (a.add j)=some v) :
  (results fn tmps).run P w=.ok (.agg vs.toArray) w:=by
 have hx':tmps[x]?.getD undef=.pointer (some a):=by simpa using hx
 simp [results,hr,hx',asAddr,loadVar,ez ht,dq hz,run_loadCells_list w a vs hc]
theorem cS {t:TypeId} {x:Tmp} {b bt i z:Nat} {cs:List Value} (hr:fn.results = #[.cell x t]) (ht:cF cx.P t=some true) (hz:szB cx.P t=some z) (hn:Nth H i (box b bt cs)) (hx:look fs x=some (.pointer (some ⟨b,0,none⟩))) (hl:cs.length=z)
  (h:∀ w,Sat cx H w→R (.returned (.agg cs.toArray)) w):endQ cx fn R .ret fs H :=
 ⟨_,fun a w ha hw=>by
  rw [pN (vs:=cs) hr (ha.get hx) ht (by rw [hz,hl]) (mO (hw.holds _ hn.mem) (z:=cs.length) (by simp))],h⟩
end
end Go.WK
namespace Go.WK
open Go.RowKit
structure Tok where
 k:Int
 t:List UInt8
 a:Int
instance:DecidableEq Tok:=fun a b=>decidable_of_iff (a.k=b.k∧a.t=b.t∧a.a=b.a) ⟨fun h=>by cases a; cases b; simp_all,fun h=>by rw [h]; simp⟩
def om (z:Int):Bool:=((decide (97≤z) && decide (z≤122)) || (decide (65≤z) && decide (z≤90))) || decide (z=95)
def mP (z:Int):Bool:=decide (48≤z) && decide (z≤57)
def dx (c:UInt8):Bool:=om c.toNat
def be (c:UInt8):Bool:=mP c.toNat
def gR (c:UInt8):Bool:=dx c || be c
def lF (c:UInt8):Bool:=((decide (c=32) || decide (c=9)) || decide (c=10)) || decide (c=13)
def eM:Bool→List UInt8→Nat
 | _,[]=>0
 | true,c::l=>if c=10 then 1+eM false l else 1+eM true l
 | false,c::l=>if lF c=true then 1+eM false l else if c=45∧l.head? = some 45 then 1+eM true l else 0
abbrev gap (l:List UInt8):Nat:=eM false l
def bO (p:UInt8→Bool):List UInt8→Nat
 | []=>0
 | c::l=>if p c=true then bO p l+1 else 0
def low (c:UInt8):UInt8:=if 65≤c.toNat∧c.toNat≤90 then c+32 else c
def kE (l:List UInt8):List UInt8:=l.map low
def pY:List UInt8:=[57,50,50,51,51,55,50,48,51,54,56,53,52,55,55,53,56,48,55]
def most (d:List UInt8):Bool:=decide (d.length < 19) || (decide (d.length=19) && (Op.bytesLess d pY || decide (d=pY)))
def quo:List UInt8→Option (List UInt8 × Nat)
 | []=>none
 | [c]=>if c=39 then some ([],1) else none
 | c::d::l=>if c=39 then (if d=39 then (quo l).map (fun r=>(39::r.1,r.2+2)) else some ([],1)) else (quo (d::l)).map fun r=>(c::r.1,r.2+1)
def sgn (c d:Int):Nat :=
 if c=60 then (if d=62∨d=61 then 2 else 1) else if c=62 then (if d=61 then 2 else 1)
 else if c=40∨c=41∨c=44∨c=46∨c=59∨c=61∨c=43∨c=45∨c=42∨c=47∨c=37 then 1
 else if c=124∧d=124 then 2 else 0
def fx (s:List UInt8):Nat:=sgn (s.getD 0 0).toNat (s.getD 1 0).toNat
structure One where
 k:Int
 t:List UInt8
 n:Nat
 e:Int
def fY (s:List UInt8) (n:Nat):Prop:=(1 < n∧s.getD 0 0=48)∨most (s.take n)=false∨(n < s.length∧dx (s.getD n 0)=true)
instance (s:List UInt8) (n:Nat):Decidable (fY s n):=by unfold fY; exact inferInstance
def cf (s:List UInt8):One :=
 if dx (s.getD 0 0)=true then ⟨1,kE (s.take (bO gR s)),bO gR s,0⟩
 else if be (s.getD 0 0)=true then (if fY s (bO be s) then ⟨0,[],0,180⟩ else ⟨2,s.take (bO be s),bO be s,0⟩)
 else if s.getD 0 0=39 then (match quo (s.drop 1) with | none=>⟨0,[],0,180⟩ | some r=>if 64 < r.1.length then ⟨0,[],0,3⟩ else ⟨3,r.1,r.2+1,0⟩)
 else if fx s=0 then ⟨0,[],0,180⟩ else ⟨4,s.take (fx s),fx s,0⟩
abbrev Res:=Except (Int × Int) (List Tok)
def ml:Nat→Nat→List UInt8→Res
 | 0,_,_=>.error (0,0)
 | _+1,at_,[]=>.ok [⟨5,[],at_⟩]
 | f+1,at_,c::l=>if (cf (c::l)).e≠0 then .error ((cf (c::l)).e,at_) else
   (ml f (at_+(cf (c::l)).n+gap ((c::l).drop (cf (c::l)).n)) (((c::l).drop (cf (c::l)).n).drop (gap ((c::l).drop (cf (c::l)).n)))).map (⟨(cf (c::l)).k,(cf (c::l)).t,at_⟩::·)
def mQ (f o:Nat) (q:List UInt8):Res:=ml f (o+gap q) (q.drop (gap q))
def gz (s:List UInt8):Res:=if 4096 < s.length then .error (3,0) else mQ (s.length+1) 0 s
theorem mm {c:UInt8}:dx c=true↔(97≤c.toNat∧c.toNat≤122)∨(65≤c.toNat∧c.toNat≤90)∨c.toNat=95:=by
 simp only [dx,om,Bool.or_eq_true,Bool.and_eq_true,decide_eq_true_eq]; omega
theorem nT {c:UInt8}:be c=true↔48≤c.toNat∧c.toNat≤57:=by
 simp only [be,mP,Bool.and_eq_true,decide_eq_true_eq]; omega
theorem rg {c:UInt8}:gR c=true↔dx c=true∨be c=true:=by simp [gR]
theorem mn {c:UInt8} {n:Nat} (h:n < 256):c=UInt8.ofNat n↔c.toNat=n:=by
 rw [← UInt8.toNat_inj]; simp; omega
theorem bl_iff {c:UInt8}:lF c=true↔c=32∨c=9∨c=10∨c=13:=by simp [lF,or_assoc]
theorem bl_nat {c:UInt8}:lF c=true↔c.toNat=32∨c.toNat=9∨c.toNat=10∨c.toNat=13:=by
 rw [bl_iff]
 have h1:c=32↔c.toNat=32:=mn (by decide)
 have h2:c=9↔c.toNat=9:=mn (by decide)
 have h3:c=10↔c.toNat=10:=mn (by decide)
 have h4:c=13↔c.toNat=13:=mn (by decide)
 rw [h1,h2,h3,h4]
theorem gapM_le (b:Bool) (l:List UInt8):eM b l≤l.length:=by
 induction l generalizing b with
 | nil=>cases b<;>simp [eM]
 | cons c l ih =>
  have h1:=ih true; have h2:=ih false
  cases b<;>simp only [eM,List.length_cons]<;>(repeat' split)<;>omega
theorem ia (P:UInt8→Bool) (l:List UInt8):bO P l≤l.length:=by
 induction l with
 | nil=>simp [bO]
 | cons c l ih=>simp only [bO,List.length_cons]; split<;>omega
theorem rh (P:UInt8→Bool) (l:List UInt8) (i:Nat) (h:i < bO P l):P (l.getD i 0)=true:=by
 induction l generalizing i with
 | nil=>simp [bO] at h
 | cons c l ih =>
  simp only [bO] at h
  split at h
  · rename_i h1
    cases i with
    | zero=>simpa using h1
    | succ i=>have:=ih i (by omega); simpa using this
  · omega
theorem run_is (P:UInt8→Bool) (l:List UInt8) (n:Nat) (hn:n≤l.length) (h:∀ i,i < n→P (l.getD i 0)=true) (he:n < l.length→P (l.getD n 0)=false):bO P l=n:=by
 induction l generalizing n with
 | nil=>simp at hn; simp [bO,hn]
 | cons c l ih =>
  cases n with
  | zero =>
   have:=he (by simp)
   simp at this
   simp [bO,this]
  | succ n =>
   have h0:=h 0 (by omega)
   simp at h0
   have:=ih n (by simpa using hn) (fun i hi=>by have:=h (i+1) (by omega); simpa using this) (fun hl=>by have:=he (by simpa using hl); simpa using this)
   simp [bO,h0,this]
theorem getD_app (p r:List UInt8) (i:Nat) (h:i < p.length):(p++r).getD i 0=p.getD i 0:=by
 simp [List.getD,List.getElem?_append_left h]
theorem pZ (p r:List UInt8):(p++r).getD p.length 0=r.head?.getD 0:=by
 rw [List.getD_eq_getElem?_getD,List.getElem?_append_right (Nat.le_refl _),Nat.sub_self]
 cases r<;>simp
theorem quo_n {l t:List UInt8} {n:Nat} (h:quo l=some (t,n)):1≤n∧n≤l.length∧l.getD (n - 1) 0=39:=by
 induction l using quo.induct generalizing t n with
 | case1=>cases h
 | case2=>rw [quo,if_pos rfl] at h; cases h; simp
 | case3 c hc=>rw [quo,if_neg hc] at h; cases h
 | case4 l ih =>
  rw [quo,if_pos rfl,if_pos rfl,Option.map_eq_some_iff] at h
  obtain ⟨r,hr,e⟩:=h
  cases e
  obtain ⟨h1,h2,h3⟩:=ih (t:=r.1) (n:=r.2) hr
  refine ⟨by omega,by simp; omega, ?_⟩
  rw [show r.2+2 - 1=(r.2 - 1)+1+1 by omega]
  simpa using h3
 | case5 d l hd=>rw [quo,if_pos rfl,if_neg hd] at h; cases h; simp
 | case6 c d l hc ih =>
  rw [quo,if_neg hc,Option.map_eq_some_iff] at h
  obtain ⟨r,hr,e⟩:=h
  cases e
  obtain ⟨h1,h2,h3⟩:=ih (t:=r.1) (n:=r.2) hr
  refine ⟨by omega,by simp at h2 ⊢; omega, ?_⟩
  rw [show r.2+1 - 1=(r.2 - 1)+1 by omega]
  simpa using h3
theorem mR {s:List UInt8} (h:dx (s.getD 0 0)=true):cf s=⟨1,kE (s.take (bO gR s)),bO gR s,0⟩:=by rw [cf,if_pos h]
theorem oo {s:List UInt8} (h1:dx (s.getD 0 0)=false) (h:be (s.getD 0 0)=true):cf s=if fY s (bO be s) then ⟨0,[],0,180⟩ else ⟨2,s.take (bO be s),bO be s,0⟩:=by
 rw [cf,if_neg (by rw [h1]; simp),if_pos h]
theorem mS {s:List UInt8} (h:s.getD 0 0=39):cf s=(match quo (s.drop 1) with | none=>⟨0,[],0,180⟩ | some r=>if 64 < r.1.length then ⟨0,[],0,3⟩ else ⟨3,r.1,r.2+1,0⟩):=by
 rw [cf,if_neg (by rw [h]; decide),if_neg (by rw [h]; decide),if_pos h]
theorem lk {s:List UInt8} (h1:dx (s.getD 0 0)=false) (h2:be (s.getD 0 0)=false) (h3:s.getD 0 0≠39):cf s=if fx s=0 then ⟨0,[],0,180⟩ else ⟨4,s.take (fx s),fx s,0⟩:=by
 rw [cf,if_neg (by rw [h1]; simp),if_neg (by rw [h2]; simp),if_neg h3]
theorem vG (c d:Int):sgn c d≤2:=by
 unfold sgn
 repeat' split
 all_goals omega
theorem oq {c d:Int} (h:sgn c d=2):d=62∨d=61∨d=124:=by
 unfold sgn at h
 repeat' split at h
 all_goals omega
theorem xl {c d:Int} (h:sgn c d≠0):c≠10∧c≠0:=by
 unfold sgn at h
 repeat' split at h
 all_goals omega
theorem tok1_n {c:UInt8} {l:List UInt8} (h:(cf (c::l)).e=0):1≤(cf (c::l)).n∧(cf (c::l)).n≤(c::l).length∧(c::l).getD ((cf (c::l)).n - 1) 0≠10:=by
 by_cases h1:dx ((c::l).getD 0 0)=true
 · rw [mR h1]
   have hw:gR c=true:=rg.2 (.inl (by simpa using h1))
   have hn:1≤bO gR (c::l):=by simp [bO,hw]
   refine ⟨hn,ia _ _, ?_⟩
   have:=rh gR (c::l) (bO gR (c::l) - 1) (by omega)
   intro e
   rw [e] at this
   exact absurd this (by decide)
 · have h1:dx ((c::l).getD 0 0)=false:=by simpa using h1
   by_cases h2:be ((c::l).getD 0 0)=true
   · rw [oo h1 h2] at h ⊢
     split at h
     · cases h
     · rename_i h3
       rw [if_neg h3]
       have hd:be c=true:=by simpa using h2
       have hn:1≤bO be (c::l):=by simp [bO,hd]
       refine ⟨hn,ia _ _, ?_⟩
       have:=rh be (c::l) (bO be (c::l) - 1) (by omega)
       intro e
       rw [e] at this
       exact absurd this (by decide)
   · have h2:be ((c::l).getD 0 0)=false:=by simpa using h2
     by_cases h3:(c::l).getD 0 0=39
     · rw [mS h3] at h ⊢
       cases hq:quo ((c::l).drop 1) with
       | none=>rw [hq] at h; cases h
       | some r =>
        rw [hq] at h
        simp only at h ⊢
        split at h
        · cases h
        · rename_i h4
          rw [if_neg h4]
          obtain ⟨q1,q2,q3⟩:=quo_n (t:=r.1) (n:=r.2) hq
          simp only [List.drop_succ_cons,List.drop_zero] at q2 q3
          refine ⟨by simp,by simp; omega, ?_⟩
          show (c::l).getD (r.2+1 - 1) 0≠10
          rw [show r.2+1 - 1=(r.2 - 1)+1 by omega]
          have:(c::l).getD ((r.2 - 1)+1) 0=39:=by simpa using q3
          rw [this]; decide
     · rw [lk h1 h2 h3] at h ⊢
       split at h
       · cases h
       · rename_i h4
         rw [if_neg h4]
         have hs2:fx (c::l)≤2:=vG _ _
         rcases (by omega:fx (c::l)=1∨fx (c::l)=2) with e | e
         · rw [e]
           refine ⟨by simp,by simp, ?_⟩
           have:=(xl (c:=((c::l).getD 0 0).toNat) (d:=((c::l).getD 1 0).toNat) h4).1
           intro e2
           apply this
           show (((c::l).getD (1 - 1) 0).toNat:Int)=10
           rw [e2]; rfl
         · rw [e]
           have h5:=oq (c:=((c::l).getD 0 0).toNat) (d:=((c::l).getD 1 0).toNat) e
           have hl:1 < (c::l).length:=by
            rcases Nat.lt_or_ge 1 (c::l).length with h6 | h6
            · exact h6
            · rw [show (c::l).getD 1 0=0 by rw [List.getD_eq_getElem?_getD,List.getElem?_eq_none h6]; rfl] at h5
              simp at h5
           refine ⟨by simp,hl, ?_⟩
           intro e2
           rw [show 2 - 1=1 by rfl] at e2
           rw [e2] at h5
           simp at h5
end Go.WK
namespace Go.WK
open Go.RowKit
theorem ot {c:UInt8} {l:List UInt8} (h:(cf (c::l)).e=0):1≤(cf (c::l)).n∧(cf (c::l)).n≤l.length+1:=by
 obtain ⟨h1,h2,_⟩:=tok1_n h
 exact ⟨h1,by simpa using h2⟩
theorem xm (f:Nat):∀ (f' at_:Nat) (r:List UInt8),r.length < f→r.length < f'→ml f at_ r=ml f' at_ r:=by
 induction f with
 | zero=>intro f' at_ r h; omega
 | succ f ih =>
  intro f' at_ r h h'
  obtain ⟨f',rfl⟩:∃ k,f'=k+1:=⟨f' - 1,by omega⟩
  cases r with
  | nil=>rfl
  | cons c l =>
   unfold ml
   split
   · rfl
   · rename_i he
     have he:(cf (c::l)).e=0:=Decidable.not_not.1 he
     have hn:=ot he
     simp only [List.length_cons] at h h'
     rw [ih f' _ _ (by simp only [List.length_drop,List.length_cons]; omega) (by simp only [List.length_drop,List.length_cons]; omega)]
theorem xn {f f' o:Nat} {q:List UInt8} (h:q.length < f) (h':q.length < f'):mQ f o q=mQ f' o q :=
 xm f f' _ _ (by simp only [List.length_drop]; omega) (by simp only [List.length_drop]; omega)
theorem sw {f o:Nat} {q:List UInt8} (hq:q.drop (gap q)=[]):mQ (f+1) o q=.ok [⟨5,[],((o+gap q:Nat):Int)⟩]:=by
 unfold mQ; rw [hq]; rfl
theorem mT {f o:Nat} {q l:List UInt8} {c:UInt8} (hq:q.drop (gap q)=c::l):mQ (f+1) o q=if (cf (c::l)).e≠0 then .error ((cf (c::l)).e,((o+gap q:Nat):Int)) else
  (mQ f (o+gap q+(cf (c::l)).n) ((c::l).drop (cf (c::l)).n)).map (⟨(cf (c::l)).k,(cf (c::l)).t,((o+gap q:Nat):Int)⟩::·):=by
 unfold mQ; rw [hq]; rfl
end Go.WK
namespace Go.WK
open Go.RowKit
def Tok.zero:Tok:=⟨0,[],0⟩
def Tok.cs (v:Tok):List Value:=[.int .i64 v.k,.string (B v.t),.int .i64 v.a]
abbrev aggT (v:Tok):Value:=.agg v.cs.toArray
def toksV:List Tok→List Value
 | []=>[]
 | v::l=>v.cs++toksV l
theorem bY (l:List Tok):(toksV l).length=l.length * 3:=by
 induction l with
 | nil=>rfl
 | cons v l ih=>simp [toksV,Tok.cs,ih]; omega
theorem mo (l m:List Tok):toksV (l++m)=toksV l++toksV m:=by
 induction l with
 | nil=>rfl
 | cons v l ih=>simp [toksV,ih]
theorem jZ (l:List Tok) (i:Nat):(toksV l).drop (i * 3)=toksV (l.drop i):=by
 induction l generalizing i with
 | nil=>simp [toksV]
 | cons v l ih =>
  cases i with
  | zero=>simp
  | succ i=>rw [show (i+1) * 3=3+i * 3 by omega, ← List.drop_drop]; simp [toksV,Tok.cs,ih]
theorem sx (l:List Tok) (i:Nat) (h:i < l.length):((toksV l).drop (i * 3)).take 3=(l.getD i Tok.zero).cs:=by
 rw [jZ,List.drop_eq_getElem_cons h]
 simp [toksV,Tok.cs,List.getD,h]
theorem jC (l:List Tok):∀ u ∈ toksV l,u.oneCell'=true:=by
 induction l with
 | nil=>simp [toksV]
 | cons v l ih =>
  intro u hu
  rcases List.mem_append.1 hu with h | h
  · simp [Tok.cs] at h
    rcases h with rfl | rfl | rfl<;>rfl
  · exact ih u h
theorem p6 (l:List Tok) (k:Nat) (h:k < l.length):l.getD k Tok.zero ∈ l:=by
 simp [List.getD,h]
section ops
variable {m:Bool} {cx:Cx} {fs:aW} {H:List Chunk} {Q:co} {ops:Array Oper} {rest:List Oper} {g:Option (Nat × Bool)} {d:Nat} {ty:TypeId} {pos:String} {af:Array Edge}
theorem iK {x:Operand} {t kk:Nat} {A:Option Addr} {l:List Tok} (i:Nat) (ht:cF cx.P t=some true) (hz:szB cx.P t=some 3) (hok:okS cx.n ops fs d g=true) (hx:ev fs x=some (ko A kk)) (hr:RdS cx H A (toksV l)) (hk:kk=i * 3) (hi:i < l.length)
  (k:TriX m cx ops ((d,aggT (l.getD i Tok.zero))::fs) H rest Q):TriX m cx ops fs H (⟨some d,.load t x,ty,pos,af,g⟩::rest) Q :=
 bF ht hz hok hx hr (by rw [hk]; exact sx l i hi) rfl (by decide) k
theorem lm {x:Operand} {t bt b i:Nat} {v:Tok} (ht:cF cx.P t=some true) (hz:szB cx.P t=some 3) (hn:Nth H i (box b bt v.cs)) (hok:okS cx.n ops fs d g=true) (hx:ev fs x=some (.pointer (some ⟨b,0,none⟩)))
  (k:TriX m cx ops ((d,aggT v)::fs) H rest Q):TriX m cx ops fs H (⟨some d,.load t x,ty,pos,af,g⟩::rest) Q:=aS ht hz hn hok hx (vs:=v.cs) rfl rfl k
theorem ea {x y:Operand} {t bt b i:Nat} {u v:Tok} (hz:szB cx.P t=some 3) (hn:Nth H i (box b bt u.cs)) (hok:okW ops fs g=true) (hx:ev fs x=some (.pointer (some ⟨b,0,none⟩))) (hy:ev fs y=some (aggT v))
  (k:TriX false cx ops fs (iE H i (box b bt v.cs)) rest Q):TriX false cx ops fs H (⟨none,.store t x y,ty,pos,af,g⟩::rest) Q:=aC hz hn hok hx hy (vs:=v.cs) rfl rfl (by simp [Tok.cs]) rfl k
end ops
theorem cg {s:List UInt8} {i:Nat} (h:i < s.length):s.drop i=s.getD i 0::s.drop (i+1):=by
 rw [List.drop_eq_getElem_cons h]; simp [List.getD,h]
theorem ou (P:UInt8→Bool) (s:List UInt8) (i:Nat) (h:i < s.length):bO P (s.drop i)=if P (s.getD i 0)=true then bO P (s.drop (i+1))+1 else 0:=by
 rw [cg h]; rfl
theorem run_last (P:UInt8→Bool) (s:List UInt8) (i:Nat) (h:¬ (i < s.length∧P (s.getD i 0)=true)):bO P (s.drop i)=0:=by
 rcases Nat.lt_or_ge i s.length with h1 | h1
 · rw [ou P s i h1,if_neg (fun e=>h ⟨h1,e⟩)]
 · rw [List.drop_eq_nil_of_le h1]; rfl
theorem gap_bl {s:List UInt8} {i:Nat} (h:i < s.length) (hb:lF (s.getD i 0)=true):eM false (s.drop i)=1+eM false (s.drop (i+1)):=by
 rw [cg h,eM,if_pos hb]
theorem p7 (s:List UInt8) (i:Nat):(s.drop i).head? = some 45↔i < s.length∧s.getD i 0=45:=by
 rcases Nat.lt_or_ge i s.length with h | h
 · rw [cg h]; simp [h]
 · rw [List.drop_eq_nil_of_le h]; simp; omega
theorem gap_no {s:List UInt8} {i:Nat} (h:i < s.length) (hb:lF (s.getD i 0)=false) (h2:¬ (s.getD i 0=45∧i+1 < s.length∧s.getD (i+1) 0=45)):eM false (s.drop i)=0:=by
 rw [cg h,eM,if_neg (by rw [hb]; simp),if_neg]
 intro e
 exact h2 ⟨e.1,(p7 s (i+1)).1 e.2⟩
theorem vH {s:List UInt8} {i:Nat} (h:i < s.length) (h2:s.getD i 0=45∧i+1 < s.length∧s.getD (i+1) 0=45):eM false (s.drop i)=eM true (s.drop i):=by
 rw [cg h,h2.1]
 have e1:∀ l:List UInt8,eM false (45::l)=if (45:UInt8)=45∧l.head? = some 45 then 1+eM true l else 0:=fun l=>by rw [eM,if_neg (by decide)]
 have e2:∀ l:List UInt8,eM true (45::l)=1+eM true l:=fun l=>by rw [eM,if_neg (by decide)]
 rw [e1,e2,if_pos ⟨rfl,(p7 s (i+1)).2 h2.2⟩]
theorem cmt_idx (l:List UInt8):(Lib.indexByte l 10 = -1∧eM true l=l.length)∨(∃ k:Nat,Lib.indexByte l 10=(k:Int)∧k < l.length∧eM true l=k+eM false (l.drop k)):=by
 induction l with
 | nil=>left; exact ⟨rfl,rfl⟩
 | cons c l ih =>
  by_cases hc:c=10
  · right
    refine ⟨0,by simp [Lib.indexByte,hc],by simp, ?_⟩
    rw [eM,if_pos hc,List.drop_zero,eM,if_pos (by rw [hc]; decide)]; omega
  · rcases ih with ⟨h1,h2⟩ | ⟨k,h1,h2,h3⟩
    · left
      exact ⟨by simp [Lib.indexByte,hc,h1],by rw [eM,if_neg hc,h2]; simp; omega⟩
    · right
      have hk:¬ (k:Int) = -1:=by omega
      refine ⟨k+1,by simp [Lib.indexByte,hc,h1,hk],by simpa using h2, ?_⟩
      rw [eM,if_neg hc,h3,List.drop_succ_cons]; omega
theorem nw (s:List UInt8) (i:Nat):([45,45]:List UInt8).isPrefixOf (s.drop i)=(decide (i+1 < s.length) && (decide (s.getD i 0=45) && decide (s.getD (i+1) 0=45))):=by
 rcases Nat.lt_or_ge i s.length with h | h
 · rw [cg h]
   rcases Nat.lt_or_ge (i+1) s.length with h1 | h1
   · rw [cg h1,decide_eq_true h1,Bool.true_and]
     simp only [List.isPrefixOf,Bool.and_true]
     congr 1
     · by_cases e:s.getD i 0=45
       · rw [e]; simp
       · rw [decide_eq_false e]; simp; exact fun e2=>e e2.symm
     · by_cases e:s.getD (i+1) 0=45
       · rw [e]; simp
       · rw [decide_eq_false e]; simp; exact fun e2=>e e2.symm
   · rw [List.drop_eq_nil_of_le h1,decide_eq_false (by omega),Bool.false_and]
     simp [List.isPrefixOf]
 · rw [List.drop_eq_nil_of_le h,decide_eq_false (by omega),Bool.false_and]
   simp [List.isPrefixOf]
theorem idx_pos {s:List UInt8} {i:Nat} (h:i < s.length) (h2:s.getD i 0≠10):Lib.indexByte (s.drop i) 10≠0:=by
 rw [cg h]
 have h3:=Lib.indexByte_ge (s.drop (i+1)) 10
 intro e
 simp only [Lib.indexByte] at e
 rw [if_neg (by simpa using h2)] at e
 split at e
 · cases e
 · rename_i h4
   have h4:¬ Lib.indexByte (s.drop (i+1)) 10 = -1:=by simpa using h4
   omega
theorem quo_ne {c:UInt8} {l:List UInt8} (h:c≠39):quo (c::l)=(quo l).map fun r=>(c::r.1,r.2+1):=by
 cases l with
 | nil=>simp [quo,h]
 | cons d l=>simp [quo,h]
theorem vJ {l : List UInt8} (h : l.head? ≠ some 39) : quo (39 :: l) = some ([],1) := by
  cases l with
  | nil => simp [quo]
  | cons d l => have : d ≠ 39 := fun e => h (by rw [e]; rfl)
                simp [quo,this]
theorem vK (l:List UInt8):quo (39::39::l)=(quo l).map fun r=>(39::r.1,r.2+2):=by simp [quo]
def kF (s l:List UInt8) (i:Nat):Prop:=1≤i∧i≤s.length∧l.length≤i∧quo (s.drop 1)=(quo (s.drop i)).map fun r=>(l++r.1,(i - 1)+r.2)
theorem sy {s:List UInt8} (h:1≤s.length):kF s [] 1:=by
 refine ⟨by omega,h,by simp, ?_⟩
 cases quo (s.drop 1)<;>simp
theorem uj {s l:List UInt8} {i:Nat} (h:kF s l i) (hi:i < s.length) (hc:s.getD i 0≠39):kF s (l++[s.getD i 0]) (i+1):=by
 obtain ⟨h1,h2,h3,h4⟩:=h
 refine ⟨by omega,by omega,by simp; omega, ?_⟩
 rw [h4,cg hi,quo_ne hc,Option.map_map]
 congr 1
 funext r
 simp
 omega
theorem uk {s l:List UInt8} {i:Nat} (h:kF s l i) (hi:i+1 < s.length) (hc:s.getD i 0=39) (hd:s.getD (i+1) 0=39):kF s (l++[s.getD (i+1) 0]) (i+2):=by
 rw [hd]
 obtain ⟨h1,h2,h3,h4⟩:=h
 refine ⟨by omega,by omega,by simp; omega, ?_⟩
 rw [h4,cg (by omega:i < s.length),cg hi,hc,hd,vK,Option.map_map]
 congr 1
 funext r
 simp
 omega
theorem sA {s l:List UInt8} {i:Nat} (h:kF s l i) (hi:i=s.length):quo (s.drop 1)=none:=by
 rw [h.2.2.2,hi,List.drop_length]; rfl
theorem sB {s l:List UInt8} {i:Nat} (h:kF s l i) (hi:i < s.length) (hc:s.getD i 0=39) (hd:¬ (i+1 < s.length∧s.getD (i+1) 0=39)):quo (s.drop 1)=some (l,i):=by
 obtain ⟨h1,h2,h3,h4⟩:=h
 rw [h4,cg hi,hc,vJ]
 · simp; omega
 · intro e
   rcases Nat.lt_or_ge (i+1) s.length with h5 | h5
   · rw [cg h5] at e
     exact hd ⟨h5,by simpa using e⟩
   · rw [List.drop_eq_nil_of_le h5] at e; cases e
def j0 (s:List UInt8):List UInt8 × Nat × Int:=match quo (s.drop 1) with
 | none=>([],0,180)
 | some r=>if 64 < r.1.length then ([],0,3) else (r.1,r.2+1,0)
section
variable {cx:Cx} {fn:Func} {R:Ending→World→Prop} {fs:aW} {H:List Chunk}
theorem end3 {t u r:Tmp} {v v' v'':Value} (hr:fn.results = #[.tmp t,.tmp u,.tmp r]) (hv:look fs t=some v) (hv':look fs u=some v') (hv'':look fs r=some v'') (h:∀ w,Sat cx H w→R (.returned (.tuple #[v,v',v''])) w):endQ cx fn R .ret fs H :=
 ⟨_,fun a w ha _=>by
  have e:(results fn a.tmps).run cx.P w=.ok (.tuple #[a.tmps.getD t undef,a.tmps.getD u undef,a.tmps.getD r undef]) w:=by simp [results,hr]
  rw [e,ha.get hv,ha.get hv',ha.get hv''],h⟩
end
def sC (b:Bool) (v:Value):Prop:=(b=true∧v=.nilIface)∨(b=false∧∃ t u,v=.iface t u)
def okR:Res→Bool
 | .ok _=>true
 | .error _=>false
def tks:Res→List Tok
 | .ok ts=>ts
 | .error _=>[]
def errR (tF:Nat):Res→Value
 | .ok _=>.nilIface
 | .error e=>.iface tF (.agg #[.int .i64 e.1,.int .i64 e.2])
theorem errIs (tF:Nat) (r:Res):sC (okR r) (errR tF r):=by
 cases r with
 | ok ts=>exact .inl ⟨rfl,rfl⟩
 | error e=>exact .inr ⟨rfl,_,_,rfl⟩
section ops
variable {m:Bool} {cx:Cx} {fs:aW} {H:List Chunk} {Q:co} {ops:Array Oper} {rest:List Oper} {g:Option (Nat × Bool)} {d:Nat} {ty:TypeId} {pos:String} {af:Array Edge}
theorem kG {x:Operand} {t yt:TypeId} {v:Value} {b:Bool} (ht:cx.P.underlying t=some (.interface (cx.P.methodsAt t))) (hb:sC b v) (hok:okS cx.n ops fs d g=true) (hx:ev fs x=some v) (k:TriX m cx ops ((d,.bool (!b))::fs) H rest Q) :
  TriX m cx ops fs H (⟨some d,.binOp .neq t x (.const .nilIface) yt,ty,pos,af,g⟩::rest) Q:=by
 rcases hb with ⟨rfl,rfl⟩ | ⟨rfl,t',u,rfl⟩
 · exact bd _ hok (fun a w ha _=>dH (ha.eval hx) rfl (eqGuard_nil_constR _ _ _ _) (run_neq_nil_nil w t ht)) k
 · exact bd _ hok (fun a w ha _=>dH (ha.eval hx) rfl rfl (run_neq_held_nil w t t' u ht)) k
theorem ow {x:Operand} {t yt:TypeId} {v:Value} {b:Bool} (ht:cx.P.underlying t=some (.interface (cx.P.methodsAt t))) (hb:sC b v) (hok:okS cx.n ops fs d g=true) (hx:ev fs x=some v) (k:TriX m cx ops ((d,.bool b)::fs) H rest Q) :
  TriX m cx ops fs H (⟨some d,.binOp .eql t x (.const .nilIface) yt,ty,pos,af,g⟩::rest) Q:=by
 rcases hb with ⟨rfl,rfl⟩ | ⟨rfl,t',u,rfl⟩
 · exact bd _ hok (fun a w ha _=>dH (ha.eval hx) rfl (eqGuard_nil_constR _ _ _ _) (run_eql_nil_nil w t ht)) k
 · exact bd _ hok (fun a w ha _=>dH (ha.eval hx) rfl rfl (run_eql_held_nil w t t' u ht)) k
end ops
theorem ox (s:List UInt8) (i j:Nat):(s.drop i).getD j 0=s.getD (i+j) 0:=by simp [List.getD,List.getElem?_drop]
end Go.WK
namespace Go.WK
open Go.RowKit Go.Lib
def lS (acc:Nat) (c:UInt8):Nat:=acc * 10+(c.toNat - 48)
def fy:Nat→List UInt8→Nat
 | acc,[]=>acc
 | acc,c::r=>fy (lS acc c) r
def iL (l:List UInt8):Prop:=∀ c ∈ l,48≤c.toNat∧c.toNat≤57
theorem fD {c:UInt8} {l:List UInt8}:iL (c::l)↔(48≤c.toNat∧c.toNat≤57)∧iL l:=by simp [iL]
theorem mul_step (acc k P v:Nat):(acc * 10+k) * P+v=acc * (P * 10)+(k * P+v):=by
 rw [Nat.add_mul,Nat.mul_comm P 10, ← Nat.mul_assoc,Nat.add_assoc]
theorem mp:∀ (l:List UInt8) (acc:Nat),fy acc l=acc * 10 ^ l.length+fy 0 l
 | [],acc=>by
  have e1:fy acc []=acc:=rfl
  have e2:fy 0 []=0:=rfl
  rw [e1,e2,List.length_nil,Nat.pow_zero,Nat.mul_one,Nat.add_zero]
 | c::r,acc=>by
  have e:fy 0 (c::r)=fy (lS 0 c) r:=rfl
  have e2:fy acc (c::r)=fy (lS acc c) r:=rfl
  rw [e,e2,mp r (lS acc c),mp r (lS 0 c),List.length_cons,Nat.pow_succ,lS,lS,mul_step,Nat.zero_mul,Nat.zero_add]
theorem ln (c:UInt8) (r:List UInt8):fy 0 (c::r)=(c.toNat - 48) * 10 ^ r.length+fy 0 r:=by
 have e:fy 0 (c::r)=fy (lS 0 c) r:=rfl
 rw [e,mp,lS,Nat.zero_mul,Nat.zero_add]
theorem nU:∀ (l:List UInt8),iL l→fy 0 l < 10 ^ l.length
 | [],_=>by
  have e2:fy 0 []=0:=rfl
  rw [e2,List.length_nil]; decide
 | c::r,h=>by
  obtain ⟨h1,h2⟩:=fD.1 h
  have:=nU r h2
  rw [ln,List.length_cons,Nat.pow_succ]
  have h3:(c.toNat - 48) * 10 ^ r.length≤9 * 10 ^ r.length:=Nat.mul_le_mul_right _ (by omega)
  omega
theorem valF_ge (l:List UInt8) (acc:Nat):acc≤fy acc l:=by
 rw [mp]
 have:acc * 1≤acc * 10 ^ l.length:=Nat.mul_le_mul_left _ (Nat.one_le_pow _ _ (by decide))
 omega
theorem pM:∀ (l:List UInt8) (acc:Nat),iL l→acc≤18446744073709551615→parseUintM 18446744073709551615 acc l=if fy acc l≤18446744073709551615 then .ok (fy acc l) else .range
 | [],acc,_,ha=>by
  have e:fy acc []=acc:=rfl
  rw [e,if_pos ha]
  rfl
 | c::r,acc,h,ha=>by
  obtain ⟨h1,h2⟩:=fD.1 h
  have e:fy acc (c::r)=fy (lS acc c) r:=rfl
  have e2:lS acc c=acc * 10+(c.toNat - 48):=rfl
  have hg:=valF_ge r (lS acc c)
  obtain ⟨z0, e3⟩ : ∃ z0, parseUintM 18446744073709551615 acc (c::r)=if 48≤c.toNat∧c.toNat≤57 then (if 1844674407370955162≤acc then .range else if 18446744073709551615 < lS acc c then .range else parseUintM 18446744073709551615 (lS acc c) r) else z0 := ⟨_, by rw [parseUintM]; rfl⟩
  rw [e,e3,if_pos h1]
  by_cases c1:1844674407370955162≤acc
  · rw [if_pos c1,if_neg (by omega)]
  · rw [if_neg c1]
    by_cases c2:18446744073709551615 < lS acc c
    · rw [if_pos c2,if_neg (by omega)]
    · rw [if_neg c2]
      exact pM r _ h2 (by omega)
theorem p8 {l:List UInt8} (h:iL l) (hne:l≠[]):parseIntB 64 l=if fy 0 l < 9223372036854775808 then .ok (fy 0 l:Int) else .range:=by
 cases l with
 | nil=>exact absurd rfl hne
 | cons c r =>
  obtain ⟨h1,_⟩:=fD.1 h
  rw [parseIntB_plain _ _ _ (by omega) (by omega)]
  unfold parseUintB
  rw [if_neg (by simp)]
  have e1:(2:Nat) ^ 64 - 1=18446744073709551615:=by decide
  have e2:(2:Nat) ^ (64 - 1)=9223372036854775808:=by decide
  rw [e1,e2,pM _ 0 h (by decide)]
  generalize fy 0 (c::r)=v
  by_cases h3:v≤18446744073709551615
  · rw [if_pos h3]
    unfold signlessC
    simp only
    by_cases h4:v < 9223372036854775808
    · rw [if_pos h4,if_neg (by omega)]
    · rw [if_neg h4,if_pos (by omega)]
  · rw [if_neg h3,if_neg (by omega)]
    rfl
theorem less_val (l:List UInt8):∀ m:List UInt8,l.length=m.length→iL l→iL m→(Op.bytesLess l m || decide (l=m))=decide (fy 0 l≤fy 0 m):=by
 induction l with
 | nil=>intro m hl _ _; cases m with
  | nil=>rfl
  | cons=>simp at hl
 | cons c l ih =>
  intro m hl h h'
  cases m with
  | nil=>simp at hl
  | cons d m =>
   obtain ⟨h1,h2⟩:=fD.1 h
   obtain ⟨h3,h4⟩:=fD.1 h'
   have hl:l.length=m.length:=by simpa using hl
   have b1:=nU l h2
   have b2:=nU m h4
   rw [hl] at b1
   have ec:=ln c l
   rw [hl] at ec
   have ed:=ln d m
   generalize hP:10 ^ m.length=P at b1 b2 ec ed
   rcases Nat.lt_trichotomy c.toNat d.toNat with hc | hc | hc
   · have e:(c.toNat - 48+1) * P≤(d.toNat - 48) * P:=Nat.mul_le_mul_right _ (by omega)
     rw [Nat.add_mul] at e
     have e1:Op.bytesLess (c::l) (d::m)=true:=by
      simp only [Op.bytesLess]
      have:c < d:=UInt8.lt_iff_toNat_lt.2 hc
      simp [this]
     rw [e1,Bool.true_or]
     exact (decide_eq_true (by omega)).symm
   · have hcd:c=d:=UInt8.toNat_inj.1 hc
     subst hcd
     have e1:Op.bytesLess (c::l) (c::m)=Op.bytesLess l m:=by simp [Op.bytesLess]
     rw [e1]
     have e2:decide (c::l=c::m)=decide (l=m):=by simp
     rw [e2,ih m (by simpa using hl) h2 h4]
     exact decide_eq_decide.2 (by omega)
   · have e:(d.toNat - 48+1) * P≤(c.toNat - 48) * P:=Nat.mul_le_mul_right _ (by omega)
     rw [Nat.add_mul] at e
     have h5:¬ c < d:=fun e=>by have:=UInt8.lt_iff_toNat_lt.1 e; omega
     have h6:c≠d:=fun e=>by rw [e] at hc; omega
     have e1:Op.bytesLess (c::l) (d::m)=false:=by simp [Op.bytesLess,h5,h6]
     have e2:decide (c::l=d::m)=false:=decide_eq_false (by simp [h6])
     rw [e1,e2,Bool.false_or]
     exact (decide_eq_false (by omega)).symm
theorem most_val {d:List UInt8} (h:iL d) (hz:d.getD 0 0=48→d.length≤1):most d=decide (fy 0 d < 9223372036854775808):=by
 unfold most
 rcases Nat.lt_trichotomy d.length 19 with hl | hl | hl
 · have h1:=nU d h
   have h2:(10:Nat) ^ d.length≤10 ^ 18:=Nat.pow_le_pow_right (by decide) (by omega)
   have h3:(10:Nat) ^ 18=1000000000000000000:=by decide
   rw [decide_eq_true hl,Bool.true_or]
   exact (decide_eq_true (by omega)).symm
 · have ht:iL pY:=by intro c hc; simp [pY] at hc; rcases hc with rfl | rfl | rfl | rfl | rfl | rfl | rfl | rfl | rfl | rfl | rfl | rfl | rfl | rfl | rfl | rfl | rfl | rfl | rfl<;>decide
   have hv:fy 0 pY=9223372036854775807:=by decide
   rw [less_val d pY (by rw [hl]; rfl) h ht,hv,decide_eq_false (by omega),decide_eq_true hl,Bool.false_or,Bool.true_and]
   exact decide_eq_decide.2 (by omega)
 · rw [decide_eq_false (by omega),decide_eq_false (by omega),Bool.false_and,Bool.or_false]
   refine (decide_eq_false ?_).symm
   cases d with
   | nil=>simp at hl
   | cons c r =>
    obtain ⟨h1,_⟩:=fD.1 h
    have hc:c.toNat≠48:=fun e=>by
     have:c=48:=UInt8.toNat_inj.1 e
     have:=hz (by simpa using this)
     omega
    have hg:1 * 10 ^ r.length≤fy 0 (c::r):=by
     rw [ln]
     have:1 * 10 ^ r.length≤(c.toNat - 48) * 10 ^ r.length:=Nat.mul_le_mul_right _ (by omega)
     omega
    have h2:(10:Nat) ^ 19≤10 ^ r.length:=Nat.pow_le_pow_right (by decide) (by simp at hl; omega)
    have h3:(10:Nat) ^ 19=10000000000000000000:=by decide
    omega
theorem vL (s:List UInt8):iL (s.take (bO be s)):=by
 intro c hc
 obtain ⟨i,hi,e⟩:=List.mem_iff_getElem.1 hc
 rw [List.getElem_take] at e
 have hi:i < bO be s:=by rw [List.length_take] at hi; omega
 have h:=rh be s i hi
 have hl:=ia be s
 have e2:s.getD i 0=c:=by rw [← e]; simp [List.getD,show i < s.length by omega]
 rw [e2] at h
 exact nT.1 h
theorem ir {s : List UInt8} (h : be (s.getD 0 0) = true) : (∃ n,parseIntB 64 (s.take (bO be s)) = .ok n) ∧ ¬ (1 < bO be s ∧ s.getD 0 0 = 48) ∧ ¬ (bO be s < s.length ∧ dx (s.getD (bO be s) 0) = true) ↔ ¬ fY s (bO be s) := by
  have hn : 1 ≤ bO be s := by
    cases s with
    | nil => exact absurd h (by decide)
    | cons c l => have : be c = true := by simpa using h
                  simp [bO,this]
  have hl := ia be s
  have hd := vL s
  have hlen : (s.take (bO be s)).length = bO be s := by rw [List.length_take]; omega
  have hp := p8 hd (fun e => by rw [e] at hlen; simp at hlen; omega)
  have hg : (s.take (bO be s)).getD 0 0 = s.getD 0 0 := by simp [List.getD,show 0 < bO be s by omega]
  unfold fY
  by_cases hz : 1 < bO be s ∧ s.getD 0 0 = 48
  · exact iff_of_false (fun e => e.2.1 hz) (fun e => e (.inl hz))
  · have hm := most_val hd (fun e => by rw [hg] at e; rw [hlen]; exact Nat.le_of_not_lt fun h => hz ⟨h,e⟩)
    rw [hp,hm]
    by_cases hv : fy 0 (s.take (bO be s)) < 9223372036854775808
    · rw [if_pos hv,decide_eq_true hv]
      exact ⟨fun e hb => by
        rcases hb with hb | hb | hb
        · exact hz hb
        · cases hb
        · exact e.2.2 hb,fun e => ⟨⟨_,rfl⟩,hz,fun h => e (.inr (.inr h))⟩⟩
    · rw [if_neg hv,decide_eq_false hv]
      exact iff_of_false (fun e => by obtain ⟨⟨n,hn⟩,_⟩ := e; cases hn) (fun e => e (.inr (.inl rfl)))
def kH (d:List UInt8):Bool:=match parseIntB 64 d with
 | .ok _=>true
 | _=>false
theorem j3 {d:List UInt8}:kH d=true↔∃ n,parseIntB 64 d=.ok n:=by
 unfold kH
 cases h:parseIntB 64 d<;>simp
theorem xo {d:List UInt8} (h:kH d=false):∀ n,parseIntB 64 d≠.ok n:=fun n e=>by
 rw [j3.2 ⟨n,e⟩] at h; cases h
theorem ny {s:List UInt8} (h:be (s.getD 0 0)=true) (b c:Bool) (hb:b=(decide (1 < bO be s) && decide (s.getD 0 0=48))) (hc:c=(decide (bO be s < s.length) && dx (s.getD (bO be s) 0))) :
  ((!kH (s.take (bO be s)) || b) || c)=decide (fY s (bO be s)):=by
 have e:=ir h
 subst hb; subst hc
 by_cases hn:fY s (bO be s)
 · rw [decide_eq_true hn]
   cases hv:((!kH (s.take (bO be s)) || (decide (1 < bO be s) && decide (s.getD 0 0=48))) || (decide (bO be s < s.length) && dx (s.getD (bO be s) 0))) with
   | true=>rfl
   | false =>
    exfalso
    simp only [Bool.or_eq_false_iff,Bool.not_eq_false',Bool.and_eq_false_iff,decide_eq_false_iff_not] at hv
    obtain ⟨⟨h1,h2⟩,h3⟩:=hv
    refine e.1 ⟨j3.1 h1,fun h=>?_,fun h=>?_⟩ hn
    · rcases h2 with h2 | h2
      · exact h2 h.1
      · exact h2 h.2
    · rcases h3 with h3 | h3
      · exact h3 h.1
      · rw [h.2] at h3; cases h3
 · rw [decide_eq_false hn]
   obtain ⟨h1,h2,h3⟩:=e.2 hn
   rw [j3.2 h1]
   simp only [Bool.not_true,Bool.false_or,Bool.or_eq_false_iff,Bool.and_eq_false_iff,decide_eq_false_iff_not]
   refine ⟨?_, ?_⟩
   · by_cases q:1 < bO be s
     · exact .inr fun e=>h2 ⟨q,e⟩
     · exact .inl q
   · by_cases q:bO be s < s.length
     · right; cases hl:dx (s.getD (bO be s) 0) with
       | false=>rfl
       | true=>exact absurd ⟨q,hl⟩ h3
     · exact .inl q
end Go.WK
namespace Go.WK
open Go.RowKit
def mU (s:List UInt8) (acc:List Tok) (a:Nat):Prop:=a≤s.length∧acc.length≤a∧gz s=(mQ (s.length+1 - a) a (s.drop a)).map (acc++·)
theorem map_nil (r:Res):r.map (([]:List Tok)++·)=r:=by cases r<;>simp [Except.map]
theorem sD {s:List UInt8} (h:s.length≤4096):mU s [] 0:=by
 refine ⟨Nat.zero_le _,Nat.le_refl _, ?_⟩
 rw [map_nil,gz,if_neg (by omega),Nat.sub_zero,List.drop_zero]
theorem lex_long {s:List UInt8} (h:4096 < s.length):gz s=.error (3,0):=by rw [gz,if_pos h]
theorem gap_in {s:List UInt8} {a:Nat} (h:a≤s.length):a+gap (s.drop a)≤s.length:=by
 have:=gapM_le false (s.drop a)
 rw [List.length_drop] at this
 show a+eM false (s.drop a)≤_
 omega
theorem ul {s:List UInt8} {acc:List Tok} {a:Nat} (h:mU s acc a) (he:a+gap (s.drop a)=s.length):gz s=.ok (acc++[⟨5,[],(s.length:Int)⟩]):=by
 obtain ⟨h1,_,h3⟩:=h
 rw [h3,show s.length+1 - a=(s.length - a)+1 by omega,sw (by rw [List.drop_drop,he,List.drop_length]),he]
 rfl
theorem um {s:List UInt8} {acc:List Tok} {a p:Nat} (h:mU s acc a) (hp:a+gap (s.drop a)=p) (hl:p < s.length) (he:(cf (s.drop p)).e≠0):gz s=.error ((cf (s.drop p)).e,(p:Int)):=by
 obtain ⟨h1,_,h3⟩:=h
 have hd:(s.drop a).drop (gap (s.drop a))=s.getD p 0::s.drop (p+1):=by rw [List.drop_drop,hp,cg hl]
 rw [h3,show s.length+1 - a=(s.length - a)+1 by omega,mT hd, ← cg hl,if_pos he,hp]
 rfl
theorem sE {s:List UInt8} {acc:List Tok} {a p:Nat} (h:mU s acc a) (hp:a+gap (s.drop a)=p) (hl:p < s.length) (he:(cf (s.drop p)).e=0) :
  1≤(cf (s.drop p)).n∧p+(cf (s.drop p)).n≤s.length∧mU s (acc++[⟨(cf (s.drop p)).k,(cf (s.drop p)).t,(p:Int)⟩]) (p+(cf (s.drop p)).n):=by
 obtain ⟨h1,h2,h3⟩:=h
 have hd:(s.drop a).drop (gap (s.drop a))=s.getD p 0::s.drop (p+1):=by rw [List.drop_drop,hp,cg hl]
 have hn:=ot (c:=s.getD p 0) (l:=s.drop (p+1)) (by rw [← cg hl]; exact he)
 rw [← cg hl,List.length_drop] at hn
 refine ⟨hn.1,by omega,by omega,by simp; omega, ?_⟩
 rw [h3,show s.length+1 - a=(s.length - a)+1 by omega,mT hd, ← cg hl,if_neg (by rw [he]; simp),hp,List.drop_drop,
  xn (f:=s.length - a) (f':=s.length+1 - (p+(cf (s.drop p)).n)) (by rw [List.length_drop]; omega) (by rw [List.length_drop]; omega)]
 cases mQ (s.length+1 - (p+(cf (s.drop p)).n)) (p+(cf (s.drop p)).n) (s.drop (p+(cf (s.drop p)).n))<;>simp [Except.map]
def mr (r:List UInt8) (j:One):Prop:=j.e=(cf r).e∧(j.e=0→j=cf r)∧j.n≤r.length
theorem uo {r:List UInt8} (h:dx (r.getD 0 0)=true):mr r ⟨1,kE (r.take (bO gR r)),bO gR r,0⟩:=by
 rw [mr,mR h]
 exact ⟨rfl,fun _=>rfl,ia _ _⟩
theorem xp {r:List UInt8} (h1:dx (r.getD 0 0)=false) (h2:be (r.getD 0 0)=true):mr r ⟨2,r.take (bO be r),bO be r,if fY r (bO be r) then 180 else 0⟩:=by
 rw [mr,oo h1 h2]
 by_cases hb:fY r (bO be r)
 · rw [if_pos hb,if_pos hb]
   exact ⟨rfl,(fun e=>by cases e),ia _ _⟩
 · rw [if_neg hb,if_neg hb]
   exact ⟨rfl,fun _=>rfl,ia _ _⟩
theorem quoR_n {r:List UInt8} (_:r≠[]):(j0 r).2.1≤r.length:=by
 unfold j0
 cases hq:quo (r.drop 1) with
 | none=>simp
 | some y =>
  obtain ⟨h1,h2,_⟩:=quo_n (t:=y.1) (n:=y.2) hq
  rw [List.length_drop] at h2
  simp only
  split<;>simp<;>omega
theorem uq {r:List UInt8} (h:r.getD 0 0=39):mr r ⟨3,(j0 r).1,(j0 r).2.1,(j0 r).2.2⟩:=by
 have hne:r≠[]:=fun e=>by rw [e] at h; exact absurd h (by decide)
 have hl:=quoR_n hne
 rw [mr,mS h]
 refine ⟨?_, ?_,hl⟩
 · unfold j0
   cases quo (r.drop 1) with
   | none=>rfl
   | some y=>simp only; split<;>rfl
 · unfold j0
   cases quo (r.drop 1) with
   | none=>intro e; cases e
   | some y =>
    simp only
    split
    · intro e; cases e
    · intro _; rfl
theorem ri {r:List UInt8} (h:r≠[]):fx r≤r.length:=by
 have h2:fx r≤2:=vG _ _
 rcases (by omega:fx r≤1∨fx r=2) with e | e
 · cases r with
   | nil=>exact absurd rfl h
   | cons=>simp; omega
 · have h5:=oq (c:=(r.getD 0 0).toNat) (d:=(r.getD 1 0).toNat) e
   rcases Nat.lt_or_ge 1 r.length with h6 | h6
   · omega
   · rw [show r.getD 1 0=0 by rw [List.getD_eq_getElem?_getD,List.getElem?_eq_none h6]; rfl] at h5
     simp at h5
theorem oy {r:List UInt8} (h0:r≠[]) (h1:dx (r.getD 0 0)=false) (h2:be (r.getD 0 0)=false) (h3:r.getD 0 0≠39) (e:Int) (he:e=if fx r=0 then 180 else 0):mr r ⟨4,r.take (fx r),fx r,e⟩:=by
 rw [mr,lk h1 h2 h3]
 subst he
 by_cases hb:fx r=0
 · rw [if_pos hb,if_pos hb]
   exact ⟨rfl,(fun e=>by cases e),ri h0⟩
 · rw [if_neg hb,if_neg hb]
   exact ⟨rfl,fun _=>rfl,ri h0⟩
theorem xq (l:List UInt8):∀ c ∈ l.take (bO gR l),c.toNat < 128:=by
 intro c hc
 obtain ⟨i,hi,e⟩:=List.mem_iff_getElem.1 hc
 rw [List.getElem_take] at e
 have hi:i < bO gR l:=by rw [List.length_take] at hi; omega
 have h:=rh gR l i hi
 have hl:=ia gR l
 have e2:l.getD i 0=c:=by rw [← e]; simp [List.getD,show i < l.length by omega]
 rw [e2,rg] at h
 rcases h with h | h
 · have:=mm.1 h; omega
 · have:=nT.1 h; omega
theorem sF {P:Program} {n0:Nat} {w:World} {H:List Chunk} {e size:Nat} (f:Value→Value):∀ w',Sat ⟨P,n0,[],w,[]⟩ H w'→nS f w e size 0 [] (.returned (f (.slice none 0 0))) w':=fun w' h=>vE f Nth.z w' (h.nilRow _ _)
end Go.WK
namespace Go.WK
open Go.RowKit
theorem rj {s:List UInt8} {ts:List Tok} (h:gz s=.ok ts):s.length≤4096∧mQ (s.length+1) 0 s=.ok ts:=by
 unfold gz at h
 split at h
 · cases h
 · exact ⟨by omega,h⟩
theorem lexR_len (f:Nat):∀ (a:Nat) (r:List UInt8) (ts:List Tok),ml f a r=.ok ts→ts.length≤r.length+1:=by
 induction f with
 | zero=>intro a r ts h; cases h
 | succ f ih =>
  intro a r ts h
  cases r with
  | nil=>cases h; simp
  | cons c l =>
   unfold ml at h
   split at h
   · cases h
   · rename_i he
     have hn:=ot (Decidable.not_not.1 he)
     cases hx:ml f (a+(cf (c::l)).n+gap ((c::l).drop (cf (c::l)).n)) (((c::l).drop (cf (c::l)).n).drop (gap ((c::l).drop (cf (c::l)).n))) with
     | error e=>rw [hx] at h; cases h
     | ok ts' =>
      rw [hx] at h
      cases h
      have:=ih _ _ _ hx
      simp only [List.length_drop,List.length_cons] at this ⊢
      omega
theorem tks_le {s:List UInt8} {ts:List Tok} {n:Nat} (h:gz s=.ok ts) (hn:ts.length=n):n≤s.length+1:=by
 have h1:=lexR_len _ _ _ _ (rj h).2
 rw [List.length_drop] at h1
 omega
theorem okR_ok {r:Res} (h:okR r=true):∃ ts,r=.ok ts:=by
 cases r with
 | ok ts=>exact ⟨ts,rfl⟩
 | error e=>cases h
def fe (l:List (List UInt8)):List Value:=l.map fun x=>.string (B x)
theorem rk (l:List (List UInt8)):(fe l).length=l.length:=by simp [fe]
theorem xt (l:List (List UInt8)) (k j:Nat) (h:j=k) (hk:k < l.length):(fe l)[j]? = some (.string (B (l.getD k []))):=by
 subst h
 simp [fe,List.getD,hk]
theorem ur (l:List (List UInt8)) (k:Nat) (h:k < l.length):l.take (k+1)=l.take k++[l.getD k []]:=by
 rw [List.take_succ_eq_append_getElem h]; simp [List.getD,h]
end Go.WK
namespace Go.WK
open Go.RowKit
section ops
variable {m:Bool} {cx:Cx} {fs:aW} {H:List Chunk} {Q:co} {ops:Array Oper} {rest:List Oper} {g:Option (Nat × Bool)} {d:Nat} {ty:TypeId} {pos:String} {af:Array Edge}
theorem fq {c x y:Operand} {v u:Value} (hy:ev fs y=some u) (hok:okS cx.n ops fs d g=true) (hc:ev fs c=some (.bool true)) (hx:ev fs x=some v) (k:TriX m cx ops ((d,v)::fs) H rest Q):TriX m cx ops fs H (⟨some d,.pick c x y,ty,pos,af,g⟩::rest) Q :=
 kB (t:=true) (u:=v) (v:=u) hok hc hx hy k
theorem jc {c x y:Operand} {v u:Value} (hx:ev fs x=some u) (hok:okS cx.n ops fs d g=true) (hc:ev fs c=some (.bool false)) (hy:ev fs y=some v) (k:TriX m cx ops ((d,v)::fs) H rest Q):TriX m cx ops fs H (⟨some d,.pick c x y,ty,pos,af,g⟩::rest) Q :=
 kB (t:=false) (u:=u) (v:=v) hok hc hx hy k
theorem o_eqlAT {x y:Operand} {t yt:TypeId} {ks:List SK} {vs:List Value} (hf:jb cx.P t=some ks) (h1:fX ks vs=true) (hs:gP vs vs=true) (hok:okS cx.n ops fs d g=true) (hx:ev fs x=some (.agg vs.toArray)) (hy:ev fs y=some (.agg vs.toArray)) (k:TriX m cx ops ((d,.bool true)::fs) H rest Q) :
  TriX m cx ops fs H (⟨some d,.binOp .eql t x y yt,ty,pos,af,g⟩::rest) Q:=o_eqlA hf hok hx hy h1 h1 (by rw [hs]; exact k)
end ops
def fc:Res→Int × Int
 | .ok _=>(0,0)
 | .error e=>e
def fKs:List SK:=[.int .i64,.int .i64]
theorem vM {r:Res} (h:okR r=false):∃ e,r=.error e:=by
 cases r with
 | ok ts=>cases h
 | error e=>exact ⟨e,rfl⟩
theorem xu (s:List UInt8):(kE s).length=s.length:=by simp [kE]
end Go.WK
namespace Go.WK
open Go.RowKit
structure Val where
 k:Int
 n:Int
 s:List UInt8
instance:DecidableEq Val:=fun a b=>decidable_of_iff (a.k=b.k∧a.n=b.n∧a.s=b.s) ⟨fun h=>by cases a; cases b; simp_all,fun h=>by rw [h]; simp⟩
def Val.zero:Val:=⟨0,0,[]⟩
def Val.cs (v:Val):List Value:=[.int .i64 v.k,.int .i64 v.n,.string (B v.s)]
abbrev nK (v:Val):Value:=.agg v.cs.toArray
def sG:List SK:=[.int .i64,.int .i64,.str]
theorem vP (a b:Val):gP a.cs b.cs=decide (a=b):=by
 have h1:gP a.cs b.cs=(a.k == b.k && (a.n == b.n && (a.s == b.s && true))):=by simp [Val.cs,gP,pW]
 rw [h1]
 by_cases h:a=b
 · subst h; simp
 · rw [decide_eq_false h]
   cases a; cases b
   simp_all
theorem ms (a b:Val):decide (a=b)=(decide (a.k=b.k) && (decide (a.n=b.n) && decide (a.s=b.s))):=by
 by_cases h:a=b
 · subst h; simp
 · rw [decide_eq_false h]
   cases a; cases b
   simp_all
theorem le_dec (n m:Nat):decide ((n:Int)≤(m:Int))=decide (n≤m):=decide_eq_decide.2 (by omega)
theorem nV (a:Val):fX sG a.cs=true:=by simp [sG,Val.cs,fX,SK.fits]
section ops
variable {m:Bool} {cx:Cx} {fs:aW} {H:List Chunk} {Q:co} {ops:Array Oper} {rest:List Oper} {g:Option (Nat × Bool)} {d:Nat} {ty:TypeId} {pos:String} {af:Array Edge}
theorem o_eqlV {x y:Operand} {t yt:TypeId} {a b:Val} (hf:jb cx.P t=some sG) (hok:okS cx.n ops fs d g=true) (hx:ev fs x=some (nK a)) (hy:ev fs y=some (nK b)) (k:TriX m cx ops ((d,.bool (decide (a=b)))::fs) H rest Q) :
  TriX m cx ops fs H (⟨some d,.binOp .eql t x y yt,ty,pos,af,g⟩::rest) Q:=o_eqlA hf hok hx hy (nV a) (nV b) (by rw [vP]; exact k)
theorem o_neqV {x y:Operand} {t yt:TypeId} {a b:Val} (hf:jb cx.P t=some sG) (hok:okS cx.n ops fs d g=true) (hx:ev fs x=some (nK a)) (hy:ev fs y=some (nK b)) (k:TriX m cx ops ((d,.bool (!decide (a=b)))::fs) H rest Q) :
  TriX m cx ops fs H (⟨some d,.binOp .neq t x y yt,ty,pos,af,g⟩::rest) Q:=uh hf hok hx hy (nV a) (nV b) (by rw [vP]; exact k)
theorem mt {x:Operand} {t bt b i:Nat} {v:Val} (ht:cF cx.P t=some true) (hz:szB cx.P t=some 3) (hn:Nth H i (box b bt v.cs)) (hok:okS cx.n ops fs d g=true) (hx:ev fs x=some (.pointer (some ⟨b,0,none⟩)))
  (k:TriX m cx ops ((d,nK v)::fs) H rest Q):TriX m cx ops fs H (⟨some d,.load t x,ty,pos,af,g⟩::rest) Q:=aS ht hz hn hok hx (vs:=v.cs) rfl rfl k
theorem xv {x y:Operand} {t bt b i:Nat} {u v:Val} (hz:szB cx.P t=some 3) (hn:Nth H i (box b bt u.cs)) (hok:okW ops fs g=true) (hx:ev fs x=some (.pointer (some ⟨b,0,none⟩))) (hy:ev fs y=some (nK v))
  (k:TriX false cx ops fs (iE H i (box b bt v.cs)) rest Q):TriX false cx ops fs H (⟨none,.store t x y,ty,pos,af,g⟩::rest) Q:=aC hz hn hok hx hy (vs:=v.cs) rfl rfl (by simp [Val.cs]) rfl k
end ops
def up (n:Int):Nat:=(n+9223372036854775808).toNat
section ops
variable {m:Bool} {cx:Cx} {fs:aW} {H:List Chunk} {Q:co} {ops:Array Oper} {rest:List Oper} {g:Option (Nat × Bool)} {d:Nat} {ty:TypeId} {pos:String} {af:Array Edge}
end ops
def may (v:Val):Bool:=if v.k=0 then decide (v.n=0) && decide (v.s=[]) else if v.k=1 then decide (v.s=[]) else if v.k=2 then decide (v.n=0) && decide (v.s.length≤64) else decide (v.k=3) && (decide (v.s=[]) && (decide (v.n=0) || decide (v.n=1)))
theorem may_text {v:Val} (h:may v=true) (k:v.k=2):v.s.length≤64:=by
 unfold may at h
 simp [k] at h
 exact h.2
def Val.ok (v:Val):Prop:=(-9223372036854775808≤v.k∧v.k≤9223372036854775807)∧(-9223372036854775808≤v.n∧v.n≤9223372036854775807)
def esc:List UInt8→List UInt8
 | []=>[]
 | c::r=>if c=0 then 0::255::esc r else c::esc r
def beN:Nat→Nat→List UInt8
 | 0,_=>[]
 | k+1,u=>UInt8.ofNat (u / 256 ^ k)::beN k u
def one (v:Val):List UInt8:=if v.k=3 then [UInt8.ofNat (2+v.n).toNat] else if v.k=1 then 4::beN 8 (up v.n) else if v.k=2 then 5::(esc v.s++[0,1]) else [1]
def enc:List Val→List UInt8
 | []=>[]
 | v::l=>one v++enc l
section ops
variable {m:Bool} {cx:Cx} {fs:aW} {H:List Chunk} {Q:co} {ops:Array Oper} {rest:List Oper} {g:Option (Nat × Bool)} {d:Nat} {ty:TypeId} {pos:String} {af:Array Edge}
end ops
section ops
variable {m:Bool} {cx:Cx} {fs:aW} {H:List Chunk} {Q:co} {ops:Array Oper} {rest:List Oper} {g:Option (Nat × Bool)} {d:Nat} {ty:TypeId} {pos:String} {af:Array Edge}
end ops
end Go.WK
namespace Go.WK
open Go.RowKit Go.ChangeShapes Go.WideShapes Go.ChangeAt Go.ChangeMaps
section
variable {H:Type} {enc:TypeId × Value→H} {P:Program}
theorem lI (hl:laidOutB P=true) {W W':World} (hb:Below W.heap.size W W'):∀ {ts:List TypeId} {vs:List Value} {ds:List (DataW H)} {ps:List MemPlace},(∀ t ∈ ts,P.readableRec t=true∧t < P.types.size) →
  DataW.TrodAll enc P W 0 (fun _=>true) true ts vs ds ps→DataW.TrodAll enc P W' 0 (fun b=>decide (b < W.heap.size)) true ts vs ds ps
 | [],vs,ds,ps,_,h=>by
  obtain ⟨rfl,rfl,rfl⟩:=trodAll_nil h
  exact trodAll_mk0
 | t::ts,vs,ds,ps,ht,h=>by
  have hlt:=DataW.TrodAll.lt h
  obtain ⟨v,vs',d,ds',p,q,rfl,rfl,rfl,h0,r⟩:=trodAll_cons h
  have h1:=ht t (by simp)
  exact trodAll_cons_mk (Below.trod hl h1.1 h1.2 h0 hb (fun x hx=>hlt x (by simp [hx]))) (lI hl hb (fun t' ht'=>ht t' (List.mem_cons_of_mem _ ht')) r)
theorem law_post {f:Func} {s:ChangeSpec} {W W':World} {args:Array Value} {ds gs:List (DataW H)} {before:List MemPlace} {T:TypeId} (hl:laidOutB P=true) (hp:∀ t ∈ f.params.toList,P.readableRec t=true∧t < P.types.size) (hr:f.resultTypes = #[T]) (hT:P.underlying T=some .bool)
  (hv:s.vars=[]) (hW:DataW.Whole enc P f.params.toList s.vars false W args.toList ds gs before) (hs1:(s.fn H (ds++gs)).results=[.lit (.bool true)]) (hs2:(s.fn H (ds++gs)).args=ds) (hs3:(s.fn H (ds++gs)).vars=[])
  (hx:Chg [] W W'):s.post enc P f false true false false W args (.bool true) W':=by
 have hW':=hW
 obtain ⟨p,q,hA,hV,rfl,_,_⟩:=hW
 rw [hv] at hV
 obtain ⟨rfl,rfl⟩:=trodVars_none hV
 refine ⟨ds,[],p++[],[],p,[],hW', ?_, ?_, ?_,hx.below.frame _,fun h=>by cases h⟩
 · rw [hs1,hr]
   exact trodAll_mk1 (shut_bool hT true)
 · rw [hs2]
   exact lI hl hx.below hp hA
 · rw [hs3,hv]
   rfl
theorem jD {x:Int} (h:(Lit.int .i64 x).wf=true):-9223372036854775808≤x∧x≤9223372036854775807:=by
 simpa [Lit.wf,IntKind.min,IntKind.max,IntKind.signed,IntKind.bits] using h
end
end Go.WK
namespace Go.WK
open Go.RowKit Go.ChangeShapes Go.WideShapes Go.ChangeAt Go.ChangeMaps
theorem sH (s:ByteArray):B s.data.toList=s:=by cases s; rfl
instance:Inhabited Val:=⟨Val.zero⟩
section
variable {H:Type} {enc:TypeId × Value→H} {P:Program}
def Val.data (v:Val):DataW H:=.agg [.lit (.int .i64 v.k),.lit (.int .i64 v.n),.lit (.string v.s)]
theorem open_val {w:World} {e t0 t1 t2:TypeId} {n0 n1 n2:String} {g0 g1 g2:String} {p0 p1 p2:String} {b0 b1 b2:Nat} {sp:Nat→Bool} {fuel:Nat} {cs:List Value} {x:DataW H × List MemPlace} {base:Nat}
  (he:P.underlying e=some (.struct #[⟨n0,t0,0,false,g0,p0,b0⟩,⟨n1,t1,1,false,g1,p1,b1⟩,⟨n2,t2,2,false,g2,p2,b2⟩]))
  (h0:P.underlying t0=some (.int .i64)) (h1:P.underlying t1=some (.int .i64)) (h2:P.underlying t2=some .string) (c0:P.cellsOf t0=1) (c1:P.cellsOf t1=1) (c2:P.cellsOf t2=1) (hc:P.cellsOf e=3)
  (h:DataW.trod enc P w base sp true fuel e cs=some x):∃ v:Val,cs=v.cs∧x.1=v.data∧v.ok:=by
 obtain ⟨xs,n,rfl,rfl,hl,hxs,hf⟩:=DataW.trod_struct he h
 rw [hc] at hl
 match cs,hl with
 | [u0,u1,u2],_ =>
  match xs,hxs with
  | [y0,y1,y2],_ =>
   have f0:DataW.trod enc P w base sp true n t0 (([u0,u1,u2].drop 0).take (P.cellsOf t0))=some y0:=hf 0 _ rfl
   have f1:DataW.trod enc P w base sp true n t1 (([u0,u1,u2].drop 1).take (P.cellsOf t1))=some y1:=hf 1 _ rfl
   have f2:DataW.trod enc P w base sp true n t2 (([u0,u1,u2].drop 2).take (P.cellsOf t2))=some y2:=hf 2 _ rfl
   rw [c0] at f0
   rw [c1] at f1
   rw [c2] at f2
   obtain ⟨k,ek,rfl,wk⟩:=DataW.trod_int h0 f0
   obtain ⟨m,em,rfl,wm⟩:=DataW.trod_int h1 f1
   obtain ⟨s,es,rfl,_⟩:=DataW.trod_string h2 f2
   simp at ek em es
   subst ek em es
   exact ⟨⟨k,m,s.data.toList⟩,by simp [Val.cs,sH],rfl,jD wk,jD wm⟩
end
end Go.WK
namespace Go.WK
open Go.RowKit Go.ChangeShapes Go.WideShapes Go.ChangeAt Go.ChangeMaps
inductive Ex where
 | mk (o:Int) (v:Val) (t n:List UInt8) (c:Int) (as:List Ex)
def Ex.o:Ex→Int | .mk o _ _ _ _ _=>o
def Ex.v:Ex→Val | .mk _ v _ _ _ _=>v
def Ex.t:Ex→List UInt8 | .mk _ _ t _ _ _=>t
def Ex.n:Ex→List UInt8 | .mk _ _ _ n _ _=>n
def Ex.c:Ex→Int | .mk _ _ _ _ c _=>c
def Ex.as:Ex→List Ex | .mk _ _ _ _ _ as=>as
def Ex.zero:Ex:=.mk 0 Val.zero [] [] 0 []
instance:Inhabited Ex:=⟨Ex.zero⟩
theorem Ex.eta (e:Ex):e=.mk e.o e.v e.t e.n e.c e.as:=by cases e; rfl
mutual
def Ex.same:Ex→Ex→Bool
 | .mk o v t n c as,.mk o' v' t' n' c' as'=>decide (o=o') && (decide (v=v') && (decide (t=t') && (decide (n=n') && (decide (c=c') && Exs.same as as'))))
def Exs.same:List Ex→List Ex→Bool
 | [],[]=>true
 | a::l,b::m=>a.same b && Exs.same l m
 | _,_=>false
def Ex.size:Ex→Nat
 | .mk _ v t n _ as=>v.s.length+t.length+n.length+Exs.size as+1
def Exs.size:List Ex→Nat
 | []=>0
 | a::l=>a.size+Exs.size l
def ExC (w:World):Ex→List Value→Prop
 | .mk o v t n c as,cs=>∃ (A:Option Addr) (k:Nat) (xs:List Value),cs=[.int .i64 o,.int .i64 v.k,.int .i64 v.n,.string (B v.s),.string (B t),.string (B n),.int .i64 c,.slice A as.length k]∧as.length≤k∧Rd w A xs∧ExsC w as xs
def ExsC (w:World):List Ex→List Value→Prop
 | [],xs=>xs=[]
 | e::es,xs=>∃ y ys,xs=y++ys∧ExC w e y∧ExsC w es ys
def Ex.ok:Ex→Prop
 | .mk o v _ _ c as=>(-9223372036854775808≤o∧o≤9223372036854775807)∧v.ok∧(-9223372036854775808≤c∧c≤9223372036854775807)∧Exs.ok as
def Exs.ok:List Ex→Prop
 | []=>True
 | a::l=>a.ok∧Exs.ok l
end
mutual
theorem Ex.same_iff:∀ a b:Ex,a.same b=true↔a=b
 | .mk o v t n c as,.mk o' v' t' n' c' as'=>by
  simp only [Ex.same,Bool.and_eq_true,decide_eq_true_eq,Exs.same_iff as as',Ex.mk.injEq]
theorem Exs.same_iff:∀ l m:List Ex,Exs.same l m=true↔l=m
 | [],[]=>by simp [Exs.same]
 | [],_::_=>by simp [Exs.same]
 | _::_,[]=>by simp [Exs.same]
 | a::l,b::m=>by simp only [Exs.same,Bool.and_eq_true,Ex.same_iff a b,Exs.same_iff l m,List.cons.injEq]
end
instance:DecidableEq Ex:=fun a b=>decidable_of_iff (a.same b=true) (Ex.same_iff a b)
theorem ExC.len {w:World} {e:Ex} {cs:List Value} (h:ExC w e cs):cs.length=8:=by
 cases e with
 | mk o v t n c as=>obtain ⟨A,k,xs,rfl,_⟩:=h; rfl
mutual
theorem ExC.chg {w w':World} (hc:Chg [] w w'):∀ (e:Ex) (cs:List Value),ExC w e cs→ExC w' e cs
 | .mk o v t n c as,cs,h=>by
  obtain ⟨A,k,xs,h1,h2,h3,h4⟩:=h
  exact ⟨A,k,xs,h1,h2,h3.ext hc,ExsC.chg hc as xs h4⟩
theorem ExsC.chg {w w':World} (hc:Chg [] w w'):∀ (l:List Ex) (xs:List Value),ExsC w l xs→ExsC w' l xs
 | [],_,h=>h
 | e::es,xs,h=>by
  obtain ⟨y,ys,h1,h2,h3⟩:=h
  exact ⟨y,ys,h1,ExC.chg hc e y h2,ExsC.chg hc es ys h3⟩
end
theorem ExsC.len {w:World}:∀ {l:List Ex} {xs:List Value},ExsC w l xs→xs.length=l.length * 8
 | [],xs,h=>by have h:xs=[]:=h; rw [h]; rfl
 | e::es,xs,h=>by
  obtain ⟨y,ys,rfl,h2,h3⟩:=h
  rw [List.length_append,h2.len,h3.len,List.length_cons]; omega
theorem ExsC.at {w:World}:∀ {l:List Ex} {xs:List Value} (i:Nat),ExsC w l xs→i < l.length→∃ cs,(xs.drop (i * 8)).take 8=cs∧ExC w (l.getD i Ex.zero) cs
 | [],_,i,_,hi=>by simp at hi
 | e::es,xs,i,h,hi=>by
  obtain ⟨y,ys,rfl,h2,h3⟩:=h
  have hy:=h2.len
  cases i with
  | zero =>
   refine ⟨y, ?_,h2⟩
   rw [Nat.zero_mul,List.drop_zero]
   exact List.take_left' hy
  | succ i =>
   obtain ⟨cs,k1,k2⟩:=ExsC.at i h3 (by simpa using hi)
   refine ⟨cs, ?_,by simpa using k2⟩
   rw [show (i+1) * 8=y.length+i * 8 by omega,List.drop_length_add_append]
   exact k1
theorem ExsC.mk {w:World}:∀ (l:List Ex) (xs:List Value),xs.length=l.length * 8→(∀ i,i < l.length→ExC w (l.getD i Ex.zero) ((xs.drop (i * 8)).take 8))→ExsC w l xs
 | [],xs,h,_=>List.length_eq_zero_iff.1 (by simpa using h)
 | e::es,xs,h,hs=>by
  refine ⟨xs.take 8,xs.drop 8,(List.take_append_drop _ _).symm, ?_,ExsC.mk es (xs.drop 8) (by simp at h ⊢; omega) (fun i hi=>?_)⟩
  · have:=hs 0 (by simp)
    simpa using this
  · have:=hs (i+1) (by simpa using hi)
    rw [List.drop_drop,show 8+i * 8=(i+1) * 8 by omega]
    simpa using this
section
variable {H:Type} {enc:TypeId × Value→H} {P:Program}
mutual
def Like:Ex→DataW H→Prop
 | .mk o v t n c as,d=>∃ da,d=.agg [.lit (.int .i64 o),v.data,.lit (.string t),.lit (.string n),.lit (.int .i64 c),da]∧((as=[]∧da=.nil)∨∃ elems spare,da=.slice elems spare∧Likes as elems)
def Likes:List Ex→List (DataW H)→Prop
 | [],l=>l=[]
 | e::es,l=>∃ d ds,l=d::ds∧Like e d∧Likes es ds
end
theorem Likes.mk:∀ (l:List Ex) (ds:List (DataW H)),ds.length=l.length→(∀ i (hi:i < ds.length),Like (l.getD i Ex.zero) ds[i])→Likes l ds
 | [],ds,h,_=>List.length_eq_zero_iff.1 (by simpa using h)
 | e::es,[],h,_=>by simp at h
 | e::es,d::ds,h,hs=>by
  refine ⟨d,ds,rfl, ?_,Likes.mk es ds (by simpa using h) (fun i hi=>?_)⟩
  · have:=hs 0 (by simp); simpa using this
  · have:=hs (i+1) (by simpa using hi); simpa using this
theorem Exs.ok_of:∀ (l:List Ex),(∀ i,i < l.length→(l.getD i Ex.zero).ok)→Exs.ok l
 | [],_=>trivial
 | e::es,h=>⟨by have:=h 0 (by simp); simpa using this,Exs.ok_of es (fun i hi=>by have:=h (i+1) (by simpa using hi); simpa using this)⟩
theorem open_ex {w:World} {e ev ti ts ta t0 t1 t2:TypeId} {n0 n1 n2 n3 n4 n5 g0 g1 g2 g3 g4 g5 p0 p1 p2 p3 p4 p5:String} {b0 b1 b2 b3 b4 b5:Nat} {q0 q1 q2 q3 q4 q5:Bool} {m0 m1 m2 x0 x1 x2 y0 y1 y2:String} {z0 z1 z2:Nat}
  (he:P.underlying e=some (.struct #[⟨n0,ti,0,q0,g0,p0,b0⟩,⟨n1,ev,1,q1,g1,p1,b1⟩,⟨n2,ts,4,q2,g2,p2,b2⟩,⟨n3,ts,5,q3,g3,p3,b3⟩,⟨n4,ti,6,q4,g4,p4,b4⟩,⟨n5,ta,7,q5,g5,p5,b5⟩]))
  (hev:P.underlying ev=some (.struct #[⟨m0,t0,0,false,x0,y0,z0⟩,⟨m1,t1,1,false,x1,y1,z1⟩,⟨m2,t2,2,false,x2,y2,z2⟩]))
  (hti:P.underlying ti=some (.int .i64)) (hts:P.underlying ts=some .string) (hta:P.underlying ta=some (.slice e))
  (h0:P.underlying t0=some (.int .i64)) (h1:P.underlying t1=some (.int .i64)) (h2:P.underlying t2=some .string)
  (cti:P.cellsOf ti=1) (cts:P.cellsOf ts=1) (cta:P.cellsOf ta=1) (cev:P.cellsOf ev=3) (c0:P.cellsOf t0=1) (c1:P.cellsOf t1=1) (c2:P.cellsOf t2=1) (hc:P.cellsOf e=8) :
  ∀ (s fuel:Nat) (cs:List Value) (d:DataW H) (p:List MemPlace),SizeOf.sizeOf d < s→DataW.trod enc P w 0 (fun _=>true) true fuel e cs=some (d,p)→∃ x:Ex,ExC w x cs∧x.ok∧Like x d:=by
 intro s
 induction s with
 | zero=>intro fuel cs d p hs; omega
 | succ s ih =>
  intro fuel cs d p hs h
  obtain ⟨xs,n,rfl,hd,hl,hxs,hf⟩:=DataW.trod_struct he h
  simp only [Prod.mk.injEq] at hd
  obtain ⟨rfl,_⟩:=hd
  rw [hc] at hl
  match cs,hl with
  | [u0,u1,u2,u3,u4,u5,u6,u7],_ =>
   match xs,hxs with
   | [v0,v1,v2,v3,v4,v5],_ =>
    have f0:DataW.trod enc P w 0 (fun _=>true) true n ti (([u0,u1,u2,u3,u4,u5,u6,u7].drop 0).take (P.cellsOf ti))=some v0:=hf 0 _ rfl
    have f1:DataW.trod enc P w 0 (fun _=>true) true n ev (([u0,u1,u2,u3,u4,u5,u6,u7].drop 1).take (P.cellsOf ev))=some v1:=hf 1 _ rfl
    have f2:DataW.trod enc P w 0 (fun _=>true) true n ts (([u0,u1,u2,u3,u4,u5,u6,u7].drop 4).take (P.cellsOf ts))=some v2:=hf 2 _ rfl
    have f3:DataW.trod enc P w 0 (fun _=>true) true n ts (([u0,u1,u2,u3,u4,u5,u6,u7].drop 5).take (P.cellsOf ts))=some v3:=hf 3 _ rfl
    have f4:DataW.trod enc P w 0 (fun _=>true) true n ti (([u0,u1,u2,u3,u4,u5,u6,u7].drop 6).take (P.cellsOf ti))=some v4:=hf 4 _ rfl
    have f5:DataW.trod enc P w 0 (fun _=>true) true n ta (([u0,u1,u2,u3,u4,u5,u6,u7].drop 7).take (P.cellsOf ta))=some v5:=hf 5 _ rfl
    rw [cti] at f0 f4
    rw [cev] at f1
    rw [cts] at f2 f3
    rw [cta] at f5
    obtain ⟨o,eo,rfl,wo⟩:=DataW.trod_int hti f0
    obtain ⟨v,ev',hv,ov⟩:=open_val hev h0 h1 h2 c0 c1 c2 cev f1
    obtain ⟨st,et,rfl,_⟩:=DataW.trod_string hts f2
    obtain ⟨sn,en,rfl,_⟩:=DataW.trod_string hts f3
    obtain ⟨c,ec,rfl,wc⟩:=DataW.trod_int hti f4
    simp [Val.cs] at eo ev' et en ec
    obtain ⟨rfl,rfl,rfl⟩:=ev'
    subst eo et en ec
    have io:=jD wo
    have ic:=jD wc
    rcases Deep.open_slice hta f5 with ⟨hcs,hx⟩ | ⟨a,len,cap,m,n',D,Pl,hcs,_,hl,hm,hmm,hx,hel⟩
    · simp at hcs
      subst hcs
      subst hx
      refine ⟨.mk o v st.data.toList sn.data.toList c [],⟨none,0,[],by simp [sH],Nat.le_refl _,Rd.nil _ _,rfl⟩,⟨io,ov,ic,trivial⟩,.nil, ?_,.inl ⟨rfl,rfl⟩⟩
      simp [hv]
    · simp at hcs
      subst hcs
      subst hx
      simp only [if_true] at hmm
      subst m
      have hsz:∀ i,i < len→SizeOf.sizeOf (D i) < s:=fun i hi=>by
       have hmem:D i ∈ (List.range len).map D:=List.mem_map.2 ⟨i,List.mem_range.2 hi,rfl⟩
       have k1:=List.sizeOf_lt_of_mem hmem
       simp at hs
       omega
      obtain ⟨V,hV⟩:=Deep.choose_lt (α:=Ex) (n:=len) (p:=fun i u=>(∃ cs',w.cells? 0 (a.add (i * 8)) 8=some cs'∧ExC w u cs')∧u.ok∧Like u (D i)) (fun i hi=>by
       obtain ⟨cs',k1,k2⟩:=hel i (by omega)
       rw [hc] at k1
       obtain ⟨u,k3,k4,k5⟩:=ih n' cs' (D i) (Pl i) (hsz i hi) k2
       exact ⟨u,⟨cs',k1,k3⟩,k4,k5⟩)
      obtain ⟨C,hC⟩:=Deep.choose_lt (α:=List Value) (n:=len) (p:=fun i cs'=>w.cells? 0 (a.add (i * 8)) 8=some cs'∧ExC w (V i) cs') (fun i hi=>(hV i hi).1)
      have hget:∀ i,i < len→((List.range len).map V).getD i Ex.zero=V i:=fun i hi=>by simp [List.getD,hi]
      have hlen:∀ k,k≤len→((List.range k).flatMap C).length=k * 8:=by
       intro k
       induction k with
       | zero=>intro _; rfl
       | succ k ihk =>
        intro hk
        rw [List.range_succ,List.flatMap_append,List.length_append,ihk (by omega)]
        simp only [List.flatMap_cons,List.flatMap_nil,List.append_nil]
        rw [(hC k (by omega)).2.len]; omega
      have hseg:∀ k,k≤len→∀ i,i < k→(((List.range k).flatMap C).drop (i * 8)).take 8=C i:=by
       intro k
       induction k with
       | zero=>intro _ i hi; omega
       | succ k ihk =>
        intro hk i hi
        have h8:=hlen k (by omega)
        rw [List.range_succ,List.flatMap_append]
        simp only [List.flatMap_cons,List.flatMap_nil,List.append_nil]
        rcases Nat.lt_or_ge i k with h9 | h9
        · rw [List.drop_append_of_le_length (by omega),List.take_append_of_le_length (by rw [List.length_drop]; omega)]
          exact ihk (by omega) i h9
        · obtain rfl:i=k:=by omega
          rw [← h8,List.drop_left]
          exact List.take_of_length_le (Nat.le_of_eq (hC i (by omega)).2.len)
      refine ⟨.mk o v st.data.toList sn.data.toList c ((List.range len).map V),⟨some a,cap,(List.range len).flatMap C,by simp [sH],by simpa using hl, ?_, ?_⟩,⟨io,ov,ic,Exs.ok_of _ (fun i hi=>?_)⟩,.slice ((List.range len).map D) ((List.range (cap - len)).map fun j=>D (len+j)), ?_,.inr ⟨_,_,rfl, ?_⟩⟩
      · intro j u hu
        refine ⟨a,rfl, ?_⟩
        have hj:j < ((List.range len).flatMap C).length:=(List.getElem?_eq_some_iff.1 hu).1
        rw [hlen len (Nat.le_refl _)] at hj
        have hi:j / 8 < len:=by omega
        obtain ⟨_,hl8,hcell⟩:=World.cells?_some (hC (j / 8) hi).1
        have e1:(C (j / 8))[j % 8]? = some u:=by
         rw [← hseg len (Nat.le_refl _) (j / 8) hi,List.getElem?_take,if_pos (by omega),List.getElem?_drop,show j / 8 * 8+j % 8=j by omega]
         exact hu
        have:=hcell (j % 8) (by omega)
        rw [e1,ja,show j / 8 * 8+j % 8=j by omega] at this
        exact this
      · refine ExsC.mk _ _ (by rw [hlen len (Nat.le_refl _)]; simp) (fun i hi=>?_)
        have hi:i < len:=by simpa using hi
        rw [hget i hi,hseg len (Nat.le_refl _) i hi]
        exact (hC i hi).2
      · have hi:i < len:=by simpa using hi
        rw [hget i hi]
        exact (hV i hi).2.1
      · simp [hv]
      · refine Likes.mk _ _ (by simp) (fun i hi=>?_)
        have hi:i < len:=by simpa using hi
        rw [hget i hi]
        simp only [List.getElem_map,List.getElem_range]
        exact (hV i hi).2.2
end
end Go.WK
namespace Go.WK
open Go.RowKit
def good (l:List Val):Prop:=(∀ v ∈ l,may v=true)∧∀ v ∈ l,v.ok
end Go.WK
namespace Go.WK
open Go.RowKit
def inR (z:Int):Bool:=decide (-9223372036854775808≤z) && decide (z≤9223372036854775807)
def ex (z:Int):Int × Bool:=(IntKind.i64.wrap z,inR z)
def subF (x y:Int):Int × Bool:=ex (x - y)
theorem gL {z:Int}:inR z=true↔-9223372036854775808≤z∧z≤9223372036854775807:=by simp [inR]
section ops
variable {m:Bool} {cx:Cx} {fs:aW} {H:List Chunk} {Q:co} {ops:Array Oper} {rest:List Oper} {g:Option (Nat × Bool)} {d:Nat} {ty:TypeId} {pos:String} {af:Array Edge}
end ops
end Go.WK
namespace Go.WK
open Go.RowKit Go.Lib
theorem mu (c:UInt8):∀ (l:List UInt8) (acc:Nat),decFrom acc (l++[c])=(decFrom acc l).bind fun n=>(digitVal c).map fun d=>n * 10+d
 | [],acc=>by
  simp only [List.nil_append,decFrom,Option.bind_some]
  cases digitVal c<;>rfl
 | b::l,acc=>by
  simp only [List.cons_append,decFrom]
  cases digitVal b with
  | none=>rfl
  | some d=>exact mu c l _
theorem oz:∀ (l:List UInt8) (acc n:Nat),decFrom acc l=some n→acc * 10 ^ l.length≤n
 | [],acc,n,h=>by simp only [decFrom,Option.some.injEq] at h; simp [h]
 | b::l,acc,n,h=>by
  simp only [decFrom] at h
  cases hb:digitVal b with
  | none=>simp [hb] at h
  | some d =>
   simp only [hb] at h
   have:=oz l _ n h
   have h2:acc * 10 * 10 ^ l.length≤(acc * 10+d) * 10 ^ l.length:=Nat.mul_le_mul_right _ (by omega)
   rw [List.length_cons,Nat.pow_succ,Nat.mul_comm (10 ^ l.length) 10, ← Nat.mul_assoc]
   omega
theorem sI {d:Nat} (h:d < 10):digitVal (UInt8.ofNat (48+d))=some d:=by
 have:(UInt8.ofNat (48+d)).toNat=48+d:=by simp; omega
 unfold digitVal
 rw [this,if_pos (by omega)]
 congr 1; omega
theorem lq {u:Nat} (h:u < 10):decDigits u=[UInt8.ofNat (48+u)]:=decDigits_one h
theorem rl {u:Nat} (h:¬ u < 10):decDigits u=decDigits (u / 10)++[UInt8.ofNat (48+u % 10)]:=by rw [decDigits,dif_neg h]
theorem ut (u:Nat):decDigits u≠[]:=by
 by_cases h:u < 10
 · rw [lq h]; simp
 · rw [rl h]; simp
theorem kI (u:Nat):decFrom 0 (decDigits u)=some u:=by
 induction u using Nat.strongRecOn with
 | _ u ih =>
  by_cases h:u < 10
  · rw [lq h]
    simp only [decFrom,sI h]
    simp
  · rw [rl h,mu,ih (u / 10) (by omega),Option.bind_some,sI (Nat.mod_lt _ (by omega))]
    simp only [Option.map_some]
    congr 1; omega
theorem head_app {l:List UInt8} {c:UInt8} (h:l≠[]):(l++[c]).head? = l.head?:=by
 cases l with
 | nil=>exact absurd rfl h
 | cons a r=>rfl
theorem dec_head (u:Nat):(decDigits u).head? = some 48→u=0:=by
 induction u using Nat.strongRecOn with
 | _ u ih =>
  by_cases h:u < 10
  · rw [lq h]
    intro e
    simp only [List.head?_cons,Option.some.injEq] at e
    have:=congrArg UInt8.toNat e
    simp at this
    omega
  · rw [rl h,head_app (ut _)]
    intro e
    have:=ih (u / 10) (by omega) e
    omega
theorem oA:∀ (k u:Nat),u < 10 ^ (k+1)→nDigits u≤k+1
 | 0,u,h=>by rw [nDigits_small (by simpa using h)]; omega
 | k+1,u,h=>by
  by_cases h2:u < 10
  · rw [nDigits_small h2]; omega
  · rw [nDigits_big h2]
    have:=oA k (u / 10) (by rw [Nat.pow_succ] at h; omega)
    omega
theorem vQ {u:Nat} (h:u≤9223372036854775808):(decDigits u).length≤19:=by
 rw [decDigits_length]
 exact oA 18 u (by have:(10:Nat) ^ 19=10000000000000000000:=by decide
                   omega)
theorem p9:∀ (l:List UInt8) (acc u:Nat),decFrom acc l=some u→u≤18446744073709551615→parseUintM 18446744073709551615 acc l=.ok u
 | [],acc,u,h,_=>by simp only [decFrom,Option.some.injEq] at h; simp [parseUintM,h]
 | c::r,acc,u,h,hu=>by
  simp only [decFrom] at h
  cases hc:digitVal c with
  | none=>simp [hc] at h
  | some d =>
   simp only [hc] at h
   obtain ⟨q1,q2,q3⟩:=digitVal_eq hc
   have h1:=oz r _ u h
   have h3:1≤10 ^ r.length:=Nat.one_le_pow _ _ (by decide)
   have h4:(acc * 10+d) * 1≤(acc * 10+d) * 10 ^ r.length:=Nat.mul_le_mul_left _ h3
   unfold parseUintM
   rw [if_pos ⟨q1,q2⟩,if_neg (by omega),if_neg (by omega), ← q3]
   exact p9 r _ u h hu
theorem sJ {n:Int} (h:n < 0):itoa n=45::decDigits n.natAbs:=by simp [itoa,h]
theorem kJ {n:Int} (h:¬ n < 0):itoa n=decDigits n.toNat:=by simp [itoa,h]
theorem mV (u:Nat):∃ c r,decDigits u=c::r∧48≤c.toNat∧c.toNat≤57:=by
 cases h:decDigits u with
 | nil=>exact absurd h (ut u)
 | cons c r =>
  have hd:=kI u
  rw [h] at hd
  simp only [decFrom] at hd
  cases hc:digitVal c with
  | none=>simp [hc] at hd
  | some d=>obtain ⟨q1,q2,_⟩:=digitVal_eq hc; exact ⟨c,r,rfl,q1,q2⟩
theorem oB {n:Int} (h:inR n=true):parseIntB 64 (itoa n)=.ok n:=by
 obtain ⟨h1,h2⟩:=gL.1 h
 have key:∀ u:Nat,u≤9223372036854775808→parseUintB 64 (decDigits u)=.ok u:=fun u hu=>by
  unfold parseUintB
  rw [if_neg (ut u)]
  exact p9 _ 0 u (kI u) (by omega)
 by_cases hn:n < 0
 · rw [sJ hn,parseIntB_minus,key _ (by omega)]
   unfold signedC
   simp only
   rw [if_neg (by have:(2:Nat) ^ (64 - 1)=9223372036854775808:=by decide
                  omega)]
   congr 1; omega
 · obtain ⟨c,r,e,q1,q2⟩:=mV n.toNat
   have k:=key n.toNat (by omega)
   rw [kJ hn]
   rw [e] at k ⊢
   rw [parseIntB_plain _ _ _ (by omega) (by omega),k]
   unfold signlessC
   simp only
   rw [if_neg (by have:(2:Nat) ^ (64 - 1)=9223372036854775808:=by decide
                  omega)]
   congr 1; omega
def dbl:List UInt8→List UInt8
 | []=>[]
 | c::r=>if c=39 then 39::39::dbl r else c::dbl r
theorem rm:∀ t:List UInt8,(dbl t).length≤2 * t.length
 | []=>by simp [dbl]
 | c::r=>by
  have:=rm r
  unfold dbl
  split<;>simp<;>omega
theorem oC (c:UInt8) (s old:List UInt8) (h:old.isPrefixOf (c::s)=false):index (c::s) old=if index s old = -1 then -1 else index s old+1:=by
 simp only [index,h,beq_iff_eq]
 simp
theorem uu (s old:List UInt8) (h:old.isPrefixOf s=true):index s old=0:=by
 cases s with
 | nil=>cases old with
  | nil=>rfl
  | cons a r=>simp at h
 | cons c s=>simp [index,h]
theorem uv (c:UInt8) (s old:List UInt8) (ho:old≠[]) (h:old.isPrefixOf (c::s)=false):count (c::s) old=count s old:=by
 have hi:=oC c s old h
 by_cases hm:index s old = -1
 · rw [if_pos hm] at hi
   rw [count_miss hi,count_miss hm]
 · rw [if_neg hm] at hi
   have hge:=index_ge s old
   obtain ⟨i,hi'⟩:∃ i:Nat,index s old=i:=⟨(index s old).toNat,by omega⟩
   rw [hi'] at hi
   rw [count_hit (i:=i+1) ho (by rw [hi]; omega),count_hit (i:=i) ho hi']
   rw [show i+1+old.length=(i+old.length)+1 by omega,List.drop_succ_cons]
theorem pO (c:UInt8) (s old new:List UInt8) (h:old.isPrefixOf (c::s)=false):∀ k,k≤count s old→replaceK old new k (c::s)=c::replaceK old new k s
 | 0,_=>rfl
 | k+1,hk=>by
  obtain ⟨i,hi⟩:=index_of_count (s:=s) (old:=old) (by omega)
  have hi2:index (c::s) old=((i+1:Nat):Int):=by
   rw [oC c s old h,hi,if_neg (by omega)]; omega
  rw [replaceK_hit _ _ _ _ _ hi2,replaceK_hit _ _ _ _ _ hi]
  rw [show i+1+old.length=(i+old.length)+1 by omega,List.drop_succ_cons]
  simp
def nL (old new s:List UInt8):List UInt8:=replaceK old new (count s old) s
theorem xw (c:UInt8) (s old new:List UInt8) (ho:old≠[]) (h:old.isPrefixOf (c::s)=false):nL old new (c::s)=c::nL old new s:=by
 unfold nL
 rw [uv c s old ho h]
 exact pO c s old new h _ (Nat.le_refl _)
theorem repA_hit (s old new:List UInt8) (ho:old≠[]) (h:old.isPrefixOf s=true):nL old new s=new++nL old new (s.drop old.length):=by
 unfold nL
 have hi:=uu s old h
 rw [count_hit (i:=0) ho hi,Nat.add_comm,replaceK_hit (i:=0) _ _ _ _ hi]
 simp
theorem repA_nil (old new:List UInt8) (ho:old≠[]):nL old new []=[]:=by
 unfold nL
 have:index [] old = -1:=by cases old with
  | nil=>exact absurd rfl ho
  | cons a r=>rfl
 rw [count_miss this]
 rfl
theorem oD:∀ s:List UInt8,nL [39] [39,39] s=dbl s
 | []=>repA_nil _ _ (by simp)
 | c::r=>by
  by_cases h:c=39
  · subst h
    rw [repA_hit _ _ _ (by simp) (by simp)]
    simp [dbl,oD r]
  · have hp:[39].isPrefixOf (c::r)=false:=by simp [List.isPrefixOf]; exact fun e=>h e.symm
    rw [xw _ _ _ _ (by simp) hp,oD r]
    simp [dbl,h]
theorem pP {s old new:List UInt8} (h:old≠new):replace s old new (-1)=nL old new s:=by
 unfold replace nL replaceNum
 rw [if_neg (by simpa using h),if_pos (.inl (by decide))]
def prV (v:Val):List UInt8 × Int:=if may v=true then (if v.k=1 then itoa v.n else if v.k=2 then 39::(dbl v.s++[39]) else if v.k=3 then (if v.n=1 then [116,114,117,101] else [102,97,108,115,101]) else [110,117,108,108],0) else ([],5)
theorem pr_num (n:Int):prV ⟨1,n,[]⟩=(itoa n,0):=by simp [prV,may]
end Go.WK
namespace Go.WK
open Go.RowKit
def kept:List (List UInt8):=[[97,110,100],[97,115],[98,101,103,105,110],[98,111,111,108],[98,121],[99,111,109,109,105,116],[99,114,101,97,116,101],[100,101,108,101,116,101],[100,101,115,99],[100,105,115,116,105,110,99,116],[100,114,111,112],
 [102,97,108,115,101],[102,114,111,109],[105,110,100,101,120],[105,110,115,101,114,116],[105,110,116],[105,110,116,111],[105,115],[106,111,105,110],[108,105,109,105,116],[110,111,116],[110,117,108,108],
 [111,110],[111,114],[111,114,100,101,114],[114,111,108,108,98,97,99,107],[115,101,108,101,99,116],[115,101,116],[116,97,98,108,101],[116,101,120,116],[116,114,117,101],[117,110,105,113,117,101],[117,112,100,97,116,101],[118,97,108,117,101,115],[119,104,101,114,101]]
def iM (first:Bool) (c:UInt8):Bool:=(decide (97≤c.toNat) && decide (c.toNat≤122)) || (!first && ((decide (48≤c.toNat) && decide (c.toNat≤57)) || decide (c.toNat=95)))
def il (s:List UInt8):Bool:=!decide (s=[]) && (decide (s.length≤24) && (iM true (s.getD 0 0) && (s.drop 1).all (iM false)))
def nameOk (s:List UInt8):Bool:=il s && !decide (s ∈ kept)
def lvl (o:Int):Int:=if o=21 then 1 else if o=20 then 2 else if o=5 then 3 else if o=8∨o=9∨o=13 then 5 else if o=10∨o=11∨o=12 then 6 else if o=4 then 7 else if o=1∨o=2 then 8 else 4
def bareX (e:Ex) (o:Int):Bool:=decide (e=.mk o Val.zero [] [] 0 [])
def arity (o:Int):Nat:=if o=4∨o=5∨o=6∨o=7 then 1 else 2
mutual
def Ex.may:Ex→Bool
 | .mk o v t n c as =>
  if o=1 then bareX (.mk 1 Val.zero t n c as) 1 && (WK.may v && (!decide (v.k=1) || decide (0≤v.n)))
  else if o=2 then (nameOk n && (decide (t=[]) || nameOk t)) && bareX (.mk 2 v [] [] c as) 2
  else if o < 4∨21 < o then false
  else decide (as.length=arity o∧v=Val.zero∧t=[]∧n=[]∧c=0) && Exs.may as
def Exs.may:List Ex→Bool
 | []=>true
 | a::l=>a.may && Exs.may l
end
theorem Exs.may_iff (l:List Ex):Exs.may l=l.all Ex.may:=by
 induction l with
 | nil=>rfl
 | cons a l ih=>simp [Exs.may,ih]
def jE (o:Int):List UInt8 :=
 if o=21 then [111,114] else if o=20 then [97,110,100] else if o=14 then [61] else if o=15 then [60,62] else if o=16 then [60] else if o=17 then [60,61] else if o=18 then [62] else if o=19 then [62,61]
 else if o=8 then [43] else if o=9 then [45] else if o=13 then [124,124] else if o=10 then [42] else if o=11 then [47] else if o=12 then [37] else []
abbrev Txt:=List UInt8 × Nat
def fZ (x:Int × Txt) (low:Int):Txt:=if lvl x.1 < low then (40::(x.2.1++[41]),x.2.2+1) else x.2
def kK (l:List (Int × Txt)) (i:Nat):Int × Txt:=l.getD i (0,[],0)
def coreT (o:Int) (v:Val) (t n:List UInt8) (l:List (Int × Txt)):Txt :=
 if o=1 then ((prV v).1,0)
 else if o=2 then (if t=[] then n else t++(46::n),0)
 else if o=5 then ([110,111,116,32]++(fZ (kK l 0) 3).1,(fZ (kK l 0) 3).2+1)
 else if o=4 then (45::((if (kK l 0).1=4 then [32] else [])++(fZ (kK l 0) 7).1),(fZ (kK l 0) 7).2+1)
 else if o=6 then ((fZ (kK l 0) 5).1++[32,105,115,32,110,117,108,108],(fZ (kK l 0) 5).2)
 else if o=7 then ((fZ (kK l 0) 5).1++[32,105,115,32,110,111,116,32,110,117,108,108],(fZ (kK l 0) 5).2)
 else ((fZ (kK l 0) (if lvl o=4 then 5 else lvl o)).1++((32::(jE o++[32]))++(fZ (kK l 1) (lvl o+1)).1),max (fZ (kK l 0) (if lvl o=4 then 5 else lvl o)).2 (fZ (kK l 1) (lvl o+1)).2)
mutual
def Ex.core:Ex→Txt
 | .mk o v t n _ as=>coreT o v t n (Exs.cores as)
def Exs.cores:List Ex→List (Int × Txt)
 | []=>[]
 | e::es=>(e.o,e.core)::Exs.cores es
end
theorem Exs.cores_map (l:List Ex):Exs.cores l=l.map fun e=>(e.o,e.core):=by
 induction l with
 | nil=>rfl
 | cons a l ih=>simp [Exs.cores,ih]
def Ex.txt (e:Ex) (low:Int):Txt:=fZ (e.o,e.core) low
theorem jF {as:List Ex} {i:Nat} (h:i < as.length) (low:Int):fZ (kK (Exs.cores as) i) low=(as.getD i Ex.zero).txt low:=by
 rw [Exs.cores_map,kK,Ex.txt]
 simp [List.getD,h]
theorem cores_op {as:List Ex} {i:Nat} (h:i < as.length):(kK (Exs.cores as) i).1=(as.getD i Ex.zero).o:=by
 rw [Exs.cores_map,kK]
 simp [List.getD,h]
def prX (e:Ex):List UInt8 × Int:=if e.may=true then (if 24 < (e.txt 1).2 then ([],191) else if 4096 < (e.txt 1).1.length then ([],3) else ((e.txt 1).1,0)) else ([],1)
end Go.WK
namespace Go.WK
open Go.RowKit
mutual
def ExK (bl:List Nat) (w:World):Ex→List Value→Prop
 | .mk o v t n c as,cs=>∃ (A:Option Addr) (k:Nat) (xs:List Value),cs=[.int .i64 o,.int .i64 v.k,.int .i64 v.n,.string (B v.s),.string (B t),.string (B n),.int .i64 c,.slice A as.length k]∧as.length≤k∧Rd w A xs∧(∀ a,A=some a→as≠[]→a.block ∈ bl)∧ExsK bl w as xs
def ExsK (bl:List Nat) (w:World):List Ex→List Value→Prop
 | [],xs=>xs=[]
 | e::es,xs=>∃ y ys,xs=y++ys∧ExK bl w e y∧ExsK bl w es ys
end
mutual
theorem ExK.c {bl:List Nat} {w:World}:∀ (e:Ex) (cs:List Value),ExK bl w e cs→ExC w e cs
 | .mk o v t n c as,cs,h=>by
  obtain ⟨A,k,xs,h1,h2,h3,_,h4⟩:=h
  exact ⟨A,k,xs,h1,h2,h3,ExsK.c as xs h4⟩
theorem ExsK.c {bl:List Nat} {w:World}:∀ (l:List Ex) (xs:List Value),ExsK bl w l xs→ExsC w l xs
 | [],_,h=>h
 | e::es,xs,h=>by
  obtain ⟨y,ys,h1,h2,h3⟩:=h
  exact ⟨y,ys,h1,ExK.c e y h2,ExsK.c es ys h3⟩
end
theorem Rd.same {w w':World} {A:Option Addr} {xs:List Value} (h:Rd w A xs) (hs:∀ a,A=some a→xs≠[]→w'.heap[a.block]? = w.heap[a.block]?):Rd w' A xs:=fun j u hu=>by
 obtain ⟨a,ha,hc⟩:=h j u hu
 have hb:=hs a ha (fun e=>by rw [e] at hu; cases hu)
 refine ⟨a,ha, ?_⟩
 rw [← hc]
 unfold World.cell?
 rw [jx,hb]
mutual
theorem ExK.stab {bl:List Nat} {w w':World} (hs:∀ k,k ∈ bl→w'.heap[k]? = w.heap[k]?):∀ (e:Ex) (cs:List Value),ExK bl w e cs→ExK bl w' e cs
 | .mk o v t n c as,cs,h=>by
  obtain ⟨A,k,xs,h1,h2,h3,h4,h5⟩:=h
  refine ⟨A,k,xs,h1,h2,h3.same (fun a ha hne=>hs _ (h4 a ha (fun e=>hne ?_))),h4,ExsK.stab hs as xs h5⟩
  rw [e] at h5
  exact h5
theorem ExsK.stab {bl:List Nat} {w w':World} (hs:∀ k,k ∈ bl→w'.heap[k]? = w.heap[k]?):∀ (l:List Ex) (xs:List Value),ExsK bl w l xs→ExsK bl w' l xs
 | [],_,h=>h
 | e::es,xs,h=>by
  obtain ⟨y,ys,h1,h2,h3⟩:=h
  exact ⟨y,ys,h1,ExK.stab hs e y h2,ExsK.stab hs es ys h3⟩
end
mutual
theorem ExK.mono {bl bl':List Nat} {w:World} (hs:∀ k,k ∈ bl→k ∈ bl'):∀ (e:Ex) (cs:List Value),ExK bl w e cs→ExK bl' w e cs
 | .mk o v t n c as,cs,h=>by
  obtain ⟨A,k,xs,h1,h2,h3,h4,h5⟩:=h
  exact ⟨A,k,xs,h1,h2,h3,fun a ha hne=>hs _ (h4 a ha hne),ExsK.mono hs as xs h5⟩
theorem ExsK.mono {bl bl':List Nat} {w:World} (hs:∀ k,k ∈ bl→k ∈ bl'):∀ (l:List Ex) (xs:List Value),ExsK bl w l xs→ExsK bl' w l xs
 | [],_,h=>h
 | e::es,xs,h=>by
  obtain ⟨y,ys,h1,h2,h3⟩:=h
  exact ⟨y,ys,h1,ExK.mono hs e y h2,ExsK.mono hs es ys h3⟩
end
def gB (bl:List Nat) (e:Ex) (cs:List Value):Chunk where
 fp k:=k ∈ bl
 holds w:=ExK bl w e cs∧∀ k ∈ bl,k < w.heap.size
 lt w k h hk:=h.2 k hk
 stab w w' h hs:=⟨ExK.stab hs e cs h.1,fun k hk=>by
  have h1:=h.2 k hk
  have h2:=hs k hk
  rcases Nat.lt_or_ge k w'.heap.size with h3 | h3
  · exact h3
  · rw [Array.getElem?_eq_none h3,Array.getElem?_eq_getElem h1] at h2; cases h2⟩
theorem Sat.fuse {cx:Cx} {l H:List Chunk} {w:World} (h:Sat cx (l++H) w) (c:Chunk) (hc:(∀ d ∈ l,d.holds w)→c.holds w) (hf:∀ k,c.fp k→∃ d ∈ l,d.fp k):Sat cx (c::H) w:=by
 have hap:=List.pairwise_append.1 h.apart
 refine ⟨h.chg,fun d hd=>?_,fun d hd k hk=>?_,.cons (fun d hd k hk hdk=>?_) hap.2.1⟩
 · rcases List.mem_cons.1 hd with rfl | hd
   · exact hc fun d hd=>h.holds d (List.mem_append_left _ hd)
   · exact h.holds d (List.mem_append_right _ hd)
 · rcases List.mem_cons.1 hd with rfl | hd
   · obtain ⟨e,he,hk2⟩:=hf k hk
     exact h.fresh e (List.mem_append_left _ he) k hk2
   · exact h.fresh d (List.mem_append_right _ hd) k hk
 · obtain ⟨e,he,hk2⟩:=hf k hk
   exact hap.2.2 e he d hd k hk2 hdk
theorem Sat.leaf {cx:Cx} {H:List Chunk} {w:World} (h:Sat cx H w) (o:Int) (v:Val) (t n:List UInt8) (c:Int):Sat cx (gB [] (.mk o v t n c []) [.int .i64 o,.int .i64 v.k,.int .i64 v.n,.string (B v.s),.string (B t),.string (B n),.int .i64 c,.slice none 0 0]::H) w :=
 h.fuse (l:=[]) _ (fun _=>⟨⟨none,0,[],rfl,Nat.le_refl _,Rd.nil _ _,(fun _ h=>by cases h),rfl⟩,fun k hk=>by cases hk⟩) (fun k hk=>by cases hk)
theorem uw {w:World} {A:Option Addr} {n c e size:Nat} {xs:List Value} (h:(row (.slice A n c) e size n xs).holds w):Rd w A xs:=by
 have hs:Sat ⟨default,0,[],w,A.toList.map (·.block)⟩ [row (.slice A n c) e size n xs] w:=by
  refine ⟨Chg.refl _ _,fun d hd=>by obtain rfl:=List.mem_singleton.1 hd; exact h,fun d hd k hk=>?_,List.pairwise_singleton _ _⟩
  obtain rfl:=List.mem_singleton.1 hd
  right
  have hk:(Value.slice A n c).ownBlock=some k:=hk
  cases A with
  | none=>cases hk
  | some a=>simp [Value.ownBlock] at hk; simp [hk]
 exact (RdS.row Nth.z) w hs
theorem Sat.node2 {cx:Cx} {H:List Chunk} {w:World} {A:Addr} {k tE:Nat} {e f:Ex} {cs ds:List Value} {bl bm:List Nat} (o:Int) (h:Sat cx (row (.slice (some A) 2 k) tE 8 2 (cs++ds)::gB bl e cs::gB bm f ds::H) w) (hk:2≤k) :
  Sat cx (gB (A.block::(bl++bm)) (.mk o Val.zero [] [] 0 [e,f]) [.int .i64 o,.int .i64 0,.int .i64 0,.string (B []),.string (B []),.string (B []),.int .i64 0,.slice (some A) 2 k]::H) w:=by
 refine Sat.fuse (l:=[_,_,_]) h _ (fun hh=>?_) (fun j hj=>?_)
 · have h1:=hh _ List.mem_cons_self
   have h2:=hh _ (List.mem_cons_of_mem _ List.mem_cons_self)
   have h3:=hh _ (List.mem_cons_of_mem _ (List.mem_cons_of_mem _ List.mem_cons_self))
   refine ⟨⟨some A,k,cs++ds,rfl,hk,uw h1,fun a ha _=>by cases ha; exact List.mem_cons_self,cs,ds,rfl,ExK.mono (fun j hj=>List.mem_cons_of_mem _ (List.mem_append_left _ hj)) e cs h2.1,ds,[],by simp,ExK.mono (fun j hj=>List.mem_cons_of_mem _ (List.mem_append_right _ hj)) f ds h3.1,rfl⟩,fun j hj=>?_⟩
   rcases List.mem_cons.1 hj with rfl | hj
   · exact (row (.slice (some A) 2 k) tE 8 2 (cs++ds)).lt w A.block h1 rfl
   · rcases List.mem_append.1 hj with hj | hj
     · exact h2.2 j hj
     · exact h3.2 j hj
 · rcases List.mem_cons.1 hj with rfl | hj
   · exact ⟨_,List.mem_cons_self,rfl⟩
   · rcases List.mem_append.1 hj with hj | hj
     · exact ⟨_,List.mem_cons_of_mem _ List.mem_cons_self,hj⟩
     · exact ⟨_,List.mem_cons_of_mem _ (List.mem_cons_of_mem _ List.mem_cons_self),hj⟩
theorem Sat.node1 {cx:Cx} {H:List Chunk} {w:World} {A:Addr} {k tE:Nat} {e:Ex} {cs:List Value} {bl:List Nat} (o:Int) (h:Sat cx (row (.slice (some A) 1 k) tE 8 1 cs::gB bl e cs::H) w) (hk:1≤k) :
  Sat cx (gB (A.block::bl) (.mk o Val.zero [] [] 0 [e]) [.int .i64 o,.int .i64 0,.int .i64 0,.string (B []),.string (B []),.string (B []),.int .i64 0,.slice (some A) 1 k]::H) w:=by
 refine Sat.fuse (l:=[_,_]) h _ (fun hh=>?_) (fun j hj=>?_)
 · have h1:=hh _ List.mem_cons_self
   have h2:=hh _ (List.mem_cons_of_mem _ List.mem_cons_self)
   refine ⟨⟨some A,k,cs,rfl,hk,uw h1,fun a ha _=>by cases ha; exact List.mem_cons_self,cs,[],by simp,ExK.mono (fun j hj=>List.mem_cons_of_mem _ hj) e cs h2.1,rfl⟩,fun j hj=>?_⟩
   rcases List.mem_cons.1 hj with rfl | hj
   · exact (row (.slice (some A) 1 k) tE 8 1 cs).lt w A.block h1 rfl
   · exact h2.2 j hj
 · rcases List.mem_cons.1 hj with rfl | hj
   · exact ⟨_,List.mem_cons_self,rfl⟩
   · exact ⟨_,List.mem_cons_of_mem _ List.mem_cons_self,hj⟩
end Go.WK
namespace Go.WK
open Go.RowKit
abbrev Flt:=Int × Int
abbrev PX (α:Type):=Except Flt (α × List Tok)
def hd (ts:List Tok):Tok:=ts.getD 0 Tok.zero
def atT (k:Int) (s:List UInt8) (ts:List Tok):Bool:=decide ((hd ts).k=k) && decide ((hd ts).t=s)
def nmT (ts:List Tok):Bool:=decide ((hd ts).k=1) && nameOk (hd ts).t
def Good:List Tok→Prop
 | []=>False
 | t::l=>t.k=5∨Good l
theorem Good.ne {ts:List Tok} (h:Good ts):0 < ts.length:=by cases ts<;>simp_all [Good]
theorem Good.drop {ts:List Tok} (h:Good ts) (hk:(hd ts).k≠5):Good (ts.drop 1):=by
 cases ts with
 | nil=>exact h.elim
 | cons t l=>exact h.resolve_left hk
theorem fE {k:Int} {s:List UInt8} {ts:List Tok} (h:atT k s ts=true):(hd ts).k=k:=by
 simp [atT] at h; exact h.1
theorem Good.next {ts:List Tok} (h:Good ts) {k:Int} {s:List UInt8} (hk:k≠5) (hs:atT k s ts=true):Good (ts.drop 1):=h.drop (by rw [fE hs]; exact hk)
theorem Good.name {ts:List Tok} (h:Good ts) (hs:nmT ts=true):Good (ts.drop 1):=h.drop (by simp [nmT] at hs; rw [hs.1]; decide)
abbrev Opr:=Tok
def orO:List Opr:=[⟨1,[111,114],21⟩]
def andO:List Opr:=[⟨1,[97,110,100],20⟩]
def cmpO:List Opr:=[⟨4,[61],14⟩,⟨4,[60,62],15⟩,⟨4,[60],16⟩,⟨4,[60,61],17⟩,⟨4,[62],18⟩,⟨4,[62,61],19⟩]
def sumO:List Opr:=[⟨4,[43],8⟩,⟨4,[45],9⟩,⟨4,[124,124],13⟩]
def mulO:List Opr:=[⟨4,[42],10⟩,⟨4,[47],11⟩,⟨4,[37],12⟩]
def findO:List Opr→List Tok→Option Int
 | [],_=>none
 | o::l,ts=>if atT o.k o.t ts=true then some o.a else findO l ts
theorem dN {l:List Opr} (hl:∀ o ∈ l,o.k≠5) {ts:List Tok} (h:Good ts) {o:Int} (ho:findO l ts=some o):Good (ts.drop 1):=by
 induction l with
 | nil=>cases ho
 | cons x l ih =>
  unfold findO at ho
  split at ho
  · rename_i hx; exact h.next (hl x List.mem_cons_self) hx
  · exact ih (fun o h=>hl o (List.mem_cons_of_mem _ h)) ho
def bin (o:Int) (e f:Ex):Ex:=.mk o Val.zero [] [] 0 [e,f]
def un (o:Int) (e:Ex):Ex:=.mk o Val.zero [] [] 0 [e]
def cst (v:Val):Ex:=.mk 1 v [] [] 0 []
def iu (one:List Tok→PX Ex) (l:List Opr):Nat→Ex→List Tok→PX Ex
 | 0,e,ts=>.ok (e,ts)
 | f+1,e,ts=>match findO l ts with
  | none=>.ok (e,ts)
  | some o=>match one (ts.drop 1) with
   | .error x=>.error x
   | .ok (g,us)=>iu one l f (bin o e g) us
def ib (one:List Tok→PX Ex) (l:List Opr) (ts:List Tok):PX Ex:=match one ts with
 | .error x=>.error x
 | .ok (e,us)=>iu one l us.length e us
def decZ (l:List UInt8):Int:=match Lib.parseIntB 64 l with | .ok n=>n | _=>0
def eN:List UInt8:=[110,111,116]
def isB:List UInt8:=[105,115]
def dc:List UInt8:=[110,117,108,108]
def lJ:List UInt8:=[116,114,117,101]
def jo:List UInt8:=[102,97,108,115,101]
def oE {α:Type} (ts:List Tok):PX α:=.error (190,(hd ts).a)
def iX (one:List Tok→PX Ex) (e:Ex) (ts:List Tok):PX Ex:=match findO cmpO ts with
 | some o=>(match one (ts.drop 1) with | .error x=>.error x | .ok (g,us)=>.ok (bin o e g,us))
 | none=>if atT 1 isB ts=true then (if atT 1 eN (ts.drop 1)=true then (if atT 1 dc (ts.drop 2)=true then .ok (un 7 e,ts.drop 3) else oE (ts.drop 2)) else (if atT 1 dc (ts.drop 1)=true then .ok (un 6 e,ts.drop 2) else oE (ts.drop 1)))
  else .ok (e,ts)
def bC (ts:List Tok):PX (List UInt8):=if nmT ts=true then .ok ((hd ts).t,ts.drop 1) else oE ts
def j4 (ts:List Tok):PX Ex:=match bC ts with
 | .error x=>.error x
 | .ok (n,us)=>if atT 4 [46] us=true then (match bC (us.drop 1) with | .error x=>.error x | .ok (m,vs)=>.ok (.mk 2 Val.zero n m 0 [],vs)) else .ok (.mk 2 Val.zero [] n 0 [],us)
def lT (r:PX Ex):PX Ex:=match r with
 | .error x=>.error x
 | .ok (e,us)=>if atT 4 [41] us=true then .ok (e,us.drop 1) else oE us
def unP (o:Int) (r:PX Ex):PX Ex:=match r with
 | .error x=>.error x
 | .ok (e,us)=>.ok (un o e,us)
def dy (open_:List Tok→PX Ex) (d:Nat) (ts:List Tok):PX Ex :=
 if (hd ts).k=2 then .ok (cst ⟨1,decZ (hd ts).t,[]⟩,ts.drop 1)
 else if (hd ts).k=3 then .ok (cst ⟨2,0,(hd ts).t⟩,ts.drop 1)
 else if atT 1 dc ts=true then .ok (cst Val.zero,ts.drop 1)
 else if atT 1 lJ ts=true then .ok (cst ⟨3,1,[]⟩,ts.drop 1)
 else if atT 1 jo ts=true then .ok (cst ⟨3,0,[]⟩,ts.drop 1)
 else if atT 4 [40] ts=true then (if 24 < d+1 then .error (191,(hd ts).a) else lT (open_ (ts.drop 1)))
 else j4 ts
def exP:Nat→Nat→Nat→List Tok→PX Ex
 | 0,_,_,_=>.error (0,0)
 | f+1,lv,d,ts =>
  if lv=1 then ib (exP f 2 d) orO ts
  else if lv=2 then ib (exP f 3 d) andO ts
  else if lv=3 then (if atT 1 eN ts=true then (if 24 < d+1 then .error (191,(hd ts).a) else unP 5 (exP f 3 (d+1) (ts.drop 1))) else exP f 4 d ts)
  else if lv=4 then (match exP f 5 d ts with | .error x=>.error x | .ok (e,us)=>iX (exP f 5 d) e us)
  else if lv=5 then ib (exP f 6 d) sumO ts
  else if lv=6 then ib (exP f 7 d) mulO ts
  else if lv=7 then (if atT 4 [45] ts=true then (if 24 < d+1 then .error (191,(hd ts).a) else unP 4 (exP f 7 (d+1) (ts.drop 1))) else exP f 8 d ts)
  else dy (exP f 1 (d+1)) d ts
def Cuts (ts us:List Tok):Prop:=us <:+ ts∧Good us
theorem Cuts.refl {ts:List Tok} (h:Good ts):Cuts ts ts:=⟨List.suffix_refl _,h⟩
theorem Cuts.trans {a b c:List Tok} (h:Cuts a b) (k:Cuts b c):Cuts a c:=⟨k.1.trans h.1,k.2⟩
theorem Cuts.step {ts us:List Tok} (h:Cuts ts us) (hk:(hd us).k≠5):Cuts ts (us.drop 1):=⟨(List.drop_suffix 1 us).trans h.1,h.2.drop hk⟩
def fG (ts:List Tok) (r:PX Ex):Prop:=∀ e us,r=.ok (e,us)→Cuts ts us∧us.length < ts.length
theorem Good.lt {ts:List Tok} (h:Good ts):(ts.drop 1).length < ts.length:=by have:=h.ne; rw [List.length_drop]; omega
theorem dD (l:List Opr) (h:l=orO∨l=andO∨l=cmpO∨l=sumO∨l=mulO):∀ o ∈ l,o.k≠5:=by
 rcases h with rfl | rfl | rfl | rfl | rfl<;>intro o ho<;>simp [orO,andO,cmpO,sumO,mulO] at ho<;>(try rcases ho with rfl | rfl | rfl | rfl | rfl | rfl)<;>(try rcases ho with rfl | rfl | rfl)<;>(try subst ho)<;>decide
theorem oF {one:List Tok→PX Ex} {l:List Opr} (hl:∀ o ∈ l,o.k≠5):∀ (f:Nat) (e:Ex) (ts:List Tok),Good ts→(∀ us,Good us→us.length < ts.length→fG us (one us))→∀ g us,iu one l f e ts=.ok (g,us)→Cuts ts us
 | 0,e,ts,hg,_,g,us,h=>by
  simp only [iu,Except.ok.injEq,Prod.mk.injEq] at h
  rw [← h.2]; exact Cuts.refl hg
 | f+1,e,ts,hg,ho,g,us,h=>by
  unfold iu at h
  cases hf:findO l ts with
  | none =>
   simp only [hf,Except.ok.injEq,Prod.mk.injEq] at h
   rw [← h.2]; exact Cuts.refl hg
  | some o =>
   simp only [hf] at h
   have g1:=dN hl hg hf
   have hlt:=hg.lt
   cases h1:one (ts.drop 1) with
   | error x=>simp only [h1] at h; cases h
   | ok r =>
    obtain ⟨x,vs⟩:=r
    simp only [h1] at h
    obtain ⟨c1,l1⟩:=ho _ g1 hlt x vs h1
    have c0:Cuts ts (ts.drop 1):=⟨List.drop_suffix 1 ts,g1⟩
    exact (c0.trans c1).trans (oF hl f _ vs c1.2 (fun us hu hl'=>ho us hu (by omega)) g us h)
theorem j5 {one:List Tok→PX Ex} {l:List Opr} (hl:∀ o ∈ l,o.k≠5) {ts:List Tok} (hg:Good ts) (ho:∀ us,Good us→us.length≤ts.length→fG us (one us)):fG ts (ib one l ts):=by
 intro g us h
 unfold ib at h
 cases h1:one ts with
 | error x=>simp only [h1] at h; cases h
 | ok r =>
  obtain ⟨x,vs⟩:=r
  simp only [h1] at h
  obtain ⟨c1,l1⟩:=ho ts hg (Nat.le_refl _) x vs h1
  have c2:=oF hl vs.length x vs c1.2 (fun us hu hl'=>ho us hu (by omega)) g us h
  exact ⟨c1.trans c2,Nat.lt_of_le_of_lt c2.1.length_le l1⟩
theorem gS {ts us:List Tok} (hg:Good ts) {n:List UInt8} (h:bC ts=.ok (n,us)):Cuts ts us∧us.length < ts.length∧us=ts.drop 1∧n=(hd ts).t∧nmT ts=true:=by
 unfold bC at h
 split at h
 · rename_i hn
   simp only [Except.ok.injEq,Prod.mk.injEq] at h
   obtain ⟨rfl,rfl⟩:=h
   exact ⟨⟨List.drop_suffix 1 ts,hg.name hn⟩,hg.lt,rfl,rfl,hn⟩
 · cases h
theorem ux {ts:List Tok} (hg:Good ts):fG ts (j4 ts):=by
 intro e us h
 unfold j4 at h
 cases h1:bC ts with
 | error x=>simp only [h1] at h; cases h
 | ok r =>
  obtain ⟨n,vs⟩:=r
  simp only [h1] at h
  obtain ⟨c1,l1,_⟩:=gS hg h1
  split at h
  · rename_i hd
    have c2:=c1.step (by rw [fE hd]; decide)
    have l2:=c1.2.lt
    cases h2:bC (vs.drop 1) with
    | error x=>simp only [h2] at h; cases h
    | ok r =>
     obtain ⟨m,xs⟩:=r
     simp only [h2,Except.ok.injEq,Prod.mk.injEq] at h
     obtain ⟨_,rfl⟩:=h
     obtain ⟨c3,l3,_⟩:=gS c2.2 h2
     exact ⟨c2.trans c3,by omega⟩
  · simp only [Except.ok.injEq,Prod.mk.injEq] at h
    obtain ⟨_,rfl⟩:=h
    exact ⟨c1,l1⟩
theorem qg {o:Int} {r:PX Ex} {ts us:List Tok} (h:fG us r) (hc:Cuts ts us) (hl:us.length≤ts.length):fG ts (unP o r):=by
 intro e vs hr
 cases r with
 | error x=>cases hr
 | ok x =>
  obtain ⟨g,ys⟩:=x
  simp only [unP,Except.ok.injEq,Prod.mk.injEq] at hr
  obtain ⟨_,rfl⟩:=hr
  obtain ⟨c1,l1⟩:=h g ys rfl
  exact ⟨hc.trans c1,by omega⟩
theorem rn {r:PX Ex} {ts us:List Tok} (h:fG us r) (hc:Cuts ts us) (hl:us.length≤ts.length):fG ts (lT r):=by
 intro e vs hr
 cases r with
 | error x=>cases hr
 | ok x =>
  obtain ⟨g,ys⟩:=x
  obtain ⟨c1,l1⟩:=h g ys rfl
  simp only [lT] at hr
  split at hr
  · rename_i hd
    simp only [Except.ok.injEq,Prod.mk.injEq] at hr
    obtain ⟨_,rfl⟩:=hr
    have:=c1.2.lt
    exact ⟨(hc.trans c1).step (by rw [fE hd]; decide),by omega⟩
  · cases hr
theorem uy {one:List Tok→PX Ex} {e:Ex} {ts:List Tok} (hg:Good ts) (ho:∀ us,Good us→us.length≤ts.length→fG us (one us)):∀ g us,iX one e ts=.ok (g,us)→Cuts ts us:=by
 intro g us h
 unfold iX at h
 cases hf:findO cmpO ts with
 | some o =>
  simp only [hf] at h
  have g1:=dN (dD cmpO (by simp)) hg hf
  have hlt:=hg.lt
  cases h1:one (ts.drop 1) with
  | error x=>simp only [h1] at h; cases h
  | ok r =>
   obtain ⟨x,vs⟩:=r
   simp only [h1,Except.ok.injEq,Prod.mk.injEq] at h
   obtain ⟨_,rfl⟩:=h
   have c0:Cuts ts (ts.drop 1):=⟨List.drop_suffix 1 ts,g1⟩
   exact c0.trans (ho _ g1 (by omega) x vs h1).1
 | none =>
  simp only [hf] at h
  split at h
  · rename_i hi
    have c1:=(Cuts.refl hg).step (by rw [fE hi]; decide)
    split at h
    · rename_i hn
      have c2:=c1.step (by rw [fE hn]; decide)
      rw [List.drop_drop] at c2
      split at h
      · rename_i hu
        simp only [Except.ok.injEq,Prod.mk.injEq] at h
        obtain ⟨_,rfl⟩:=h
        have c3:=c2.step (by rw [fE hu]; decide)
        rwa [List.drop_drop] at c3
      · cases h
    · split at h
      · rename_i hu
        simp only [Except.ok.injEq,Prod.mk.injEq] at h
        obtain ⟨_,rfl⟩:=h
        have c3:=c1.step (by rw [fE hu]; decide)
        rwa [List.drop_drop] at c3
      · cases h
  · simp only [Except.ok.injEq,Prod.mk.injEq] at h
    rw [← h.2]; exact Cuts.refl hg
theorem cE:∀ (f lv d:Nat) (ts:List Tok),Good ts→fG ts (exP f lv d ts):=by
 intro f
 induction f with
 | zero=>intro lv d ts _ e us h; cases h
 | succ f ih =>
  intro lv d ts hg
  unfold exP
  split
  · exact j5 (dD _ (by simp)) hg (fun us hu _=>ih _ _ us hu)
  split
  · exact j5 (dD _ (by simp)) hg (fun us hu _=>ih _ _ us hu)
  split
  · split
    · rename_i hn
      split
      · intro e us h; cases h
      · have c1:=(Cuts.refl hg).step (by rw [fE hn]; decide)
        exact qg (ih _ _ _ c1.2) c1 (Nat.le_of_lt hg.lt)
    · exact ih _ _ ts hg
  split
  · intro e us h
    cases h1:exP f 5 d ts with
    | error x=>simp only [h1] at h; cases h
    | ok r =>
     obtain ⟨x,vs⟩:=r
     simp only [h1] at h
     obtain ⟨c1,l1⟩:=ih 5 d ts hg x vs h1
     have c2:=uy c1.2 (fun us hu _=>ih _ _ us hu) e us h
     exact ⟨c1.trans c2,Nat.lt_of_le_of_lt c2.1.length_le l1⟩
  split
  · exact j5 (dD _ (by simp)) hg (fun us hu _=>ih _ _ us hu)
  split
  · exact j5 (dD _ (by simp)) hg (fun us hu _=>ih _ _ us hu)
  split
  · split
    · rename_i hn
      split
      · intro e us h; cases h
      · have c1:=(Cuts.refl hg).step (by rw [fE hn]; decide)
        exact qg (ih _ _ _ c1.2) c1 (Nat.le_of_lt hg.lt)
    · exact ih _ _ ts hg
  · unfold dy
    split
    · rename_i hk
      intro e us h
      simp only [Except.ok.injEq,Prod.mk.injEq] at h
      obtain ⟨_,rfl⟩:=h
      exact ⟨(Cuts.refl hg).step (by rw [hk]; decide),hg.lt⟩
    split
    · rename_i hk
      intro e us h
      simp only [Except.ok.injEq,Prod.mk.injEq] at h
      obtain ⟨_,rfl⟩:=h
      exact ⟨(Cuts.refl hg).step (by rw [hk]; decide),hg.lt⟩
    split
    · rename_i hk
      intro e us h
      simp only [Except.ok.injEq,Prod.mk.injEq] at h
      obtain ⟨_,rfl⟩:=h
      exact ⟨(Cuts.refl hg).step (by rw [fE hk]; decide),hg.lt⟩
    split
    · rename_i hk
      intro e us h
      simp only [Except.ok.injEq,Prod.mk.injEq] at h
      obtain ⟨_,rfl⟩:=h
      exact ⟨(Cuts.refl hg).step (by rw [fE hk]; decide),hg.lt⟩
    split
    · rename_i hk
      intro e us h
      simp only [Except.ok.injEq,Prod.mk.injEq] at h
      obtain ⟨_,rfl⟩:=h
      exact ⟨(Cuts.refl hg).step (by rw [fE hk]; decide),hg.lt⟩
    split
    · rename_i hk
      split
      · intro e us h; cases h
      · have c1:=(Cuts.refl hg).step (by rw [fE hk]; decide)
        exact rn (ih _ _ _ c1.2) c1 (Nat.le_of_lt hg.lt)
    · exact ux hg
end Go.WK
namespace Go.WK
theorem exP1 (f d:Nat) (ts:List Tok):exP (f+1) 1 d ts=ib (exP f 2 d) orO ts:=by rw [exP]; rfl
theorem exP2 (f d:Nat) (ts:List Tok):exP (f+1) 2 d ts=ib (exP f 3 d) andO ts:=by rw [exP]; rfl
theorem exP3 (f d:Nat) (ts:List Tok):exP (f+1) 3 d ts=if atT 1 eN ts=true then (if 24 < d+1 then .error (191,(hd ts).a) else unP 5 (exP f 3 (d+1) (ts.drop 1))) else exP f 4 d ts:=by rw [exP]; rfl
theorem exP4 (f d:Nat) (ts:List Tok):exP (f+1) 4 d ts=match exP f 5 d ts with | .error x=>.error x | .ok (e,us)=>iX (exP f 5 d) e us:=by rw [exP]; rfl
theorem exP5 (f d:Nat) (ts:List Tok):exP (f+1) 5 d ts=ib (exP f 6 d) sumO ts:=by rw [exP]; rfl
theorem exP6 (f d:Nat) (ts:List Tok):exP (f+1) 6 d ts=ib (exP f 7 d) mulO ts:=by rw [exP]; rfl
theorem exP7 (f d:Nat) (ts:List Tok):exP (f+1) 7 d ts=if atT 4 [45] ts=true then (if 24 < d+1 then .error (191,(hd ts).a) else unP 4 (exP f 7 (d+1) (ts.drop 1))) else exP f 8 d ts:=by rw [exP]; rfl
theorem exP8 (f d:Nat) (ts:List Tok):exP (f+1) 8 d ts=dy (exP f 1 (d+1)) d ts:=by rw [exP]; rfl
end Go.WK
namespace Go.WK
open Go.RowKit
def oG (l:Nat) (K:aW→List Chunk→Prop) (Q:co):co:=fun e fs H=>match e with
 | .goto l'=>l'=l∧K fs H
 | e=>Q e fs H
section
variable {cx:Cx} {fs:aW} {H:List Chunk} {Q:co}
theorem xx {c rest:Code} {ι:Type} (l:Nat) (F:ι→aW) (HH:ι→List Chunk) (Pu:ι→Prop) (μ:ι→Nat) (hf:findLabel c l=some rest)
  (first:Tri cx fs H c (oG l (fun fs' H'=>∃ j,Sub fs' (F j)∧(∀ w,Sat cx H' w→Sat cx (HH j) w)∧Pu j) Q))
  (pass:∀ i,Pu i→Tri cx (F i) (HH i) rest (oG l (fun fs' H'=>∃ j,Sub fs' (F j)∧(∀ w,Sat cx H' w→Sat cx (HH j) w)∧Pu j∧μ j < μ i) Q)):Tri cx fs H (.scope c) Q:=by
 intro a w ha hw b k cs
 have hg:gotoIn l (.inScope c::k)=some (.code rest::.inScope c::k):=by simp [gotoIn,hf]
 have key:∀ n i a w,μ i=n→Pu i→Has cx.n cx.ds (F i) a→Sat cx (HH i) w→∃ e a' w',iF cx Q e a' w'∧Arrives cx.P (lone (b.at a (.code rest::.inScope c::k)) cs w) b k cs e a' w':=by
  intro n
  induction n using Nat.strongRecOn with
  | _ n ih =>
   intro i a w hn hp ha hw
   obtain ⟨e,a₁,w₁,⟨fs',H',h1,h2,hq⟩,harr⟩:=pass i hp a w ha hw b (.inScope c::k) cs
   cases e with
   | normal=>exact ⟨.normal,a₁,w₁,⟨fs',H',h1,h2,hq⟩,Steps.trans harr (.one step_inScope)⟩
   | exit id=>exact ⟨.exit id,a₁,w₁,⟨fs',H',h1,h2,hq⟩,fun k' hk=>harr k' (by simp [exitTo,hk])⟩
   | goto l' =>
    obtain ⟨rfl,j,hs,hh,hpj,hlt⟩:=hq
    obtain ⟨e₂,a₂,w₂,hq₂,harr₂⟩:=ih _ (by omega) j a₁ w₁ rfl hpj (h1.sub hs) (hh _ h2)
    exact ⟨e₂,a₂,w₂,hq₂,.of_steps (harr _ hg) harr₂⟩
   | ret=>exact ⟨_,a₁,w₁,⟨fs',H',h1,h2,hq⟩,harr⟩
   | panic ch=>exact ⟨_,a₁,w₁,⟨fs',H',h1,h2,hq⟩,harr⟩
   | outgrown=>exact ⟨_,a₁,w₁,⟨fs',H',h1,h2,hq⟩,harr⟩
 obtain ⟨e,a₁,w₁,⟨fs',H',h1,h2,hq⟩,harr⟩:=first a w ha hw b (.inScope c::k) cs
 cases e with
 | normal=>exact ⟨.normal,a₁,w₁,⟨fs',H',h1,h2,hq⟩,.head step_scope (Steps.trans harr (.one step_inScope))⟩
 | exit id=>exact ⟨.exit id,a₁,w₁,⟨fs',H',h1,h2,hq⟩,fun k' hk=>.head step_scope (harr k' (by simp [exitTo,hk]))⟩
 | goto l' =>
  obtain ⟨rfl,j,hs,hh,hpj⟩:=hq
  obtain ⟨e₂,a₂,w₂,hq₂,harr₂⟩:=key _ j a₁ w₁ rfl hpj (h1.sub hs) (hh _ h2)
  exact ⟨e₂,a₂,w₂,hq₂,.of_steps (.head step_scope (harr _ hg)) harr₂⟩
 | ret=>exact ⟨_,a₁,w₁,⟨fs',H',h1,h2,hq⟩,.of_steps (.one step_scope) harr⟩
 | panic ch=>exact ⟨_,a₁,w₁,⟨fs',H',h1,h2,hq⟩,.of_steps (.one step_scope) harr⟩
 | outgrown=>exact ⟨_,a₁,w₁,⟨fs',H',h1,h2,hq⟩,.of_steps (.one step_scope) harr⟩
theorem uz {x y:Code} {ι:Type} (l:Nat) (F:ι→aW) (HH:ι→List Chunk) (Pu:ι→Prop) (μ:ι→Nat) (hx:findLabel x l=none)
  (first:Tri cx fs H x (kz (fun fs' H'=>∃ j,Sub fs' (F j)∧(∀ w,Sat cx H' w→Sat cx (HH j) w)∧Pu j) (ui Q)))
  (pass:∀ i,Pu i→Tri cx (F i) (HH i) y (oG l (fun fs' H'=>∃ j,Sub fs' (F j)∧(∀ w,Sat cx H' w→Sat cx (HH j) w)∧Pu j∧μ j < μ i) Q)):Tri cx fs H (.scope (.seq x (.seq (.label l) y))) Q:=by
 refine xx l F HH Pu μ (rest:=.seq .skip y) (by simp [findLabel,hx]) ?_ (fun i hp=>ae (ao (ag (pass i hp))))
 refine ae (first.mono fun e fs1 H1 h=>?_)
 cases e with
 | normal =>
  obtain ⟨j,h1,h2,h3⟩:=h
  refine ae (pU (ag (Tri.sub h1 (Tri.heap h2 ((pass j h3).mono fun e fs2 H2 h=>?_)))))
  cases e with
  | goto l'=>exact ⟨h.1,let ⟨j2,a,b,c,_⟩:=h.2; ⟨j2,a,b,c⟩⟩
  | _=>exact h
 | goto l'=>exact h.elim
 | _=>exact h
theorem sK {l:Nat} {K:aW→List Chunk→Prop} (h:K fs H):oG l K Q (.goto l) fs H:=⟨rfl,h⟩
theorem uA {l:Nat} {K:aW→List Chunk→Prop} (h:Q .ret fs H):oG l K Q .ret fs H:=h
end
def dz {J:Type} (w:World) (lent:List Nat) (val:J→Value) (D':J→List Chunk) (Pu:J→Prop) (F:List PanicEntry→Prop) (e:Ending) (w':World):Prop:=Turn w lent val D' Pu e w'∨∃ ch,F ch∧e=.panicked ch∧Chg lent w w'
theorem aK {J:Type} {P:Program} {n:Nat} {w:World} {lent:List Nat} {H:List Chunk} {val:J→Value} {D':J→List Chunk} {Pu:J→Prop} {F:List PanicEntry→Prop} {v:Value} (j:J) (hv:v=val j) (hp:Pu j) (hH:∀ w',Sat ⟨P,n,[],w,lent⟩ H w'→Sat ⟨P,n,[],w,lent⟩ (D' j) w') :
  ∀ w',Sat ⟨P,n,[],w,lent⟩ H w'→dz w lent val D' Pu F (.returned v) w':=fun w' h=>.inl (bz j hv hp hH w' h)
theorem aA {J:Type} {P:Program} {n:Nat} {w:World} {lent:List Nat} {H:List Chunk} {val:J→Value} {D':J→List Chunk} {Pu:J→Prop} {F:List PanicEntry→Prop} {ch:List PanicEntry} (hF:F ch) :
  ∀ w',Sat ⟨P,n,[],w,lent⟩ H w'→dz w lent val D' Pu F (.panicked ch) w':=fun _ h=>.inr ⟨ch,hF,rfl,h.chg⟩
section ops
variable {cx:Cx} {fs:aW} {H:List Chunk} {Q:co} {ops:Array Oper} {rest:List Oper} {g:Option (Nat × Bool)} {d:Nat} {ty:TypeId} {pos:String} {af:Array Edge}
theorem sL {J:Type} {f:Operand} {xs:List Operand} {ats:Array TypeId} {fid:FuncId} {first cap:List Value} {vs:List Value} (val:J→Value) (HH:J→List Chunk) (Pu:J→Prop) (F:List PanicEntry→Prop) (HP:List Chunk) (hok:okS cx.n ops fs d g=true)
  (hf:ev fs f=some (.func (.func fid) first.toArray cap.toArray)) (hxs:evs fs xs=some vs) (hcf:∀ args w,(callFunc fid args).run cx.P w=.ok (.enter fid args) w)
  (hc:∀ w,Sat cx H w→Calls cx.P fid (first++vs++cap).toArray w fun e w'=>(∃ j,Pu j∧e=.returned (val j)∧Sat cx (HH j) w')∨∃ ch,F ch∧e=.panicked ch∧Sat cx HP w')
  (hp:∀ ch,F ch→Q (.panic ch) fs HP)
  (k:∀ j,Pu j→TriX false cx ops ((d,val j)::fs) (HH j) rest Q):TriX false cx ops fs H (⟨some d,.call ⟨.value f,xs.toArray,ats⟩,ty,pos,af,g⟩::rest) Q:=by
 intro a w ha hs
 unfold wpList
 rw [if_pos (cW ha (ee hok) _ rfl)]
 left
 have hrun:(execOp a.eval ⟨some d,.call ⟨.value f,xs.toArray,ats⟩,ty,pos,af,g⟩).run cx.P w=.ok (.enter fid (first++vs++cap).toArray) w:=by
  simp only [execOp,resolve,ha.eval hf,Deferred.ofValue,pure_bind,invoke]
  rw [show (first.toArray++Array.map a.eval xs.toArray++cap.toArray)=(first++vs++cap).toArray by simp [ha.evals hxs]]
  exact hcf _ _
 unfold Oper.wp
 rw [hrun,Oper.upon_enter]
 refine (hc w hs).mono fun e w' h=>?_
 rcases h with ⟨j,hpu,he,hs'⟩ | ⟨ch,hF,he,hs'⟩
 · subst he
   exact k j hpu _ _ (ha.put (hM hok) _) hs'
 · subst he
   exact ⟨fs,HP,ha,hs',hp ch hF⟩
theorem df {J:Type} {f:Operand} {xs:List Operand} {ats:Array TypeId} {fid:FuncId} {first cap:List Value} {vs:List Value} {val:J→Value} {D':J→List Chunk} {Pu:J→Prop} {F:List PanicEntry→Prop} (H1 D H2:List Chunk) (lent:List Nat) (hH:H=H1++(D++H2)) (hok:okS cx.n ops fs d g=true)
  (hf:ev fs f=some (.func (.func fid) first.toArray cap.toArray)) (hxs:evs fs xs=some vs) (hcf:∀ args w,(callFunc fid args).run cx.P w=.ok (.enter fid args) w)
  (hl1:∀ c ∈ D,∀ k,c.fp k→k ∈ lent) (hl2:∀ k ∈ lent, ∃ c ∈ D,c.fp k)
  (hc:∀ w,Sat cx H w→Sat ⟨default,0,[],w,lent⟩ D w→Calls cx.P fid (first++vs++cap).toArray w (dz w lent val D' Pu F))
  (hp:∀ ch,F ch→Q (.panic ch) fs (H1++H2))
  (k:∀ j,Pu j→TriX false cx ops ((d,val j)::fs) (H1++(D' j++H2)) rest Q):TriX false cx ops fs H (⟨some d,.call ⟨.value f,xs.toArray,ats⟩,ty,pos,af,g⟩::rest) Q:=by
 subst hH
 have hpm:(H1++(D++H2)).Perm (D++(H1++H2)):=by
  rw [← List.append_assoc, ← List.append_assoc]
  exact (List.perm_append_comm).append_right H2
 refine sL val (fun j=>H1++(D' j++H2)) Pu F (H1++H2) hok hf hxs hcf (fun w hw=>?_) hp k
 have hw1:=hw.perm hpm
 refine (hc w hw (hw1.lend hl1)).mono fun e w' h=>?_
 rcases h with ⟨j,hpu,he,hs⟩ | ⟨ch,hF,he,hs⟩
 · refine .inl ⟨j,hpu,he, ?_⟩
   refine (hw1.frame hl2 hs).perm ?_
   rw [← List.append_assoc, ← List.append_assoc]
   exact (List.perm_append_comm).append_right H2
 · refine .inr ⟨ch,hF,he, ?_⟩
   have h0:Sat ⟨default,0,[],w,lent⟩ [] w':=⟨hs,by simp,by simp,.nil⟩
   exact hw1.frame hl2 h0
theorem vT {x:Operand} {t:TypeId} {v:Value} {dd:Option Nat} (hok:okW ops fs g=true) (hx:ev fs x=some (.iface t v)) (h:Q (.panic [{ v:=.iface t v,recovered:=false }]) fs H):TriX false cx ops fs H (⟨dd,.panic x,ty,pos,af,g⟩::rest) Q:=by
 intro a w ha hs
 unfold wpList
 rw [if_pos (cW ha (n9 hok) _ rfl)]
 left
 unfold Oper.wp
 have hrun:(execOp a.eval ⟨dd,.panic x,ty,pos,af,g⟩).run cx.P w=.halt (.panic (.iface t v)) w:=by
  simp [execOp,ha.eval hx,run_panic_iface]
 rw [hrun]
 unfold Oper.upon
 exact ⟨fs,H,ha,hs,h⟩
end ops
end Go.WK
namespace Go.WK
open Go.RowKit
theorem Sat.sel {cx:Cx} {H:List Chunk} {w:World} (h:Sat cx H w) (l:List Nat) (hl:l.Nodup):Sat cx (l.filterMap fun i=>H[i]?) w:=by
 have hp:=List.pairwise_iff_getElem.1 h.apart
 refine ⟨h.chg,fun c hc=>?_,fun c hc=>?_, ?_⟩
 · obtain ⟨i,_,hi⟩:=List.mem_filterMap.1 hc
   exact h.holds c (List.mem_of_getElem? hi)
 · obtain ⟨i,_,hi⟩:=List.mem_filterMap.1 hc
   exact h.fresh c (List.mem_of_getElem? hi)
 · rw [List.pairwise_filterMap]
   refine hl.imp fun {i j} hne c hc d hd k hk hdk=>?_
   obtain ⟨hi,rfl⟩:=List.getElem?_eq_some_iff.1 hc
   obtain ⟨hj,rfl⟩:=List.getElem?_eq_some_iff.1 hd
   rcases Nat.lt_or_gt_of_ne hne with h1 | h1
   · exact hp i j hi hj h1 k hk hdk
   · exact hp j i hj hi h1 k hdk hk
section ops
variable {cx:Cx} {fs:aW} {H:List Chunk} {Q:co} {ops:Array Oper} {rest:List Oper} {g:Option (Nat × Bool)} {d:Nat} {ty:TypeId} {pos:String} {af:Array Edge}
theorem aB {J:Type} {f:Operand} {xs:List Operand} {ats:Array TypeId} {fid:FuncId} {first cap:List Value} {vs:List Value} {val:J→Value} {c:Chunk} {c':J→Chunk} {X:J→List Chunk} {Pu:J→Prop} {F:List PanicEntry→Prop} {i:Nat} (lent:List Nat) (hn:Nth H i c) (hok:okS cx.n ops fs d g=true)
  (hf:ev fs f=some (.func (.func fid) first.toArray cap.toArray)) (hxs:evs fs xs=some vs) (hcf:∀ args w,(callFunc fid args).run cx.P w=.ok (.enter fid args) w)
  (hl1:∀ c' ∈ [c],∀ k,c'.fp k→k ∈ lent) (hl2:∀ k ∈ lent, ∃ c' ∈ [c],c'.fp k)
  (hc:∀ w,Sat cx H w→Sat ⟨default,0,[],w,lent⟩ [c] w→Calls cx.P fid (first++vs++cap).toArray w (dz w lent val (fun j=>c' j::X j) Pu F))
  (hp:∀ ch,F ch→Q (.panic ch) fs [])
  (k:∀ j,Pu j→TriX false cx ops ((d,val j)::fs) (X j++iE H i (c' j)) rest Q):TriX false cx ops fs H (⟨some d,.call ⟨.value f,xs.toArray,ats⟩,ty,pos,af,g⟩::rest) Q:=by
 have hs:∀ c2:Chunk, ∃ H1 H2,H=H1++([c]++H2)∧iE H i c2=H1++([c2]++H2):=fun c2=>by
  obtain ⟨H1,H2,h1,h2⟩:=hn.split c2
  exact ⟨H1,H2,by simpa using h1,by simpa using h2⟩
 refine sL val (fun j=>X j++iE H i (c' j)) Pu F [] hok hf hxs hcf (fun w hw=>?_) hp k
 obtain ⟨H1,H2,e1,_⟩:=hs c
 have hpm:H.Perm ([c]++(H1++H2)):=by
  rw [e1]
  exact List.perm_middle
 have hw1:=hw.perm hpm
 refine (hc w hw (hw1.lend hl1)).mono fun e w' h=>?_
 rcases h with ⟨j,hpu,he,hq⟩ | ⟨ch,hF,he,hq⟩
 · refine .inl ⟨j,hpu,he, ?_⟩
   obtain ⟨G1,G2,f1,f2⟩:=hs (c' j)
   have hpm2:H.Perm ([c]++(G1++G2)):=by
    rw [f1]; exact List.perm_middle
   have h3:=(hw.perm hpm2).frame hl2 hq
   rw [f2]
   refine h3.perm ?_
   show (c' j::(X j++(G1++G2))).Perm (X j++(G1++(c' j::G2)))
   have e2:X j++(G1++(c' j::G2))=(X j++G1)++(c' j::G2):=by simp
   rw [e2, ← List.append_assoc]
   exact List.perm_middle.symm
 · refine .inr ⟨ch,hF,he, ?_⟩
   have h0:Sat ⟨default,0,[],w,lent⟩ [] w':=⟨hq,by simp,by simp,.nil⟩
   exact (hw1.frame hl2 h0).sublist (List.nil_sublist _)
structure XC (cs:List Value):Prop where
 len:cs.length=8
 one:allOne cs=true
theorem ExC.xc {w:World} {e:Ex} {cs:List Value} (h:ExC w e cs):XC cs:=by
 cases e with
 | mk o v t n c as=>obtain ⟨A,k,xs,rfl,_⟩:=h; exact ⟨rfl,rfl⟩
theorem sM (cs vs:List Value) (h:cs.length=vs.length):hY cs 0 vs=vs:=by
 rw [lj vs cs 0 (by omega)]; simp [h]
theorem ej {m:Bool} {x:Operand} {t bt b i:Nat} {cs:List Value} (hc:XC cs) (ht:cF cx.P t=some true) (hz:szB cx.P t=some 8) (hn:Nth H i (box b bt cs)) (hok:okS cx.n ops fs d g=true) (hx:ev fs x=some (.pointer (some ⟨b,0,none⟩)))
  (k:TriX m cx ops ((d,.agg cs.toArray)::fs) H rest Q):TriX m cx ops fs H (⟨some d,.load t x,ty,pos,af,g⟩::rest) Q :=
 aS ht hz hn hok hx (vs:=cs) (by rw [List.drop_zero]; exact List.take_of_length_le (Nat.le_of_eq hc.len)) hc.len k
theorem bK {x y:Operand} {t bt b i:Nat} {us cs:List Value} (hu:us.length=8) (hc:XC cs) (hz:szB cx.P t=some 8) (hn:Nth H i (box b bt us)) (hok:okW ops fs g=true) (hx:ev fs x=some (.pointer (some ⟨b,0,none⟩))) (hy:ev fs y=some (.agg cs.toArray))
  (k:TriX false cx ops fs (iE H i (box b bt cs)) rest Q):TriX false cx ops fs H (⟨none,.store t x y,ty,pos,af,g⟩::rest) Q :=
 aC hz hn hok hx hy (vs:=cs) rfl hc.len (by omega) hc.one (by rw [sM us cs (by rw [hu,hc.len])]; exact k)
theorem gT {m:Bool} {x:Operand} {t e z s:Nat} {a:Addr} (ht:cx.P.underlying t=some (.array z e)) (hs:szB cx.P e=some s) (hok:okS cx.n ops fs d g=true) (hx:ev fs x=some (.pointer (some a))) (k:TriX m cx ops ((d,.slice (some a) z z)::fs) H rest Q) :
  TriX m cx ops fs H (⟨some d,.slice t x none none none,ty,pos,af,g⟩::rest) Q :=
 bd _ hok (fun ac w ha _=>by
  have h1:cx.P.arrayLen t=z:=by simp [Program.arrayLen,ht]
  have h2:cx.P.elem t=e:=by simp [Program.elem,ht]
  have h3:=run_sliceAt_array_all (P:=cx.P) w t a (by rw [ht,h1,h2])
  rw [h1,h2,dq hs] at h3
  simp only [execOp,ha.eval hx,Option.map_none,Sem.run_bind,h3,Result.andThen_ok]
  have h4:slicedAt a 0 z z s=.slice (some a) z z:=by
   unfold slicedAt
   split<;>simp [Addr.add]
  rw [h4]
  rfl) k
end ops
def dl (x:Flt):List PanicEntry:=[{ v:=.iface 92 (.agg #[.int .i64 x.1,.int .i64 x.2]),recovered:=false }]
def numTok (t:Tok):Prop:=t.k=2→Lib.parseIntB 64 t.t=.ok (decZ t.t)
structure TokOk (t:Tok):Prop where
 len:t.t.length≤4096
 num:numTok t
abbrev pSl (a:Addr) (k0:Nat) (T ts:List Tok):Value:=.slice (some (a.add ((T.length - ts.length) * 3))) ts.length (k0 - (T.length - ts.length))
abbrev pC (pb:Nat) (a:Addr) (k0:Nat) (T ts:List Tok) (d:Nat):Chunk:=box pb 96 [pSl a k0 T ts,.int .i64 (d:Int)]
structure PEnv (w:World) (pb:Nat) (a:Addr) (k0:Nat) (T:List Tok):Prop where
 rd:Rd w (some a) (toksV T)
 ne:a.block≠pb
 len:T.length≤k0
 bnd:T.length≤5000
 ok:∀ t ∈ T,TokOk t
structure At (w:World) (pb:Nat) (a:Addr) (k0:Nat) (T ts:List Tok) (d:Nat):Prop where
 env:PEnv w pb a k0 T
 suf:ts <:+ T
 good:Good ts
 dep:d≤24
 sat:Sat ⟨default,0,[],w,[pb]⟩ [pC pb a k0 T ts d] w
theorem PEnv.chg {w w':World} {pb:Nat} {a:Addr} {k0:Nat} {T:List Tok} (h:PEnv w pb a k0 T) (hc:Chg [pb] w w'):PEnv w' pb a k0 T :=
 ⟨h.rd.chg hc (fun a' ha=>by cases ha; simpa using h.ne),h.ne,h.len,h.bnd,h.ok⟩
theorem oH {ts T:List Tok} (h:ts <:+ T):T.drop (T.length - ts.length)=ts:=by
 obtain ⟨l,rfl⟩:=h
 simp
theorem PEnv.rds {w:World} {pb:Nat} {a:Addr} {k0:Nat} {T:List Tok} (h:PEnv w pb a k0 T) (us:List Tok) (hu:us <:+ T) (cx:Cx) (H:List Chunk) (e1:cx.w0=w) (e2:cx.lent=[pb]):RdS cx H (some (a.add ((T.length - us.length) * 3))) (toksV us):=by
 refine RdS.lent ?_ (fun a' ha=>?_)
 · rw [e1]
   intro j u hj
   obtain ⟨a1,ha,hc⟩:=h.rd ((T.length - us.length) * 3+j) u (by rw [← List.getElem?_drop,jZ,oH hu]; exact hj)
   cases ha
   exact ⟨_,rfl,by rw [ja]; exact hc⟩
 · cases ha
   rw [e2,jx]; simpa using h.ne
theorem oI {ts T:List Tok} (a:Addr) (k0:Nat) (h:ts <:+ T) (hk:T.length≤k0) (hl:1 < ts.length) :
  Value.slice (cutA (some (a.add ((T.length - ts.length) * 3))) (k0 - (T.length - ts.length)) 1 3) (ts.length - 1) (k0 - (T.length - ts.length) - 1)=pSl a k0 T (ts.drop 1):=by
 have h1:=h.length_le
 unfold cutA
 have h2:(ts.drop 1).length=ts.length - 1:=List.length_drop
 rw [if_neg (by omega),Option.map_some,ja]
 unfold pSl
 rw [h2,show (T.length - ts.length) * 3+1 * 3=(T.length - (ts.length - 1)) * 3 by omega,show k0 - (T.length - ts.length) - 1=k0 - (T.length - (ts.length - 1)) by omega]
theorem hd_k {ts:List Tok} (h:Good ts):(toksV ts)[0]? = some (.int .i64 (hd ts).k):=by cases ts with | nil=>exact h.elim | cons t l=>rfl
theorem hd_t {ts:List Tok} (h:Good ts):(toksV ts)[1]? = some (.string (B (hd ts).t)):=by cases ts with | nil=>exact h.elim | cons t l=>rfl
theorem hd_a {ts:List Tok} (h:Good ts):(toksV ts)[2]? = some (.int .i64 (hd ts).a):=by cases ts with | nil=>exact h.elim | cons t l=>rfl
theorem ep {w:World} {pb:Nat} {a:Addr} {k0:Nat} {T ts:List Tok} (h:PEnv w pb a k0 T) (hs:ts <:+ T) (hg:Good ts):TokOk (hd ts):=by
 refine h.ok _ (hs.subset ?_)
 cases ts with
 | nil=>exact hg.elim
 | cons t l=>exact List.mem_cons_self
structure XR where
 e:Ex
 us:List Tok
 bl:List Nat
 cs:List Value
def XT (w:World) (pb:Nat) (a:Addr) (k0:Nat) (T:List Tok) (d:Nat) (r:PX Ex):Ending→World→Prop :=
 dz w [pb] (fun j:XR=>.agg j.cs.toArray) (fun j=>[pC pb a k0 T j.us d,gB j.bl j.e j.cs]) (fun j=>r=.ok (j.e,j.us)∧XC j.cs) (fun ch=>∃ x,r=.error x∧ch=dl x)
def XSp (P:Program) (f lv fid:Nat):Prop:=∀ (pb:Nat) (a:Addr) (k0:Nat) (T ts:List Tok) (d:Nat) (w:World),At w pb a k0 T ts d→8 * ts.length+(9 - lv)≤f→Calls P fid #[.pointer (some ⟨pb,0,none⟩)] w (XT w pb a k0 T d (exP f lv d ts))
def XSc (P:Program) (f lv fid:Nat):Prop:=∀ (b1 pb:Nat) (a:Addr) (k0:Nat) (T ts:List Tok) (d:Nat) (w:World),At w pb a k0 T ts d→Rd w (some ⟨b1,0,none⟩) [.pointer (some ⟨pb,0,none⟩)]→b1≠pb→8 * ts.length+(9 - lv)≤f→Calls P fid #[.pointer (some ⟨b1,0,none⟩)] w (XT w pb a k0 T d (exP f lv d ts))
end Go.WK
namespace Go.WK
open Go.RowKit
def nmL:Bool→List UInt8→Bool
 | _,[]=>true
 | f,c::l=>iM f c && nmL false l
theorem xy (l:List UInt8):nmL false l=l.all (iM false):=by
 induction l with
 | nil=>rfl
 | cons c l ih=>simp [nmL,ih]
theorem nameR_eq (s:List UInt8):il s=(!(decide (s=[]) || decide (24 < s.length)) && nmL true s):=by
 unfold il
 cases s with
 | nil=>rfl
 | cons c l =>
  have e:decide ((c::l).length≤24) = !decide (24 < (c::l).length):=by
   rw [← decide_not]; exact decide_eq_decide.2 (by omega)
  rw [e]
  simp [nmL,xy]
theorem oJ {s:List UInt8} {i:Nat} (f:Bool) (h:i < s.length):nmL f (s.drop i)=(iM f (s.getD i 0) && nmL false (s.drop (i+1))):=by
 rw [cg h]; rfl
theorem nm_yes {c:UInt8} (f:Bool) (h:(decide ((97:Int)≤(c.toNat:Int)) && decide ((c.toNat:Int)≤122))=true):iM f c=true:=by
 simp only [Bool.and_eq_true,decide_eq_true_eq] at h
 unfold iM
 rw [decide_eq_true (show 97≤c.toNat by omega),decide_eq_true (show c.toNat≤122 by omega)]; rfl
theorem vU {c:UInt8} {i:Nat} {b:Bool} (h:(decide ((97:Int)≤(c.toNat:Int)) && decide ((c.toNat:Int)≤122))=false) (h2:(decide ((0:Int) < (i:Int)) && ((decide ((48:Int)≤(c.toNat:Int)) && decide ((c.toNat:Int)≤57)) || decide ((c.toNat:Int)=95)))=b):iM (decide (i=0)) c=b:=by
 unfold iM
 have e1:(decide (97≤c.toNat) && decide (c.toNat≤122))=false:=by
  rw [← h]; congr 1<;>exact decide_eq_decide.2 (by omega)
 rw [e1, ← h2,Bool.false_or]
 congr 1
 · rw [← decide_not]; exact decide_eq_decide.2 (by omega)
 · congr 1
   · congr 1<;>exact decide_eq_decide.2 (by omega)
   · exact decide_eq_decide.2 (by omega)
theorem cB {b:Bool} (h:b=false):¬ (b=true):=by rw [h]; decide
theorem cJ {b:Bool} (h:(!b)=true):b=false:=by cases b<;>simp_all
theorem cp {b:Bool} (h:(!b)=false):b=true:=by cases b<;>simp_all
theorem at_no {k:Int} {t:List UInt8} {ts:List Tok} (h:(decide ((hd ts).k≠k) || decide ((hd ts).t≠t))=true):atT k t ts=false:=by
 unfold atT
 simp only [Bool.or_eq_true,decide_eq_true_eq] at h
 rcases h with h | h<;>simp [h]
theorem at_yes {k:Int} {t:List UInt8} {ts:List Tok} (h:(decide ((hd ts).k≠k) || decide ((hd ts).t≠t))=false):atT k t ts=true:=by
 unfold atT
 simp only [Bool.or_eq_false_iff,decide_eq_false_iff_not,Decidable.not_not] at h
 simp [h]
theorem At.sub {w w1:World} {pb:Nat} {a:Addr} {k0:Nat} {T ts us:List Tok} {d d':Nat} (h:At w pb a k0 T ts d) (hc:Chg [pb] w w1) (hu:Cuts ts us) (hd':d'≤24) (hs:Sat ⟨default,0,[],w1,[pb]⟩ [pC pb a k0 T us d'] w1):At w1 pb a k0 T us d' :=
 ⟨h.env.chg hc,hu.1.trans h.suf,hu.2,hd',hs⟩
theorem qh {one:List Tok→PX Ex} {l:List Opr} (hl:∀ o ∈ l,o.k≠5) (ho:∀ us,Good us→fG us (one us)):∀ (m n:Nat) (e:Ex) (ts:List Tok),Good ts→ts.length≤m→ts.length≤n→iu one l m e ts=iu one l n e ts
 | 0,n,e,ts,hg,h1,_=>by have:=hg.ne; omega
 | m+1,0,e,ts,hg,_,h2=>by have:=hg.ne; omega
 | m+1,n+1,e,ts,hg,h1,h2=>by
  unfold iu
  cases hf:findO l ts with
  | none=>rfl
  | some o =>
   simp only
   have g1:=dN hl hg hf
   have hlt:=hg.lt
   cases h3:one (ts.drop 1) with
   | error x=>rfl
   | ok r =>
    obtain ⟨g,us⟩:=r
    obtain ⟨c1,l1⟩:=ho _ g1 g us h3
    exact qh hl ho m n _ us c1.2 (by omega) (by omega)
theorem mW {one:List Tok→PX Ex} {l:List Opr} {e:Ex} {ts:List Tok} (hf:findO l ts=none):iu one l ts.length e ts=.ok (e,ts):=by
 cases h:ts.length with
 | zero=>rfl
 | succ n=>simp [iu,hf]
theorem sN {one:List Tok→PX Ex} {l:List Opr} {e:Ex} {ts:List Tok} {o:Int} {x:Flt} (hg:Good ts) (hf:findO l ts=some o) (h:one (ts.drop 1)=.error x):iu one l ts.length e ts=.error x:=by
 have:=hg.ne
 cases hn:ts.length with
 | zero=>omega
 | succ n=>simp only [iu,hf,h]
theorem qi {one:List Tok→PX Ex} {l:List Opr} (hl:∀ o ∈ l,o.k≠5) (ho:∀ us,Good us→fG us (one us)) {e g:Ex} {ts us:List Tok} {o:Int} (hg:Good ts) (hf:findO l ts=some o) (h:one (ts.drop 1)=.ok (g,us)):iu one l ts.length e ts=iu one l us.length (bin o e g) us:=by
 have hp:=hg.ne
 have hlt:=hg.lt
 obtain ⟨c1,l1⟩:=ho _ (dN hl hg hf) g us h
 cases hn:ts.length with
 | zero=>omega
 | succ n =>
  simp only [iu,hf,h]
  exact qh hl ho n us.length _ us c1.2 (by omega) (Nat.le_refl _)
theorem qj {l:List Opr} {ts:List Tok} {i:Nat} (hi:i < l.length) (h:findO l ts=findO (l.drop i) ts) (ha:atT (l.getD i Tok.zero).k (l.getD i Tok.zero).t ts=true):findO l ts=some (l.getD i Tok.zero).a:=by
 rw [h,List.drop_eq_getElem_cons hi]
 have e:l[i]=l.getD i Tok.zero:=by simp [List.getD,hi]
 unfold findO
 rw [e,if_pos ha]
theorem oK {l:List Opr} {ts:List Tok} {i:Nat} (hi:i < l.length) (h:findO l ts=findO (l.drop i) ts) (ha:atT (l.getD i Tok.zero).k (l.getD i Tok.zero).t ts=false):findO l ts=findO (l.drop (i+1)) ts:=by
 rw [h,List.drop_eq_getElem_cons hi]
 have e:l[i]=l.getD i Tok.zero:=by simp [List.getD,hi]
 conv=>lhs; unfold findO
 rw [e,if_neg (by rw [ha]; decide)]
theorem qk {l:List Opr} {ts:List Tok} {i:Nat} (hi:¬ i < l.length) (h:findO l ts=findO (l.drop i) ts):findO l ts=none:=by
 rw [h,List.drop_eq_nil_of_le (by omega)]; rfl
end Go.WK
namespace Go.WK
open Go.RowKit
section ops
variable {cx:Cx} {fs:aW} {H:List Chunk} {Q:co} {ops:Array Oper} {rest:List Oper} {g:Option (Nat × Bool)} {d:Nat} {ty:TypeId} {pos:String} {af:Array Edge}
theorem vV {x y:Operand} {t e:TypeId} {z:Value} {cs ds:List Value} (hc:XC cs) (hd:XC ds) (ht:cx.P.underlying t=some (.slice e)) (hi:(cx.P.info? e).map (fun i=>(i.zero,i.size))=some (some z,8)) (hok:okS cx.n ops fs d g=true) (hx:ev fs x=some (.agg cs.toArray)) (hy:ev fs y=some (.agg ds.toArray))
  (k:∀ b,TriX false cx ops ((d,.slice (some ⟨b,0,none⟩) 2 2)::fs) (row (.slice (some ⟨b,0,none⟩) 2 2) e 8 2 (cs++ds)::H) rest Q):TriX false cx ops fs H (⟨some d,.buildSlice t 2 #[(0,x),(1,y)],ty,pos,af,g⟩::rest) Q :=
 gA (parts:=[(0,x),(1,y)]) (pv:=[(0,.agg cs.toArray),(1,.agg ds.toArray)]) (cs++ds) ht hi hok (by simp [evp,hx,hy]) (by simp [jX,Value.cells,hc.len,hd.len]) (by simp [hc.len,hd.len]) (by decide) (by decide) k
end ops
end Go.WK
namespace Go.WK
open Go.RowKit
theorem Sat.neB {cx:Cx} {H:List Chunk} {w:World} (h:Sat cx H w) {i j:Nat} {c e:Chunk} (hi:Nth H i c) (hj:Nth H j e) (hne:i≠j) {g:Nat} (hc:c.fp g):¬ e.fp g:=fun he=>by
 have h1:∀ {l:List Chunk} {k:Nat} {x:Chunk},Nth l k x→l[k]? = some x:=fun hn=>by
  induction hn with
  | z=>rfl
  | s _ ih=>simpa using ih
 have h2:=h.sel [i,j] (by simp [hne])
 simp only [List.filterMap_cons,h1 hi,h1 hj,List.filterMap_nil] at h2
 exact (List.pairwise_cons.1 h2.apart).1 e (by simp) g hc he
structure XAll (P:Program) (f:Nat):Prop where
 l1:XSp P f 1 100
 l2:XSc P f 2 140
 l3:XSp P f 3 141
 l4:XSp P f 4 166
 l5:XSp P f 5 186
 l6:XSc P f 6 202
 l7:XSp P f 7 203
 l8:XSp P f 8 209
end Go.WK
namespace Go.WK
open Go.RowKit
section ops
variable {m:Bool} {cx:Cx} {fs:aW} {H:List Chunk} {Q:co} {ops:Array Oper} {rest:List Oper} {g:Option (Nat × Bool)} {d:Nat} {ty:TypeId} {pos:String} {af:Array Edge}
theorem o_idxArr {x y:Operand} {t e n s:Nat} {ki:IntKind} {i:Int} {cs vs:List Value} (ht:cx.P.underlying t=some (.array n e)) (he:cF cx.P e=some true) (hs:szB cx.P e=some s) (hok:okS cx.n ops fs d g=true) (hx:ev fs x=some (.agg cs.toArray)) (hy:ev fs y=some (.int ki i))
  (h0:0≤i) (h1:i < n) (hl:cs.length=n * s) (hv:(cs.drop (i.toNat * s)).take s=vs) (k:TriX m cx ops ((d,.agg vs.toArray)::fs) H rest Q):TriX m cx ops fs H (⟨some d,.index t x y,ty,pos,af,g⟩::rest) Q :=
 bd _ hok (fun a w ha _=>by
  have hb:i.toNat * s+s≤cs.length:=by
   rw [hl]
   have h2:i.toNat+1≤n:=by omega
   have h3:=Nat.mul_le_mul_right s h2
   rw [Nat.add_mul,Nat.one_mul] at h3
   exact h3
  simp [execOp,ha.eval hx,ha.eval hy,Instr.index,asIntOf,run_underlying ht,dq hs,h0,h1,part,ez he,hv]) k
end ops
theorem xz (l:List Tok) (i:Nat) (h:i < l.length):((toksV l).drop (i * 3)).take 3=(l.getD i Tok.zero).cs:=sx l i h
end Go.WK
namespace Go.WK
open Go.RowKit
theorem cmp_err {one:List Tok→PX Ex} {e:Ex} {us:List Tok} {o:Int} {x:Flt} (hf:findO cmpO us=some o) (h:one (us.drop 1)=.error x):iX one e us=.error x:=by
 unfold iX; simp only [hf,h]
theorem cmp_hit {one:List Tok→PX Ex} {e g:Ex} {us vs:List Tok} {o:Int} (hf:findO cmpO us=some o) (h:one (us.drop 1)=.ok (g,vs)):iX one e us=.ok (bin o e g,vs):=by
 unfold iX; simp only [hf,h]
theorem cmp_none {one:List Tok→PX Ex} {e:Ex} {us:List Tok} (hf:findO cmpO us=none) (h:atT 1 isB us=false):iX one e us=.ok (e,us):=by
 unfold iX; simp only [hf]; rw [if_neg (by rw [h]; decide)]
theorem cmp_bad7 {one:List Tok→PX Ex} {e:Ex} {us:List Tok} (hf:findO cmpO us=none) (h:atT 1 isB us=true) (h4:atT 1 eN (us.drop 1)=true):(atT 1 dc ((us.drop 1).drop 1)=false→iX one e us=.error (190,(hd ((us.drop 1).drop 1)).a))∧(atT 1 dc ((us.drop 1).drop 1)=true→iX one e us=.ok (un 7 e,((us.drop 1).drop 1).drop 1)):=by
 simp only [List.drop_drop]
 constructor<;>intro h5<;>unfold iX<;>simp only [hf]<;>rw [if_pos h,if_pos h4]
 · rw [if_neg (by rw [h5]; decide)]; rfl
 · rw [if_pos h5]
theorem cmp_bad6 {one:List Tok→PX Ex} {e:Ex} {us:List Tok} (hf:findO cmpO us=none) (h:atT 1 isB us=true) (h4:atT 1 eN (us.drop 1)=false):(atT 1 dc (us.drop 1)=false→iX one e us=.error (190,(hd (us.drop 1)).a))∧(atT 1 dc (us.drop 1)=true→iX one e us=.ok (un 6 e,(us.drop 1).drop 1)):=by
 simp only [List.drop_drop]
 constructor<;>intro h5<;>unfold iX<;>simp only [hf]<;>rw [if_pos h,if_neg (by rw [h4]; decide)]
 · rw [if_neg (by rw [h5]; decide)]; rfl
 · rw [if_pos h5]
theorem aH {ts us:List Tok} {k:Int} {t:List UInt8} (hc:Cuts ts us) (hk:k≠5) (h:atT k t us=true):Cuts ts (us.drop 1):=hc.step (by rw [fE h]; exact hk)
end Go.WK
namespace Go.WK
theorem ref_bad1 {ts:List Tok} (h:nmT ts=false):j4 ts=.error (190,(hd ts).a):=by
 unfold j4 bC; rw [if_neg (by rw [h]; decide)]; rfl
theorem ref_one {ts:List Tok} (h:nmT ts=true) (h2:atT 4 [46] (ts.drop 1)=false):j4 ts=.ok (.mk 2 Val.zero [] (hd ts).t 0 [],ts.drop 1):=by
 unfold j4 bC; rw [if_pos h]; exact if_neg (by rw [h2]; decide)
theorem ref_bad2 {ts:List Tok} (h:nmT ts=true) (h2:atT 4 [46] (ts.drop 1)=true) (h3:nmT ((ts.drop 1).drop 1)=false):j4 ts=.error (190,(hd ((ts.drop 1).drop 1)).a):=by
 unfold j4 bC
 rw [if_pos h]
 simp only [h2,h3]
 rfl
theorem ref_two {ts:List Tok} (h:nmT ts=true) (h2:atT 4 [46] (ts.drop 1)=true) (h3:nmT ((ts.drop 1).drop 1)=true):j4 ts=.ok (.mk 2 Val.zero (hd ts).t (hd ((ts.drop 1).drop 1)).t 0 [],((ts.drop 1).drop 1).drop 1):=by
 unfold j4 bC
 rw [if_pos h]
 simp only [h2,h3]
 rfl
end Go.WK
namespace Go.WK.MP
open Go.RowKit Go.WK
section
variable {P:Program} {ops:Array Oper} {md:Region.Mode} {C:World→Prop} {kp:Nat→Bool} {K:List PanicEntry→Act→World→Prop}
def pEx (K:List PanicEntry→Act→World→Prop):Exit→Act→World→Prop
 | .panic ch,a,w=>K ch a w
 | _,_,_=>False
def dY (P:Program) (md:Region.Mode) (ops:Array Oper) (C:World→Prop) (kp:Nat→Bool) (K:List PanicEntry→Act→World→Prop) (Q:Act→World→Prop):Nat→Array Bool→Act→World→Prop
 | 0,listed,a,w=>Region.ready md ops listed=[]∧Q a w
 | f+1,listed,a,w =>
  (Region.ready md ops listed=[]→Q a w) ∧
  ∀ i ∈ Region.ready md ops listed,wpOp P ops (pEx K) i (fun a' w'=>(kp i=true→C w')∧∀ w'',adv (kp i) w' w''→dY P md ops C kp K Q f (listed.setIfInBounds i true) a' w'') a w
theorem mM {Q:Exit→Act→World→Prop} {i:Nat} {N:Act→World→Prop} {a:Act} {w:World} (hQ:∀ ch a w,K ch a w→Q (.panic ch) a w) (h:wpOp P ops (pEx K) i N a w):wpOp P ops Q i N a w:=by
 unfold wpOp at h ⊢
 split
 · rename_i ho; simp only [ho] at h; exact h
 · rename_i o ho
   simp only [ho] at h
   split
   · rename_i hw
     simp only [hw,if_true] at h
     rcases h with h | ⟨_,_,_,h⟩
     · exact .inl (eL (fun _ _ h=>h) (fun _ _ _ h=>hQ _ _ _ h) (fun _ _ h=>h.elim) _ h)
     · exact h.elim
   · rename_i hw; simp only [hw] at h; exact h
theorem dZ {Q:Exit→Act→World→Prop} (hQ:∀ ch a w,K ch a w→Q (.panic ch) a w):∀ (f:Nat) (listed:Array Bool) (a:Act) (w:World),dY P md ops C kp K (Q .normal) f listed a w→wpAny P md ops Q f listed a w
 | 0,_,_,_,h=>h
 | f+1,_,_,_,h=>⟨h.1,fun i hi=>wpOp_mono (fun a' w' h'=>dZ hQ f _ a' w' (h'.2 w' (sq _ _))) (mM hQ (h.2 i hi))⟩
theorem nz {i:Nat} {o:Oper} {v:Value} {a:Act} {w:World} (hi:ops[i]? = some o) (hy:YieldsF P ops C o v a) (hC:C w) {N:Act→World→Prop} (h:∀ w',Chg [] w w'→N (a.put o.dst v) w'):wpOp P ops (pEx K) i N a w:=by
 unfold Go.wpOp
 simp only [hi]
 rcases hy with ⟨hw,hv⟩ | ⟨hw,rfl⟩
 · simp only [hw,if_true]
   left
   have h3:=hv w hC
   unfold Oper.quietAt at h3
   unfold Oper.wp
   generalize (execOp a.eval o).run P w=r at *
   cases r with
   | ok n w' =>
    cases n<;>simp only [Oper.quietUpon] at h3<;>simp only [Oper.upon]
    case value u=>obtain ⟨e1,e2⟩:=h3; rw [e1,e2]; exact h _ (Chg.refl _ _)
    case skip=>obtain ⟨e1,e2⟩:=h3; rw [e1, ← e2]; exact h _ (Chg.refl _ _)
    case enter f args=>obtain ⟨e1,hc⟩:=h3; rw [e1]; exact hc.mono fun e w'' ⟨he,hw''⟩=>by subst he; exact h _ hw''
   | halt x w'=>simp only [Oper.quietUpon] at h3
 · simp only [hw,Bool.false_eq_true,if_false]; exact h _ (Chg.refl _ _)
theorem od (hK:∀ ch a i v w,K ch (a.put i v) w→K ch a w) {j:Nat} {oi oj:Oper} {v:Value} {w:World} (hj:ops[j]? = some oj) (hap:oi.apart ops oj=true)
  (hsi:∀ cs b,oi.op≠.select cs b) (hsj:∀ cs b,oj.op≠.select cs b) {N:Act→World→Prop} {a:Act}
  (hy:YieldsF P ops C oi v a) (h:wpOp P ops (pEx K) j N (a.put oi.dst v) w) :
  wpOp P ops (pEx K) j (fun a' w'=>YieldsF P ops C oi v a'∧N (a'.put oi.dst v) w') a w:=by
 obtain ⟨h1,h2,h3⟩:=Oper.apart_spec hap
 have keep:∀ (a:Act),YieldsF P ops C oi v a→∀ u,YieldsF P ops C oi v (a.put oj.dst u):=fun a hy u =>
  hy.of_same (execOp_put oi hsi a oj.dst u h3) (wanted_put oi a oj.dst u h3)
 unfold wpOp at *
 simp only [hj] at *
 rw [wanted_put oj a oi.dst v h1] at h
 split
 · rename_i hw
   simp only [hw,if_true] at h
   rcases h with h | ⟨_,_,_,h⟩
   · left
     unfold Oper.wp at *
     rw [execOp_put oj hsj a oi.dst v h1] at h
     generalize (execOp a.eval oj).run P w=r at *
     cases r with
     | ok n w' =>
      cases n<;>simp only [Oper.upon] at h ⊢
      case value u=>exact ⟨keep a hy u,by rw [← Act.put_comm a v u h2]; exact h⟩
      case skip=>exact ⟨keep a hy _,by rw [← Act.put_comm a v undef h2]; exact h⟩
      case defer d =>
       rw [oc] at h
       exact ⟨keep { a with defers:=d::a.defers } (hy.of_same rfl rfl) undef,by rw [← Act.put_comm _ v undef h2]; exact h⟩
      case enter f args =>
       refine Calls.mono h fun e w'' he=>?_
       cases e with
       | returned u=>exact ⟨keep a hy u,by rw [← Act.put_comm a v u h2]; exact he⟩
       | panicked ch=>exact hK _ _ _ _ _ he
       | outgrown=>exact he
      case row nm args=>exact Rows.mono h fun u w'' he=>⟨keep a hy u,by rw [← Act.put_comm a v u h2]; exact he⟩
      all_goals exact h
     | halt x w'=>cases x<;>simp only [Oper.upon] at h ⊢<;>first | exact h | exact hK _ _ _ _ _ h
   · exact h.elim
 · rename_i hw
   simp only [hw] at h
   exact ⟨keep a hy _,by rw [← Act.put_comm a v undef h2]; exact h⟩
theorem fV (hK:∀ ch a i v w,K ch (a.put i v) w→K ch a w) {Q:Act→World→Prop} {i:Nat} {oi:Oper} {v:Value} (hi:ops[i]? = some oi) (hsel:∀ (j:Nat) (o:Oper) cs b,ops[j]? = some o→o.op≠.select cs b)
  (hext:∀ w w',C w→Chg [] w w'→C w') (hkp:∀ (listed:Array Bool) j,Shut md ops listed→listed.getD i true=false→j≠i→j ∈ Region.ready md ops listed→kp j=true) :
  ∀ (fuel:Nat) (listed:Array Bool) (a:Act) (w:World),Shut md ops listed →
   (∀ j oj,ops[j]? = some oj→j≠i→listed.getD j true=false→(∀ e ∈ oj.after,Region.binds md e=true→e.on≠i)→oi.apart ops oj=true) →
   i ∈ Region.ready md ops listed→YieldsF P ops C oi v a→C w →
   (∀ w',Chg [] w w'→dY P md ops C kp K Q fuel (listed.setIfInBounds i true) (a.put oi.dst v) w')→dY P md ops C kp K Q (fuel+1) listed a w:=by
 intro fuel
 induction fuel with
 | zero =>
  intro listed a w _ _ hr hy hC H
  refine ⟨fun h=>(by rw [h] at hr; cases hr),fun j hj=>?_⟩
  by_cases hji:j=i
  · subst hji; exact nz hi hy hC fun w' hw'=>⟨fun _=>hext _ _ hC hw',fun w'' h''=>H w'' (hw'.trans (cU h''))⟩
  · have:=ready_mono hj hji
    rw [(H w (Chg.refl _ _)).1] at this
    cases this
 | succ fuel ih =>
  intro listed a w hcl hfree hr hy hC H
  refine ⟨fun h=>(by rw [h] at hr; cases hr),fun j hj=>?_⟩
  by_cases hji:j=i
  · subst hji; exact nz hi hy hC fun w' hw'=>⟨fun _=>hext _ _ hC hw',fun w'' h''=>H w'' (hw'.trans (cU h''))⟩
  · have h1:=(H w (Chg.refl _ _)).2 j (ready_mono hj hji)
    obtain ⟨hjun,oj,hoj,hall⟩:=mem_ready.1 hj
    have hnot:∀ e ∈ oj.after,Region.binds md e=true→e.on≠i:=fun e he hb heq=>by
     have h1:=hall e he hb
     have h0:=(mem_ready.1 hr).1
     rw [heq] at h1
     rcases Nat.lt_or_ge i listed.size with h' | h'
     · simp [h'] at h0 h1; rw [h0] at h1; cases h1
     · simp [Array.getElem?_eq_none h'] at h1
    have hap:=hfree j oj hoj hji hjun hnot
    have hkj:=hkp listed j hcl (mem_ready.1 hr).1 hji hj
    have h2:=od hK hoj hap (fun cs b=>hsel i oi cs b hi) (fun cs b=>hsel j oj cs b hoj) hy h1
    have hfree':∀ k ok,ops[k]? = some ok→k≠i→(listed.setIfInBounds j true).getD k true=false →
      (∀ e ∈ ok.after,Region.binds md e=true→e.on≠i)→oi.apart ops ok=true:=fun k ok hk hki hun hno=>by
     refine hfree k ok hk hki ?_ hno
     by_cases hjk:j=k
     · subst hjk; exact hjun
     · rw [getD_set_ne true hjk] at hun; exact hun
    refine wpOp_mono (fun a' w' h3=>⟨h3.2.1,fun w'' hw''=>?_⟩) h2
    refine ih (listed.setIfInBounds j true) a' w'' (hcl.set hj) hfree' (ready_mono hr (Ne.symm hji)) h3.1 (hext _ _ (h3.2.1 hkj) (cU hw'')) (fun w3 hw3=>?_)
    have:=h3.2.2 w3 (by rw [hkj] at hw'' ⊢; exact Chg.trans hw'' hw3)
    rw [Array.setIfInBounds_comm _ _ (Ne.symm hji)] at this
    exact this
def ik (P:Program) (ops:Array Oper) (C:World→Prop) (loose:List Nat) (K:List PanicEntry→Act→World→Prop) (Q:Act→World→Prop):List (Nat × Bool)→Act→World→Prop
 | [],a,w=>Q a w
 | (i,true)::l,a,w=>∃ o v,ops[i]? = some o∧YieldsF P ops C o v a∧∀ w',Chg [] w w'→ik P ops C loose K Q l (a.put o.dst v) w'
 | (i,false)::l,a,w=>wpOp P ops (pEx K) i (fun a' w'=>((!loose.contains i)=true→C w')∧∀ w'',adv (!loose.contains i) w' w''→ik P ops C loose K Q l a' w'') a w
theorem dM (hK:∀ ch a i v w,K ch (a.put i v) w→K ch a w) {Q:Act→World→Prop} {loose:List Nat} (hs:Region.noSelect ops=true) (hext:∀ w w',C w→Chg [] w w'→C w'):∀ (l:List (Nat × Bool)) (listed:Array Bool) (a:Act) (w:World),
  fW md ops loose l listed=true→Shut md ops listed→((∃ p ∈ l,p.2=true)→C w)→ik P ops C loose K Q l a w→dY P md ops C (fun j=>!loose.contains j) K Q l.length listed a w
 | [],_,_,_,hB,_,_,h=>⟨by simpa [fW] using hB,h⟩
 | (i,true)::l,listed,a,w,hB,hcl,hC,h=>by
  obtain ⟨o,v,hi,hy,hk⟩:=h
  simp only [fW,Bool.and_eq_true] at hB
  obtain ⟨hr,hf,hk',hB'⟩:=hB
  have hCw:=hC ⟨_,List.mem_cons_self,rfl⟩
  refine fV hK hi (Region.noSelect_spec hs) hext (fun lst j hs' hi' hji hj=>?_) l.length listed a w hcl (Region.free_spec hi hf) (by simpa using hr) hy hCw
   (fun w' hw'=>dM hK hs hext l _ _ w' hB' (hcl.set (by simpa using hr)) (fun _=>hext _ _ hCw hw') (hk w' hw'))
  cases hc:loose.contains j with
  | false=>rfl
  | true=>exact absurd hj (mN hs' hi' hji (List.all_eq_true.1 hk' j (by simpa using hc)))
 | (i,false)::l,listed,a,w,hB,hcl,hC,h=>by
  simp only [fW,Bool.and_eq_true,beq_iff_eq] at hB
  obtain ⟨hr,hl,hB'⟩:=hB
  show dY P md ops C _ K Q (l.length+1) listed a w
  refine ⟨fun h0=>(by rw [hr] at h0; cases h0),fun j hj=>?_⟩
  rw [hr] at hj
  obtain rfl:j=i:=by simpa using hj
  refine wpOp_mono (fun a' w' h'=>⟨h'.1,fun w'' hw''=>dM hK hs hext l _ a' w'' hB' (hcl.set (by rw [hr]; exact List.mem_cons_self)) ?_ (h'.2 w'' hw'')⟩) h
  rintro ⟨p,hp,hpt⟩
  simp only [Bool.or_eq_true] at hl
  rcases hl with hl | hl
  · exact hext _ _ (h'.1 hl) (cU hw'')
  · have:=List.all_eq_true.1 hl p hp
    rw [hpt] at this
    cases this
end
section
variable {cx:Cx} {fs:aW} {H C:List Chunk} {Q:co} {ops:Array Oper} {loose:List Nat} {ord:List (Nat × Bool)}
def pK (cx:Cx) (Q:co):List PanicEntry→Act→World→Prop:=fun ch a w=>(a.defers=cx.ds∧a.tmps.size=cx.n)∧Sat cx [] w∧Q (.panic ch) [] []
theorem pK_put (ch:List PanicEntry) (a:Act) (i:Option Tmp) (v:Value) (w:World) (h:pK cx Q ch (a.put i v) w):pK cx Q ch a w:=by
 refine ⟨⟨?_, ?_⟩,h.2⟩
 · have:=h.1.1; cases i<;>exact this
 · have:=h.1.2; cases i<;>simpa [Act.put] using this
def mq (Q:co) (N:aW→List Chunk→Prop):co
 | .normal,fs,H=>N fs H
 | .panic ch,_,_=>Q (.panic ch) [] []
 | _,_,_=>False
def lE (cx:Cx) (C:List Chunk) (ops:Array Oper) (loose:List Nat) (fs:aW) (H:List Chunk) (ord:List (Nat × Bool)) (Q:co):Prop :=
 ∀ a w,Has cx.n cx.ds fs a→Sat cx H w→ik cx.P ops (Sat cx C) loose (pK cx Q) (fun a w=>iF cx Q .normal a w) ord a w
theorem bj {id:Nat} {l:List Oper} (C:List Chunk) (ord:List (Nat × Bool)) (loose:List Nat) (hm:cx.P.follows .mixedOrders=true) (hB:mixB .any l.toArray loose ord=true) (hC:∀ w,Sat cx H w→Sat cx C w)
  (h:lE cx C l.toArray loose fs H ord Q):Tri cx fs H (.region id l.toArray true) Q:=fun a w ha hw=>by
 simp only [mixB,Bool.and_eq_true,beq_iff_eq] at hB
 have h1:=dM (K:=pK cx Q) (fun ch a i v w=>pK_put ch a i v w) hB.1 (fun w w' h k=>h.ext k) ord _ a _ hB.2.2 (fun j oj _ hj=>by rw [fU] at hj; cases hj) (fun _=>hC _ hw.drew) (h a _ ha hw.drew)
 rw [hB.2.1] at h1
 exact wp_region_any hm (dZ (fun ch a w hk=>⟨[],[],⟨hk.1.1,hk.1.2,fun d v hd=>by cases hd⟩,hk.2.1,hk.2.2⟩) _ _ _ _ h1)
theorem cI (h:Q .normal fs H):lE cx C ops loose fs H [] Q:=fun _ _ ha hw=>⟨fs,H,ha,hw,h⟩
theorem ah {i:Nat} {o:Oper} (hi:ops[i]? = some o) (h:TriX true cx ops fs C [o] (fun e fs' _=>e=.normal∧lE cx C ops loose fs' H ord Q)):lE cx C ops loose fs H ((i,true)::ord) Q:=fun a w ha hw=>by
 have h1:=h a ha
 unfold fb at h1
 by_cases hw':Region.wanted o (yielded ops a.tmps)=true
 · rw [if_pos hw'] at h1
   obtain ⟨v,h2,fs',h3,_,h4⟩:=h1
   exact ⟨o,v,hi,.inl ⟨hw',h2⟩,fun w' hc=>h4 _ w' h3 (hw.ext hc)⟩
 · rw [if_neg hw'] at h1
   obtain ⟨fs',h3,_,h4⟩:=h1
   exact ⟨o,undef,hi,.inr ⟨by simpa using hw',rfl⟩,fun w' hc=>h4 _ w' h3 (hw.ext hc)⟩
theorem aN {i:Nat} {o:Oper} (hi:ops[i]? = some o) (h:TriX false cx ops fs H [o] (mq Q fun fs' H'=>((!loose.contains i)=true→∀ w,Sat cx H' w→Sat cx C w)∧lE cx C ops loose fs' H' ord Q)):lE cx C ops loose fs H ((i,false)::ord) Q:=fun a w ha hw=>by
 have h1:=h a w ha hw
 unfold wpList at h1
 unfold ik wpOp
 simp only [hi]
 have key:∀ a' w',wpList cx.P ops (iF cx (mq Q fun fs' H'=>((!loose.contains i)=true→∀ w,Sat cx H' w→Sat cx C w)∧lE cx C ops loose fs' H' ord Q)) [] a' w' →
   ((!loose.contains i)=true→Sat cx C w')∧∀ w'',adv (!loose.contains i) w' w''→ik cx.P ops (Sat cx C) loose (pK cx Q) (fun a w=>iF cx Q .normal a w) ord a' w'':=by
  rintro a' w' ⟨fs',H',h2,h3,h4,h5⟩
  exact ⟨fun hk=>h4 hk _ h3,fun w'' hc=>h5 _ _ h2 (h3.ext (cU hc))⟩
 split
 · rename_i hw'
   rw [if_pos hw'] at h1
   rcases h1 with h1 | ⟨_,a',w',fs',H',_,_,h2⟩
   · refine .inl (eL key (fun ch a w ⟨fs',H',h2,h3,h4⟩=>⟨⟨h2.ds,h2.size⟩,h3.sublist (List.nil_sublist _),h4⟩) (fun _ _ ⟨_,_,_,_,h⟩=>h.elim) _ h1)
   · exact h2.elim
 · rename_i hw'
   rw [if_neg hw'] at h1
   exact key _ _ h1
end
end Go.WK.MP
namespace Go.WK
open Go.RowKit
structure ColX where
 n:List UInt8
 k:Int
 b:Bool
structure ItemX where
 e:Ex
 s:List UInt8
structure SrcX where
 t:List UInt8
 s:List UInt8
 e:Ex
structure OrdX where
 n:List UInt8
 b:Bool
structure SetX where
 n:List UInt8
 e:Ex
structure QryX where
 di:Bool
 st:Bool
 items:List ItemX
 from_:List SrcX
 wh:Ex
 ord:List OrdX
 li:Bool
 lim:Int
structure StmtX where
 k:Int
 t:List UInt8
 n:List UInt8
 cols:List ColX
 on:List (List UInt8)
 un:Bool
 rows:List (List Ex)
 sets:List SetX
 wh:Ex
 q:QryX
def QryX.zero:QryX:=⟨false,false,[],[],Ex.zero,[],false,0⟩
def StmtX.zero:StmtX:=⟨0,[],[],[],[],false,[],[],Ex.zero,QryX.zero⟩
abbrev PT (α:Type):=Except Flt (α × List Tok)
def W (s:List UInt8) (ts:List Tok):Bool:=atT 1 s ts
def j6:List UInt8:=[119,104,101,114,101]
def asB:List UInt8:=[97,115]
def eV:List UInt8:=[102,114,111,109]
def kL:List UInt8:=[106,111,105,110]
def onB:List UInt8:=[111,110]
def jp:List UInt8:=[111,114,100,101,114]
def byB:List UInt8:=[98,121]
def jG:List UInt8:=[100,101,115,99]
def jq:List UInt8:=[108,105,109,105,116]
def br:List UInt8:=[100,105,115,116,105,110,99,116]
def ft:List UInt8:=[115,101,108,101,99,116]
def eO:List UInt8:=[99,114,101,97,116,101]
def eA:List UInt8:=[116,97,98,108,101]
def kr:List UInt8:=[100,114,111,112]
def eg:List UInt8:=[105,110,100,101,120]
def iv:List UInt8:=[105,110,115,101,114,116]
def kM:List UInt8:=[105,110,116,111]
def iw:List UInt8:=[118,97,108,117,101,115]
def ix:List UInt8:=[100,101,108,101,116,101]
def jd:List UInt8:=[117,112,100,97,116,101]
def oL:List UInt8:=[115,101,116]
def cq:List UInt8:=[117,110,105,113,117,101]
def ie:List UInt8:=[98,101,103,105,110]
def ga:List UInt8:=[99,111,109,109,105,116]
def ef:List UInt8:=[114,111,108,108,98,97,99,107]
def intB:List UInt8:=[105,110,116]
def ql:List UInt8:=[116,101,120,116]
def sO:List UInt8:=[98,111,111,108]
def cN (f d:Nat) (ts:List Tok):PX Ex:=if atT 1 j6 ts=true then exP f 1 d (ts.drop 1) else .ok (Ex.zero,ts)
def gU (ts:List Tok):Bool :=
 if (hd ts).k=2∨(hd ts).k=3 then true
 else if (hd ts).k=4 then decide ((hd ts).t=[40]) || decide ((hd ts).t=[45])
 else if (hd ts).k=1 then (if (hd ts).t=dc∨(hd ts).t=lJ∨(hd ts).t=jo∨(hd ts).t=eN then true else nmT ts)
 else false
def cM {τ:Type} (can:List Tok→Bool) (one:τ→List Tok→PT τ):Nat→Nat→τ→List Tok→PT τ
 | 0,_,s,ts=>.ok (s,ts)
 | f+1,n,s,ts =>
  if n=0∨atT 4 [44] ts=true then
   (if can (if n=0 then ts else ts.drop 1)=true then
    (if n=16 then .error (3,(hd (if n=0 then ts else ts.drop 1)).a) else match one s (if n=0 then ts else ts.drop 1) with
     | .error x=>.error x
     | .ok (s',us)=>cM can one f (n+1) s' us)
   else oE (if n=0 then ts else ts.drop 1))
  else .ok (s,ts)
def asP (ts:List Tok):PT (List UInt8):=if atT 1 asB ts=true then bC (ts.drop 1) else .ok ([],ts)
def gC (f d:Nat) (l:List ItemX) (ts:List Tok):PT (List ItemX):=match exP f 1 d ts with
 | .error x=>.error x
 | .ok (e,us)=>match asP us with
  | .error x=>.error x
  | .ok (n,vs)=>.ok (l++[⟨e,n⟩],vs)
def gb (ts:List Tok):PT (List UInt8 × List UInt8):=match bC ts with
 | .error x=>.error x
 | .ok (t,us)=>match asP us with
  | .error x=>.error x
  | .ok (n,vs)=>.ok ((t,n),vs)
def lU (l:List OrdX) (ts:List Tok):PT (List OrdX):=match bC ts with
 | .error x=>.error x
 | .ok (n,us)=>.ok (l++[⟨n,atT 1 jG us⟩],if atT 1 jG us=true then us.drop 1 else us)
def bH (s:List UInt8) (ts:List Tok):Except Flt (List Tok):=if atT 1 s ts=true then .ok (ts.drop 1) else .error (190,(hd ts).a)
def fz (s:List UInt8) (ts:List Tok):Except Flt (List Tok):=if atT 4 s ts=true then .ok (ts.drop 1) else .error (190,(hd ts).a)
def fH (f d:Nat) (l:List SrcX) (ts:List Tok):PT (List SrcX) :=
 if nmT ts=true∧l.length=4 then .error (3,(hd ts).a) else match gb ts with
 | .error x=>.error x
 | .ok ((t,s),us)=>match bH onB us with
  | .error x=>.error x
  | .ok vs=>match exP f 1 d vs with
   | .error x=>.error x
   | .ok (e,zs)=>.ok (l++[⟨t,s,e⟩],zs)
def dQ (f d:Nat):Nat→List SrcX→List Tok→PT (List SrcX)
 | 0,l,ts=>.ok (l,ts)
 | k+1,l,ts=>if atT 1 kL ts=true then (match fH f d l (ts.drop 1) with | .error x=>.error x | .ok (l',us)=>dQ f d k l' us) else .ok (l,ts)
def eB (f d:Nat) (ts:List Tok):PT (List SrcX):=if atT 1 eV ts=true then (match gb (ts.drop 1) with | .error x=>.error x | .ok ((t,s),us)=>dQ f d 5 [⟨t,s,Ex.zero⟩] us) else .ok ([],ts)
def gc (f d:Nat) (ts:List Tok):PT (List ItemX):=if atT 4 [42] ts=true then .ok ([],ts.drop 1) else cM gU (gC f d) 17 0 [] ts
def eC (ts:List Tok):PT (List OrdX):=if atT 1 jp ts=true then (match bH byB (ts.drop 1) with | .error x=>.error x | .ok us=>cM nmT lU 17 0 [] us) else .ok ([],ts)
def eW (ts:List Tok):PT (Bool × Int):=if atT 1 jq ts=true then (if (hd (ts.drop 1)).k=2 then .ok ((true,decZ (hd (ts.drop 1)).t),(ts.drop 1).drop 1) else oE (ts.drop 1)) else .ok ((false,0),ts)
def cu (ts:List Tok):List Tok:=if atT 1 br ts=true then ts.drop 1 else ts
def cP (f d:Nat) (ts:List Tok):PT QryX:=match gc f d (cu ts) with
 | .error x=>.error x
 | .ok (its,t1)=>match eB f d t1 with
  | .error x=>.error x
  | .ok (fr,t2)=>match cN f d t2 with
   | .error x=>.error x
   | .ok (wh,t3)=>match eC t3 with
    | .error x=>.error x
    | .ok (os,t4)=>match eW t4 with
     | .error x=>.error x
     | .ok ((li,lim),t5)=>.ok (⟨atT 1 br ts,atT 4 [42] (cu ts),its,fr,wh,os,li,lim⟩,t5)
def cC (ts:List Tok):Int:=if atT 1 intB ts=true then 1 else if atT 1 ql ts=true then 2 else if atT 1 sO ts=true then 3 else 0
def lG (l:List ColX) (ts:List Tok):PT (List ColX):=match bC ts with
 | .error x=>.error x
 | .ok (n,us)=>if cC us=0 then oE us else
  if atT 1 eN (us.drop 1)=true then (match bH dc ((us.drop 1).drop 1) with | .error x=>.error x | .ok vs=>.ok (l++[⟨n,cC us,true⟩],vs)) else .ok (l++[⟨n,cC us,false⟩],us.drop 1)
def onP (l:List (List UInt8)) (ts:List Tok):PT (List (List UInt8)):=match bC ts with
 | .error x=>.error x
 | .ok (n,us)=>.ok (l++[n],us)
def iY (f d:Nat) (l:List SetX) (ts:List Tok):PT (List SetX):=match bC ts with
 | .error x=>.error x
 | .ok (n,us)=>match fz [61] us with
  | .error x=>.error x
  | .ok vs=>match exP f 1 d vs with
   | .error x=>.error x
   | .ok (e,zs)=>.ok (l++[⟨n,e⟩],zs)
def jr (f d:Nat) (l:List Ex) (ts:List Tok):PT (List Ex):=match exP f 1 d ts with
 | .error x=>.error x
 | .ok (e,us)=>.ok (l++[e],us)
def inP {τ:Type} (can:List Tok→Bool) (one:List τ→List Tok→PT (List τ)) (ts:List Tok):PT (List τ):=match fz [40] ts with
 | .error x=>.error x
 | .ok us=>match cM can one 17 0 [] us with
  | .error x=>.error x
  | .ok (l,vs)=>match fz [41] vs with
   | .error x=>.error x
   | .ok zs=>.ok (l,zs)
def dR (f d:Nat):Nat→List (List Ex)→List Tok→PT (List (List Ex))
 | 0,l,ts=>.ok (l,ts)
 | k+1,l,ts=>match inP gU (jr f d) ts with
  | .error x=>.error x
  | .ok (r,us)=>if atT 4 [44] us=true then dR f d k (l++[r]) (us.drop 1) else .ok (l++[r],us)
def er (ts:List Tok):PT StmtX :=
 if atT 1 eA ts=true then (match bC (ts.drop 1) with
  | .error x=>.error x
  | .ok (t,us)=>match inP nmT lG us with
   | .error x=>.error x
   | .ok (l,vs)=>.ok ({ StmtX.zero with k:=1,t:=t,cols:=l },vs))
 else match bH eg (if atT 1 cq ts=true then ts.drop 1 else ts) with
  | .error x=>.error x
  | .ok us=>match bC us with
   | .error x=>.error x
   | .ok (n,vs)=>match bH onB vs with
    | .error x=>.error x
    | .ok zs=>match bC zs with
     | .error x=>.error x
     | .ok (t,xs)=>match inP nmT onP xs with
      | .error x=>.error x
      | .ok (l,ys)=>.ok ({ StmtX.zero with k:=3,un:=atT 1 cq ts,n:=n,t:=t,on:=l },ys)
def gD (ts:List Tok):PT StmtX :=
 if atT 1 eA ts=true then (match bC (ts.drop 1) with | .error x=>.error x | .ok (t,us)=>.ok ({ StmtX.zero with k:=2,t:=t },us))
 else match bH eg ts with
  | .error x=>.error x
  | .ok us=>match bC us with | .error x=>.error x | .ok (n,vs)=>.ok ({ StmtX.zero with k:=4,n:=n },vs)
def dI (f d:Nat) (ts:List Tok):PT StmtX:=match bH kM ts with
 | .error x=>.error x
 | .ok us=>match bC us with
  | .error x=>.error x
  | .ok (t,vs)=>match bH iw vs with
   | .error x=>.error x
   | .ok zs=>match dR f d zs.length [] zs with
    | .error x=>.error x
    | .ok (l,xs)=>.ok ({ StmtX.zero with k:=5,t:=t,rows:=l },xs)
def eb (f d:Nat) (ts:List Tok):PT StmtX:=match bH eV ts with
 | .error x=>.error x
 | .ok us=>match bC us with
  | .error x=>.error x
  | .ok (t,vs)=>match cN f d vs with
   | .error x=>.error x
   | .ok (e,zs)=>.ok ({ StmtX.zero with k:=6,t:=t,wh:=e },zs)
def dJ (f d:Nat) (ts:List Tok):PT StmtX:=match bC ts with
 | .error x=>.error x
 | .ok (t,us)=>match bH oL us with
  | .error x=>.error x
  | .ok vs=>match cM nmT (iY f d) 17 0 [] vs with
   | .error x=>.error x
   | .ok (l,zs)=>match cN f d zs with
    | .error x=>.error x
    | .ok (e,xs)=>.ok ({ StmtX.zero with k:=7,t:=t,sets:=l,wh:=e },xs)
def gM (f d:Nat) (ts:List Tok):PT StmtX:=match cP f d ts with
 | .error x=>.error x
 | .ok (q,us)=>.ok ({ StmtX.zero with k:=8,q:=q },us)
def cv (f d:Nat) (ts:List Tok):PT StmtX :=
 if atT 1 eO ts=true then er (ts.drop 1)
 else if atT 1 kr ts=true then gD (ts.drop 1)
 else if atT 1 iv ts=true then dI f d (ts.drop 1)
 else if atT 1 ix ts=true then eb f d (ts.drop 1)
 else if atT 1 jd ts=true then dJ f d (ts.drop 1)
 else if atT 1 ft ts=true then gM f d (ts.drop 1)
 else if atT 1 ie ts=true then .ok ({ StmtX.zero with k:=9 },ts.drop 1)
 else if atT 1 ga ts=true then .ok ({ StmtX.zero with k:=10 },ts.drop 1)
 else if atT 1 ef ts=true then .ok ({ StmtX.zero with k:=11 },ts.drop 1)
 else oE ts
def oM (f:Nat) (ts:List Tok):Except Flt StmtX:=match cv f 0 ts with
 | .error x=>.error x
 | .ok (s,us)=>if (hd (if atT 4 [59] us=true then us.drop 1 else us)).k=5 then .ok s else .error (190,(hd (if atT 4 [59] us=true then us.drop 1 else us)).a)
def cr (s:List UInt8):Except Flt StmtX:=match gz s with
 | .error x=>.error x
 | .ok ts=>oM (8 * ts.length+8) ts
end Go.WK
namespace Go.WK
open Go.RowKit
structure Kd (α:Type) where
 z:Nat
 pos:0 < z
 rel:List Nat→World→α→List Value→Prop
 len:∀ {bl w a cs},rel bl w a cs→cs.length=z
 one:∀ {bl w a cs},rel bl w a cs→allOne cs=true
 stab:∀ {bl w w' a cs},(∀ k ∈ bl,w'.heap[k]? = w.heap[k]?)→rel bl w a cs→rel bl w' a cs
 mono:∀ {bl bl' w a cs},(∀ k ∈ bl,k ∈ bl')→rel bl w a cs→rel bl' w a cs
section
variable {α:Type} (K:Kd α)
def Kd.seq (bl:List Nat) (w:World):List α→List Value→Prop
 | [],xs=>xs=[]
 | a::l,xs=>∃ y ys,xs=y++ys∧K.rel bl w a y∧Kd.seq bl w l ys
theorem Kd.seq_len {bl:List Nat} {w:World}:∀ {l:List α} {xs:List Value},K.seq bl w l xs→xs.length=l.length * K.z
 | [],_,h=>by have h:_=[]:=h; rw [h]; simp
 | a::l,_,h=>by
  obtain ⟨y,ys,rfl,h1,h2⟩:=h
  rw [List.length_append,K.len h1,Kd.seq_len h2,List.length_cons,Nat.add_mul,Nat.one_mul,Nat.add_comm]
theorem ff (a b:List Value):allOne (a++b)=(allOne a && allOne b):=by
 induction a with
 | nil=>rfl
 | cons x a ih=>simp [allOne,ih,Bool.and_assoc]
theorem Kd.seq_stab {bl:List Nat} {w w':World} (hs:∀ k ∈ bl,w'.heap[k]? = w.heap[k]?):∀ {l:List α} {xs:List Value},K.seq bl w l xs→K.seq bl w' l xs
 | [],_,h=>h
 | a::l,_,h=>by
  obtain ⟨y,ys,h0,h1,h2⟩:=h
  exact ⟨y,ys,h0,K.stab hs h1,Kd.seq_stab hs h2⟩
theorem Kd.seq_mono {bl bl':List Nat} {w:World} (hs:∀ k ∈ bl,k ∈ bl'):∀ {l:List α} {xs:List Value},K.seq bl w l xs→K.seq bl' w l xs
 | [],_,h=>h
 | a::l,_,h=>by
  obtain ⟨y,ys,h0,h1,h2⟩:=h
  exact ⟨y,ys,h0,K.mono hs h1,Kd.seq_mono hs h2⟩
theorem Kd.seq_app {bl:List Nat} {w:World}:∀ {l m:List α} {xs ys:List Value},K.seq bl w l xs→K.seq bl w m ys→K.seq bl w (l++m) (xs++ys)
 | [],_,xs,_,h,k=>by have h:xs=[]:=h; subst h; exact k
 | a::l,m,_,ys,h,k=>by
  obtain ⟨y,zs,rfl,h1,h2⟩:=h
  exact ⟨y,zs++ys,by simp,h1,Kd.seq_app h2 k⟩
theorem Kd.seq_at {bl:List Nat} {w:World} (zero:α):∀ {l:List α} {xs:List Value} (i:Nat),K.seq bl w l xs→i < l.length→∃ cs,(xs.drop (i * K.z)).take K.z=cs∧K.rel bl w (l.getD i zero) cs
 | [],_,i,_,hi=>by simp at hi
 | a::l,_,i,h,hi=>by
  obtain ⟨y,ys,rfl,h2,h3⟩:=h
  have hy:=K.len h2
  cases i with
  | zero =>
   refine ⟨y, ?_,h2⟩
   rw [Nat.zero_mul,List.drop_zero]
   exact List.take_left' hy
  | succ i =>
   obtain ⟨cs,k1,k2⟩:=Kd.seq_at zero i h3 (by simpa using hi)
   refine ⟨cs, ?_,by simpa using k2⟩
   rw [show (i+1) * K.z=y.length+i * K.z by rw [hy,Nat.add_mul]; omega,List.drop_length_add_append]
   exact k1
def Kd.sl (bl:List Nat) (w:World) (l:List α) (v:Value):Prop:=∃ (A:Option Addr) (k:Nat) (xs:List Value),v=.slice A l.length k∧l.length≤k∧Rd w A xs∧(∀ a,A=some a→l≠[]→a.block ∈ bl)∧K.seq bl w l xs
theorem Kd.sl_stab {bl:List Nat} {w w':World} (hs:∀ k ∈ bl,w'.heap[k]? = w.heap[k]?) {l:List α} {v:Value} (h:K.sl bl w l v):K.sl bl w' l v:=by
 obtain ⟨A,k,xs,h1,h2,h3,h4,h5⟩:=h
 refine ⟨A,k,xs,h1,h2,h3.same (fun a ha hne=>hs _ (h4 a ha (fun e=>hne ?_))),h4,K.seq_stab hs h5⟩
 rw [e] at h5
 exact h5
theorem Kd.sl_mono {bl bl':List Nat} {w:World} (hs:∀ k ∈ bl,k ∈ bl') {l:List α} {v:Value} (h:K.sl bl w l v):K.sl bl' w l v:=by
 obtain ⟨A,k,xs,h1,h2,h3,h4,h5⟩:=h
 exact ⟨A,k,xs,h1,h2,h3,fun a ha hne=>hs _ (h4 a ha hne),K.seq_mono hs h5⟩
theorem Kd.sl_nil (bl:List Nat) (w:World):K.sl bl w [] (.slice none 0 0):=⟨none,0,[],rfl,Nat.le_refl _,Rd.nil _ _,(fun _ h=>by cases h),rfl⟩
theorem lt_stab {bl:List Nat} {w w':World} (h:∀ k ∈ bl,k < w.heap.size) (hs:∀ k,k ∈ bl→w'.heap[k]? = w.heap[k]?):∀ k ∈ bl,k < w'.heap.size:=fun k hk=>by
 have h1:=h k hk
 have h2:=hs k hk
 rcases Nat.lt_or_ge k w'.heap.size with h3 | h3
 · exact h3
 · rw [Array.getElem?_eq_none h3,Array.getElem?_eq_getElem h1] at h2; cases h2
def ofC (bl:List Nat) (φ:World→Prop) (st:∀ w w',(∀ k ∈ bl,w'.heap[k]? = w.heap[k]?)→φ w→φ w'):Chunk where
 fp k:=k ∈ bl
 holds w:=φ w∧∀ k ∈ bl,k < w.heap.size
 lt _ k h hk:=h.2 k hk
 stab w w' h hs:=⟨st w w' hs h.1,lt_stab h.2 hs⟩
def du (bl:List Nat) (l:List α) (xs:List Value):Chunk:=ofC bl (fun w=>K.seq bl w l xs) (fun _ _ hs h=>K.seq_stab hs h)
end
theorem Sat.nilSeq {α:Type} (K:Kd α) {cx:Cx} {H:List Chunk} {w:World} (h:Sat cx H w):Sat cx (du K [] [] []::H) w :=
 h.fuse (l:=[]) _ (fun _=>⟨rfl,fun k hk=>by cases hk⟩) (fun k hk=>by cases hk)
theorem Sat.moreSeq {α:Type} (K:Kd α) {cx:Cx} {H:List Chunk} {w:World} {bl bm:List Nat} {l:List α} {xs cs ys:List Value} {a:α} {e:Ex} (h:Sat cx (du K bl l xs::gB bm e cs::H) w) (hr:∀ w,ExK bm w e cs→K.rel bm w a ys):Sat cx (du K (bl++bm) (l++[a]) (xs++ys)::H) w:=by
 refine Sat.fuse (l:=[_,_]) h _ (fun hh=>?_) (fun j hj=>?_)
 · have h1:=hh _ List.mem_cons_self
   have h2:=hh _ (List.mem_cons_of_mem _ List.mem_cons_self)
   refine ⟨K.seq_app (K.seq_mono (fun k hk=>List.mem_append_left _ hk) h1.1) ⟨ys,[],by simp,K.mono (fun k hk=>List.mem_append_right _ hk) (hr w h2.1),rfl⟩,fun j hj=>?_⟩
   rcases List.mem_append.1 hj with hj | hj
   · exact h1.2 j hj
   · exact h2.2 j hj
 · rcases List.mem_append.1 hj with hj | hj
   · exact ⟨_,List.mem_cons_self,hj⟩
   · exact ⟨_,List.mem_cons_of_mem _ List.mem_cons_self,hj⟩
theorem Sat.moreSeq0 {α:Type} (K:Kd α) {cx:Cx} {H:List Chunk} {w:World} {bl:List Nat} {l:List α} {xs ys:List Value} {a:α} (h:Sat cx (du K bl l xs::H) w) (hr:∀ w,K.rel bl w a ys):Sat cx (du K bl (l++[a]) (xs++ys)::H) w:=by
 refine Sat.fuse (l:=[_]) h _ (fun hh=>?_) (fun j hj=>⟨_,List.mem_cons_self,hj⟩)
 have h1:=hh _ List.mem_cons_self
 exact ⟨K.seq_app h1.1 ⟨ys,[],by simp,hr w,rfl⟩,h1.2⟩
theorem ExK.len {bl:List Nat} {w:World} {e:Ex} {cs:List Value} (h:ExK bl w e cs):cs.length=8:=(ExK.c e cs h).len
theorem ExK.ones {bl:List Nat} {w:World} {e:Ex} {cs:List Value} (h:ExK bl w e cs):allOne cs=true:=by
 cases e with
 | mk o v t n c as=>obtain ⟨A,k,xs,rfl,_⟩:=h; rfl
def dU:Kd Ex:=⟨8,by decide,ExK,ExK.len,ExK.ones,fun hs h=>ExK.stab hs _ _ h,fun hs h=>ExK.mono hs _ _ h⟩
def itemKd:Kd ItemX:=⟨9,by decide,fun bl w a ys=>∃ cs,ys=cs++[.string (B a.s)]∧ExK bl w a.e cs,fun ⟨_,h1,h2⟩=>by rw [h1,List.length_append,h2.len]; rfl,fun ⟨_,h1,h2⟩=>by rw [h1,ff,h2.ones]; rfl,
 fun hs ⟨cs,h1,h2⟩=>⟨cs,h1,ExK.stab hs _ _ h2⟩,fun hs ⟨cs,h1,h2⟩=>⟨cs,h1,ExK.mono hs _ _ h2⟩⟩
def srcKd:Kd SrcX:=⟨10,by decide,fun bl w a ys=>∃ cs,ys=[.string (B a.t),.string (B a.s)]++cs∧ExK bl w a.e cs,fun ⟨_,h1,h2⟩=>by rw [h1,List.length_append,h2.len]; rfl,fun ⟨_,h1,h2⟩=>by rw [h1,ff,h2.ones]; rfl,
 fun hs ⟨cs,h1,h2⟩=>⟨cs,h1,ExK.stab hs _ _ h2⟩,fun hs ⟨cs,h1,h2⟩=>⟨cs,h1,ExK.mono hs _ _ h2⟩⟩
def setKd:Kd SetX:=⟨9,by decide,fun bl w a ys=>∃ cs,ys=[.string (B a.n)]++cs∧ExK bl w a.e cs,fun ⟨_,h1,h2⟩=>by rw [h1,List.length_append,h2.len]; rfl,fun ⟨_,h1,h2⟩=>by rw [h1,ff,h2.ones]; rfl,
 fun hs ⟨cs,h1,h2⟩=>⟨cs,h1,ExK.stab hs _ _ h2⟩,fun hs ⟨cs,h1,h2⟩=>⟨cs,h1,ExK.mono hs _ _ h2⟩⟩
def ColX.cs (a:ColX):List Value:=[.string (B a.n),.int .i64 a.k,.bool a.b]
def OrdX.cs (a:OrdX):List Value:=[.string (B a.n),.bool a.b]
def uB {α:Type} (z:Nat) (hz:0 < z) (f:α→List Value) (h1:∀ a,(f a).length=z) (h2:∀ a,allOne (f a)=true):Kd α :=
 ⟨z,hz,fun _ _ a ys=>ys=f a,fun h=>by rw [h,h1],fun h=>by rw [h,h2],fun _ h=>h,fun _ h=>h⟩
def colKd:Kd ColX:=uB 3 (by decide) ColX.cs (fun _=>rfl) (fun _=>rfl)
def ordKd:Kd OrdX:=uB 2 (by decide) OrdX.cs (fun _=>rfl) (fun _=>rfl)
def nameKd:Kd (List UInt8):=uB 1 (by decide) (fun s=>[.string (B s)]) (fun _=>rfl) (fun _=>rfl)
def rowKd:Kd (List Ex):=⟨1,by decide,fun bl w l ys=>∃ v,ys=[v]∧dU.sl bl w l v,fun ⟨_,h1,_⟩=>by rw [h1]; rfl,fun ⟨_,h1,h2⟩=>by obtain ⟨A,k,xs,rfl,_⟩:=h2; rw [h1]; rfl,
 fun hs ⟨v,h1,h2⟩=>⟨v,h1,dU.sl_stab hs h2⟩,fun hs ⟨v,h1,h2⟩=>⟨v,h1,dU.sl_mono hs h2⟩⟩
structure QK (bl:List Nat) (w:World) (q:QryX) (vI vF vO:Value) (ec:List Value):Prop where
 items:itemKd.sl bl w q.items vI
 from_:srcKd.sl bl w q.from_ vF
 wh:ExK bl w q.wh ec
 ord:ordKd.sl bl w q.ord vO
def qCs (q:QryX) (vI vF vO:Value) (ec:List Value):List Value:=[.bool q.di,.bool q.st,vI,vF]++(ec++[vO,.bool q.li,.int .i64 q.lim])
structure SK_ (bl:List Nat) (w:World) (s:StmtX) (vC vN vR vS vI vF vO:Value) (ec fc:List Value):Prop where
 cols:colKd.sl bl w s.cols vC
 on:nameKd.sl bl w s.on vN
 rows:rowKd.sl bl w s.rows vR
 sets:setKd.sl bl w s.sets vS
 wh:ExK bl w s.wh ec
 q:QK bl w s.q vI vF vO fc
def sCs (s:StmtX) (vC vN vR vS vI vF vO:Value) (ec fc:List Value):List Value:=[.int .i64 s.k,.string (B s.t),.string (B s.n),vC,vN,.bool s.un,vR,vS]++(ec++qCs s.q vI vF vO fc)
def StK (bl:List Nat) (w:World) (s:StmtX) (cs:List Value):Prop:=∃ vC vN vR vS vI vF vO ec fc,cs=sCs s vC vN vR vS vI vF vO ec fc∧SK_ bl w s vC vN vR vS vI vF vO ec fc
theorem QK.stab {bl:List Nat} {w w':World} (hs:∀ k ∈ bl,w'.heap[k]? = w.heap[k]?) {q:QryX} {vI vF vO:Value} {ec:List Value} (h:QK bl w q vI vF vO ec):QK bl w' q vI vF vO ec :=
 ⟨itemKd.sl_stab hs h.items,srcKd.sl_stab hs h.from_,ExK.stab hs _ _ h.wh,ordKd.sl_stab hs h.ord⟩
theorem SK_.stab {bl:List Nat} {w w':World} (hs:∀ k ∈ bl,w'.heap[k]? = w.heap[k]?) {s:StmtX} {vC vN vR vS vI vF vO:Value} {ec fc:List Value} (h:SK_ bl w s vC vN vR vS vI vF vO ec fc):SK_ bl w' s vC vN vR vS vI vF vO ec fc :=
 ⟨colKd.sl_stab hs h.cols,nameKd.sl_stab hs h.on,rowKd.sl_stab hs h.rows,setKd.sl_stab hs h.sets,ExK.stab hs _ _ h.wh,h.q.stab hs⟩
theorem StK.stab {bl:List Nat} {w w':World} (hs:∀ k ∈ bl,w'.heap[k]? = w.heap[k]?) {s:StmtX} {cs:List Value} (h:StK bl w s cs):StK bl w' s cs:=by
 obtain ⟨vC,vN,vR,vS,vI,vF,vO,ec,fc,h1,h2⟩:=h
 exact ⟨vC,vN,vR,vS,vI,vF,vO,ec,fc,h1,h2.stab hs⟩
def stC (bl:List Nat) (s:StmtX) (cs:List Value):Chunk:=ofC bl (fun w=>StK bl w s cs) (fun _ _ hs h=>h.stab hs)
def qryC (bl:List Nat) (q:QryX) (vI vF vO:Value) (ec:List Value):Chunk:=ofC bl (fun w=>QK bl w q vI vF vO ec) (fun _ _ hs h=>h.stab hs)
theorem fJ {α:Type} (K:Kd α) {w:World} {A:Option Addr} {c e n:Nat} {bl:List Nat} {l:List α} {xs:List Value} (h:(row (.slice A n c) e K.z n xs).holds w) (hn:n=l.length) (hs:K.seq bl w l xs):K.sl (A.toList.map (·.block)++bl) w l (.slice A n c):=by
 subst hn
 have ho:w.ownsRow 0 e K.z (.slice A l.length c) l.length xs:=h
 have hlc:l.length≤c:=by
  rcases ho.2 with ⟨h3,h4⟩ | ⟨g,cap,cur,hv,_,_,hcap,_⟩
  · injection h3 with _ _ h5; omega
  · injection hv with _ _ h5; omega
 exact ⟨A,c,xs,rfl,hlc,uw h,fun a ha _=>by subst ha; simp,K.seq_mono (fun k hk=>List.mem_append_right _ hk) hs⟩
theorem eh {A:Option Addr} {n c e z:Nat} {m:Nat} {xs:List Value} {k:Nat} (hk:k ∈ A.toList.map (·.block)):(row (.slice A n c) e z m xs).fp k:=by
 cases A with
 | none=>simp at hk
 | some a=>simp at hk; subst hk; rfl
end Go.WK
