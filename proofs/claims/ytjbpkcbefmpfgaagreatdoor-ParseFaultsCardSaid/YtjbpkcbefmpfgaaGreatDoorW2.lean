/- Parts of the proof, joined and made shorter by a program: Wk12, Tree5, Tree6, Par3, Par4, Par5, Prn1, Prn2, Value5, Prn3, Back1, Back2, Prn4, Prn5, Prn6, Prn7, Wk13, Prn8, Prn9, Prn10, Back3, Back4, Prn11, Prn12, Par6, Wk14, Flt1, Flt2, Flt3, Flt4, PLaid, PCard. -/
import Derived.Test.YtjbpkcbefmpfgaaGreatDoorW1
import Derived.Recover
import Derived.Lib.AppendStr
import Derived.Laws.Entries
import Derived.WideLaws
import Derived.KernelRfl
import Derived.LaidMore
import Derived.LaidHandle
import Derived.Lay
import Derived.HandedShaped
import Derived.Stop.LaidErr
import Derived.Lib.LaidTab
import Derived.Deep.DeepHandedRow
namespace Go.WK.MP
open Go.RowKit Go.WK
section
variable {P : Program} {ops : Array Oper} {md : Region.Mode} {C : World → Prop} {kp : Nat → Bool} {K : List PanicEntry → Act → World → Prop}
def pEx (K : List PanicEntry → Act → World → Prop) : Exit → Act → World → Prop
 | .panic ch,a,w => K ch a w
 | _,_,_ => False
def dF (P : Program) (md : Region.Mode) (ops : Array Oper) (C : World → Prop) (kp : Nat → Bool) (K : List PanicEntry → Act → World → Prop) (Q : Act → World → Prop) : Nat → Array Bool → Act → World → Prop
 | 0,listed,a,w => Region.ready md ops listed = [] ∧ Q a w
 | f + 1,listed,a,w =>
  (Region.ready md ops listed = [] → Q a w) ∧
  ∀ i ∈ Region.ready md ops listed,wpOp P ops (pEx K) i (fun a' w' => (kp i = true → C w') ∧ ∀ w'',adv (kp i) w' w'' → dF P md ops C kp K Q f (listed.setIfInBounds i true) a' w'') a w
theorem kZ {Q : Exit → Act → World → Prop} {i : Nat} {N : Act → World → Prop} {a : Act} {w : World} (hQ : ∀ ch a w,K ch a w → Q (.panic ch) a w) (h : wpOp P ops (pEx K) i N a w) : wpOp P ops Q i N a w := by
 unfold wpOp at h ⊢
 split
 · rename_i ho; simp only [ho] at h; exact h
 · rename_i o ho
   simp only [ho] at h
   split
   · rename_i hw
     simp only [hw,if_true] at h
     rcases h with h | ⟨_,_,_,h⟩
     · exact .inl (ep (fun _ _ h => h) (fun _ _ _ h => hQ _ _ _ h) (fun _ _ h => h.elim) _ h)
     · exact h.elim
   · rename_i hw; simp only [hw] at h; exact h
theorem dG {Q : Exit → Act → World → Prop} (hQ : ∀ ch a w,K ch a w → Q (.panic ch) a w) : ∀ (f : Nat) (listed : Array Bool) (a : Act) (w : World),dF P md ops C kp K (Q .normal) f listed a w → wpAny P md ops Q f listed a w
 | 0,_,_,_,h => h
 | f + 1,_,_,_,h => ⟨h.1,fun i hi => wpOp_mono (fun a' w' h' => dG hQ f _ a' w' (h'.2 w' (pO _ _))) (kZ hQ (h.2 i hi))⟩
theorem lN {i : Nat} {o : Oper} {v : Value} {a : Act} {w : World} (hi : ops[i]? = some o) (hy : YieldsF P ops C o v a) (hC : C w) {N : Act → World → Prop} (h : ∀ w',Chg [] w w' → N (a.put o.dst v) w') : wpOp P ops (pEx K) i N a w := by
 unfold Go.wpOp
 simp only [hi]
 rcases hy with ⟨hw,hv⟩ | ⟨hw,rfl⟩
 · simp only [hw,if_true]
   left
   have h3 := hv w hC
   unfold Oper.quietAt at h3
   unfold Oper.wp
   generalize (execOp a.eval o).run P w = r at *
   cases r with
   | ok n w' =>
    cases n <;> simp only [Oper.quietUpon] at h3 <;> simp only [Oper.upon]
    case value u => obtain ⟨e1,e2⟩ := h3; rw [e1,e2]; exact h _ (Chg.refl _ _)
    case skip => obtain ⟨e1,e2⟩ := h3; rw [e1, ← e2]; exact h _ (Chg.refl _ _)
    case enter f args => obtain ⟨e1,hc⟩ := h3; rw [e1]; exact hc.mono fun e w'' ⟨he,hw''⟩ => by subst he; exact h _ hw''
   | halt x w' => simp only [Oper.quietUpon] at h3
 · simp only [hw,Bool.false_eq_true,if_false]; exact h _ (Chg.refl _ _)
theorem mp (hK : ∀ ch a i v w,K ch (a.put i v) w → K ch a w) {j : Nat} {oi oj : Oper} {v : Value} {w : World} (hj : ops[j]? = some oj) (hap : oi.apart ops oj = true)
  (hsi : ∀ cs b,oi.op ≠ .select cs b) (hsj : ∀ cs b,oj.op ≠ .select cs b) {N : Act → World → Prop} {a : Act}
  (hy : YieldsF P ops C oi v a) (h : wpOp P ops (pEx K) j N (a.put oi.dst v) w) :
  wpOp P ops (pEx K) j (fun a' w' => YieldsF P ops C oi v a' ∧ N (a'.put oi.dst v) w') a w := by
 obtain ⟨h1,h2,h3⟩ := Oper.apart_spec hap
 have keep : ∀ (a : Act),YieldsF P ops C oi v a → ∀ u,YieldsF P ops C oi v (a.put oj.dst u) := fun a hy u =>
  hy.of_same (execOp_put oi hsi a oj.dst u h3) (wanted_put oi a oj.dst u h3)
 unfold wpOp at *
 simp only [hj] at *
 rw [wanted_put oj a oi.dst v h1] at h
 split
 · rename_i hw
   simp only [hw,if_true] at h
   rcases h with h | ⟨_,_,_,h⟩
   · left
     unfold Oper.wp at *
     rw [execOp_put oj hsj a oi.dst v h1] at h
     generalize (execOp a.eval oj).run P w = r at *
     cases r with
     | ok n w' =>
      cases n <;> simp only [Oper.upon] at h ⊢
      case value u => exact ⟨keep a hy u,by rw [← Act.put_comm a v u h2]; exact h⟩
      case skip => exact ⟨keep a hy _,by rw [← Act.put_comm a v undef h2]; exact h⟩
      case defer d =>
       rw [mo] at h
       exact ⟨keep { a with defers := d :: a.defers } (hy.of_same rfl rfl) undef,by rw [← Act.put_comm _ v undef h2]; exact h⟩
      case enter f args =>
       refine Calls.mono h fun e w'' he => ?_
       cases e with
       | returned u => exact ⟨keep a hy u,by rw [← Act.put_comm a v u h2]; exact he⟩
       | panicked ch => exact hK _ _ _ _ _ he
       | outgrown => exact he
      case row nm args => exact Rows.mono h fun u w'' he => ⟨keep a hy u,by rw [← Act.put_comm a v u h2]; exact he⟩
      all_goals exact h
     | halt x w' => cases x <;> simp only [Oper.upon] at h ⊢ <;> first | exact h | exact hK _ _ _ _ _ h
   · exact h.elim
 · rename_i hw
   simp only [hw] at h
   exact ⟨keep a hy _,by rw [← Act.put_comm a v undef h2]; exact h⟩
theorem eY (hK : ∀ ch a i v w,K ch (a.put i v) w → K ch a w) {Q : Act → World → Prop} {i : Nat} {oi : Oper} {v : Value} (hi : ops[i]? = some oi) (hsel : ∀ (j : Nat) (o : Oper) cs b,ops[j]? = some o → o.op ≠ .select cs b)
  (hext : ∀ w w',C w → Chg [] w w' → C w') (hkp : ∀ (listed : Array Bool) j,Shut md ops listed → listed.getD i true = false → j ≠ i → j ∈ Region.ready md ops listed → kp j = true) :
  ∀ (fuel : Nat) (listed : Array Bool) (a : Act) (w : World),Shut md ops listed →
   (∀ j oj,ops[j]? = some oj → j ≠ i → listed.getD j true = false → (∀ e ∈ oj.after,Region.binds md e = true → e.on ≠ i) → oi.apart ops oj = true) →
   i ∈ Region.ready md ops listed → YieldsF P ops C oi v a → C w →
   (∀ w',Chg [] w w' → dF P md ops C kp K Q fuel (listed.setIfInBounds i true) (a.put oi.dst v) w') → dF P md ops C kp K Q (fuel + 1) listed a w := by
 intro fuel
 induction fuel with
 | zero =>
  intro listed a w _ _ hr hy hC H
  refine ⟨fun h => (by rw [h] at hr; cases hr),fun j hj => ?_⟩
  by_cases hji : j = i
  · subst hji; exact lN hi hy hC fun w' hw' => ⟨fun _ => hext _ _ hC hw',fun w'' h'' => H w'' (hw'.trans (cS h''))⟩
  · have := ready_mono hj hji
    rw [(H w (Chg.refl _ _)).1] at this
    cases this
 | succ fuel ih =>
  intro listed a w hcl hfree hr hy hC H
  refine ⟨fun h => (by rw [h] at hr; cases hr),fun j hj => ?_⟩
  by_cases hji : j = i
  · subst hji; exact lN hi hy hC fun w' hw' => ⟨fun _ => hext _ _ hC hw',fun w'' h'' => H w'' (hw'.trans (cS h''))⟩
  · have h1 := (H w (Chg.refl _ _)).2 j (ready_mono hj hji)
    obtain ⟨hjun,oj,hoj,hall⟩ := mem_ready.1 hj
    have hnot : ∀ e ∈ oj.after,Region.binds md e = true → e.on ≠ i := fun e he hb heq => by
     have h1 := hall e he hb
     have h0 := (mem_ready.1 hr).1
     rw [heq] at h1
     rcases Nat.lt_or_ge i listed.size with h' | h'
     · simp [h'] at h0 h1; rw [h0] at h1; cases h1
     · simp [Array.getElem?_eq_none h'] at h1
    have hap := hfree j oj hoj hji hjun hnot
    have hkj := hkp listed j hcl (mem_ready.1 hr).1 hji hj
    have h2 := mp hK hoj hap (fun cs b => hsel i oi cs b hi) (fun cs b => hsel j oj cs b hoj) hy h1
    have hfree' : ∀ k ok,ops[k]? = some ok → k ≠ i → (listed.setIfInBounds j true).getD k true = false →
      (∀ e ∈ ok.after,Region.binds md e = true → e.on ≠ i) → oi.apart ops ok = true := fun k ok hk hki hun hno => by
     refine hfree k ok hk hki ?_ hno
     by_cases hjk : j = k
     · subst hjk; exact hjun
     · rw [getD_set_ne true hjk] at hun; exact hun
    refine wpOp_mono (fun a' w' h3 => ⟨h3.2.1,fun w'' hw'' => ?_⟩) h2
    refine ih (listed.setIfInBounds j true) a' w'' (hcl.set hj) hfree' (ready_mono hr (Ne.symm hji)) h3.1 (hext _ _ (h3.2.1 hkj) (cS hw'')) (fun w3 hw3 => ?_)
    have := h3.2.2 w3 (by rw [hkj] at hw'' ⊢; exact Chg.trans hw'' hw3)
    rw [Array.setIfInBounds_comm _ _ (Ne.symm hji)] at this
    exact this
def ge (P : Program) (ops : Array Oper) (C : World → Prop) (loose : List Nat) (K : List PanicEntry → Act → World → Prop) (Q : Act → World → Prop) : List (Nat × Bool) → Act → World → Prop
 | [],a,w => Q a w
 | (i,true) :: l,a,w => ∃ o v,ops[i]? = some o ∧ YieldsF P ops C o v a ∧ ∀ w',Chg [] w w' → ge P ops C loose K Q l (a.put o.dst v) w'
 | (i,false) :: l,a,w => wpOp P ops (pEx K) i (fun a' w' => ((!loose.contains i) = true → C w') ∧ ∀ w'',adv (!loose.contains i) w' w'' → ge P ops C loose K Q l a' w'') a w
theorem dw (hK : ∀ ch a i v w,K ch (a.put i v) w → K ch a w) {Q : Act → World → Prop} {loose : List Nat} (hs : Region.noSelect ops = true) (hext : ∀ w w',C w → Chg [] w w' → C w') : ∀ (l : List (Nat × Bool)) (listed : Array Bool) (a : Act) (w : World),
  eZ md ops loose l listed = true → Shut md ops listed → ((∃ p ∈ l,p.2 = true) → C w) → ge P ops C loose K Q l a w → dF P md ops C (fun j => !loose.contains j) K Q l.length listed a w
 | [],_,_,_,hB,_,_,h => ⟨by simpa [eZ] using hB,h⟩
 | (i,true) :: l,listed,a,w,hB,hcl,hC,h => by
  obtain ⟨o,v,hi,hy,hk⟩ := h
  simp only [eZ,Bool.and_eq_true] at hB
  obtain ⟨hr,hf,hk',hB'⟩ := hB
  have hCw := hC ⟨_,List.mem_cons_self,rfl⟩
  refine eY hK hi (Region.noSelect_spec hs) hext (fun lst j hs' hi' hji hj => ?_) l.length listed a w hcl (Region.free_spec hi hf) (by simpa using hr) hy hCw
   (fun w' hw' => dw hK hs hext l _ _ w' hB' (hcl.set (by simpa using hr)) (fun _ => hext _ _ hCw hw') (hk w' hw'))
  cases hc : loose.contains j with
  | false => rfl
  | true => exact absurd hj (la hs' hi' hji (List.all_eq_true.1 hk' j (by simpa using hc)))
 | (i,false) :: l,listed,a,w,hB,hcl,hC,h => by
  simp only [eZ,Bool.and_eq_true,beq_iff_eq] at hB
  obtain ⟨hr,hl,hB'⟩ := hB
  show dF P md ops C _ K Q (l.length + 1) listed a w
  refine ⟨fun h0 => (by rw [hr] at h0; cases h0),fun j hj => ?_⟩
  rw [hr] at hj
  obtain rfl : j = i := by simpa using hj
  refine wpOp_mono (fun a' w' h' => ⟨h'.1,fun w'' hw'' => dw hK hs hext l _ a' w'' hB' (hcl.set (by rw [hr]; exact List.mem_cons_self)) ?_ (h'.2 w'' hw'')⟩) h
  rintro ⟨p,hp,hpt⟩
  simp only [Bool.or_eq_true] at hl
  rcases hl with hl | hl
  · exact hext _ _ (h'.1 hl) (cS hw'')
  · have := List.all_eq_true.1 hl p hp
    rw [hpt] at this
    cases this
end
section
variable {cx : Cx} {fs : aV} {H C : List Chunk} {Q : ck} {ops : Array Oper} {loose : List Nat} {ord : List (Nat × Bool)}
def pK (cx : Cx) (Q : ck) : List PanicEntry → Act → World → Prop := fun ch a w => (a.defers = cx.ds ∧ a.tmps.size = cx.n) ∧ Sat cx [] w ∧ Q (.panic ch) [] []
theorem pK_put (ch : List PanicEntry) (a : Act) (i : Option Tmp) (v : Value) (w : World) (h : pK cx Q ch (a.put i v) w) : pK cx Q ch a w := by
 refine ⟨⟨?_, ?_⟩,h.2⟩
 · have := h.1.1; cases i <;> exact this
 · have := h.1.2; cases i <;> simpa [Act.put] using this
def mq (Q : ck) (N : aV → List Chunk → Prop) : ck
 | .normal,fs,H => N fs H
 | .panic ch,_,_ => Q (.panic ch) [] []
 | _,_,_ => False
def jX (cx : Cx) (C : List Chunk) (ops : Array Oper) (loose : List Nat) (fs : aV) (H : List Chunk) (ord : List (Nat × Bool)) (Q : ck) : Prop :=
 ∀ a w,Has cx.n cx.ds fs a → Sat cx H w → ge cx.P ops (Sat cx C) loose (pK cx Q) (fun a w => gA cx Q .normal a w) ord a w
theorem bh {id : Nat} {l : List Oper} (C : List Chunk) (ord : List (Nat × Bool)) (loose : List Nat) (hm : cx.P.follows .mixedOrders = true) (hB : mixB .any l.toArray loose ord = true) (hC : ∀ w,Sat cx H w → Sat cx C w)
  (h : jX cx C l.toArray loose fs H ord Q) : Tri cx fs H (.region id l.toArray true) Q := fun a w ha hw => by
 simp only [mixB,Bool.and_eq_true,beq_iff_eq] at hB
 have h1 := dw (K := pK cx Q) (fun ch a i v w => pK_put ch a i v w) hB.1 (fun w w' h k => h.ext k) ord _ a _ hB.2.2 (fun j oj _ hj => by rw [eX] at hj; cases hj) (fun _ => hC _ hw.drew) (h a _ ha hw.drew)
 rw [hB.2.1] at h1
 exact wp_region_any hm (dG (fun ch a w hk => ⟨[],[],⟨hk.1.1,hk.1.2,fun d v hd => by cases hd⟩,hk.2.1,hk.2.2⟩) _ _ _ _ h1)
theorem cD (h : Q .normal fs H) : jX cx C ops loose fs H [] Q := fun _ _ ha hw => ⟨fs,H,ha,hw,h⟩
theorem ai {i : Nat} {o : Oper} (hi : ops[i]? = some o) (h : TriX true cx ops fs C [o] (fun e fs' _ => e = .normal ∧ jX cx C ops loose fs' H ord Q)) : jX cx C ops loose fs H ((i,true) :: ord) Q := fun a w ha hw => by
 have h1 := h a ha
 unfold eC at h1
 by_cases hw' : Region.wanted o (yielded ops a.tmps) = true
 · rw [if_pos hw'] at h1
   obtain ⟨v,h2,fs',h3,_,h4⟩ := h1
   exact ⟨o,v,hi,.inl ⟨hw',h2⟩,fun w' hc => h4 _ w' h3 (hw.ext hc)⟩
 · rw [if_neg hw'] at h1
   obtain ⟨fs',h3,_,h4⟩ := h1
   exact ⟨o,undef,hi,.inr ⟨by simpa using hw',rfl⟩,fun w' hc => h4 _ w' h3 (hw.ext hc)⟩
theorem aN {i : Nat} {o : Oper} (hi : ops[i]? = some o) (h : TriX false cx ops fs H [o] (mq Q fun fs' H' => ((!loose.contains i) = true → ∀ w,Sat cx H' w → Sat cx C w) ∧ jX cx C ops loose fs' H' ord Q)) : jX cx C ops loose fs H ((i,false) :: ord) Q := fun a w ha hw => by
 have h1 := h a w ha hw
 unfold wpList at h1
 unfold ge wpOp
 simp only [hi]
 have key : ∀ a' w',wpList cx.P ops (gA cx (mq Q fun fs' H' => ((!loose.contains i) = true → ∀ w,Sat cx H' w → Sat cx C w) ∧ jX cx C ops loose fs' H' ord Q)) [] a' w' →
   ((!loose.contains i) = true → Sat cx C w') ∧ ∀ w'',adv (!loose.contains i) w' w'' → ge cx.P ops (Sat cx C) loose (pK cx Q) (fun a w => gA cx Q .normal a w) ord a' w'' := by
  rintro a' w' ⟨fs',H',h2,h3,h4,h5⟩
  exact ⟨fun hk => h4 hk _ h3,fun w'' hc => h5 _ _ h2 (h3.ext (cS hc))⟩
 split
 · rename_i hw'
   rw [if_pos hw'] at h1
   rcases h1 with h1 | ⟨_,a',w',fs',H',_,_,h2⟩
   · refine .inl (ep key (fun ch a w ⟨fs',H',h2,h3,h4⟩ => ⟨⟨h2.ds,h2.size⟩,h3.sublist (List.nil_sublist _),h4⟩) (fun _ _ ⟨_,_,_,_,h⟩ => h.elim) _ h1)
   · exact h2.elim
 · rename_i hw'
   rw [if_neg hw'] at h1
   exact key _ _ h1
end
end Go.WK.MP
namespace Go.WK
open Go.RowKit
structure ColX where
 n : List UInt8
 k : Int
 b : Bool
structure ItemX where
 e : Ex
 s : List UInt8
structure SrcX where
 t : List UInt8
 s : List UInt8
 e : Ex
structure OrdX where
 n : List UInt8
 b : Bool
structure SetX where
 n : List UInt8
 e : Ex
structure QryX where
 di : Bool
 st : Bool
 items : List ItemX
 from_ : List SrcX
 wh : Ex
 ord : List OrdX
 li : Bool
 lim : Int
structure StmtX where
 k : Int
 t : List UInt8
 n : List UInt8
 cols : List ColX
 on : List (List UInt8)
 un : Bool
 rows : List (List Ex)
 sets : List SetX
 wh : Ex
 q : QryX
def QryX.zero : QryX := ⟨false,false,[],[],Ex.zero,[],false,0⟩
def StmtX.zero : StmtX := ⟨0,[],[],[],[],false,[],[],Ex.zero,QryX.zero⟩
abbrev PT (α : Type) := Except Flt (α × List Tok)
def W (s : List UInt8) (ts : List Tok) : Bool := atT 1 s ts
def rH : List UInt8 := [119,104,101,114,101]
def asB : List UInt8 := [97,115]
def fS : List UInt8 := [102,114,111,109]
def mN : List UInt8 := [106,111,105,110]
def onB : List UInt8 := [111,110]
def kc : List UInt8 := [111,114,100,101,114]
def byB : List UInt8 := [98,121]
def iA : List UInt8 := [100,101,115,99]
def lf : List UInt8 := [108,105,109,105,116]
def bA : List UInt8 := [100,105,115,116,105,110,99,116]
def hD : List UInt8 := [115,101,108,101,99,116]
def go : List UInt8 := [99,114,101,97,116,101]
def ea : List UInt8 := [116,97,98,108,101]
def lO : List UInt8 := [100,114,111,112]
def eb : List UInt8 := [105,110,100,101,120]
def iT : List UInt8 := [105,110,115,101,114,116]
def jq : List UInt8 := [105,110,116,111]
def gp : List UInt8 := [118,97,108,117,101,115]
def jN : List UInt8 := [100,101,108,101,116,101]
def kH : List UInt8 := [117,112,100,97,116,101]
def setB : List UInt8 := [115,101,116]
def cO : List UInt8 := [117,110,105,113,117,101]
def iU : List UInt8 := [98,101,103,105,110]
def hG : List UInt8 := [99,111,109,109,105,116]
def fG : List UInt8 := [114,111,108,108,98,97,99,107]
def intB : List UInt8 := [105,110,116]
def p5 : List UInt8 := [116,101,120,116]
def boolB : List UInt8 := [98,111,111,108]
def cF (f d : Nat) (ts : List Tok) : PX Ex := if atT 1 rH ts = true then exP f 1 d (ts.drop 1) else .ok (Ex.zero,ts)
def eF (ts : List Tok) : Bool :=
 if (hd ts).k = 2 ∨ (hd ts).k = 3 then true
 else if (hd ts).k = 4 then decide ((hd ts).t = [40]) || decide ((hd ts).t = [45])
 else if (hd ts).k = 1 then (if (hd ts).t = cM ∨ (hd ts).t = kG ∨ (hd ts).t = iQ ∨ (hd ts).t = gJ then true else nmT ts)
 else false
def cz {τ : Type} (can : List Tok → Bool) (one : τ → List Tok → PT τ) : Nat → Nat → τ → List Tok → PT τ
 | 0,_,s,ts => .ok (s,ts)
 | f + 1,n,s,ts =>
  if n = 0 ∨ atT 4 [44] ts = true then
   (if can (if n = 0 then ts else ts.drop 1) = true then
    (if n = 16 then .error (3,(hd (if n = 0 then ts else ts.drop 1)).a) else match one s (if n = 0 then ts else ts.drop 1) with
     | .error x => .error x
     | .ok (s',us) => cz can one f (n + 1) s' us)
   else eS (if n = 0 then ts else ts.drop 1))
  else .ok (s,ts)
def asP (ts : List Tok) : PT (List UInt8) := if atT 1 asB ts = true then bj (ts.drop 1) else .ok ([],ts)
def fz (f d : Nat) (l : List ItemX) (ts : List Tok) : PT (List ItemX) := match exP f 1 d ts with
 | .error x => .error x
 | .ok (e,us) => match asP us with
  | .error x => .error x
  | .ok (n,vs) => .ok (l ++ [⟨e,n⟩],vs)
def eu (ts : List Tok) : PT (List UInt8 × List UInt8) := match bj ts with
 | .error x => .error x
 | .ok (t,us) => match asP us with
  | .error x => .error x
  | .ok (n,vs) => .ok ((t,n),vs)
def jh (l : List OrdX) (ts : List Tok) : PT (List OrdX) := match bj ts with
 | .error x => .error x
 | .ok (n,us) => .ok (l ++ [⟨n,atT 1 iA us⟩],if atT 1 iA us = true then us.drop 1 else us)
def bI (s : List UInt8) (ts : List Tok) : Except Flt (List Tok) := if atT 1 s ts = true then .ok (ts.drop 1) else .error (190,(hd ts).a)
def f8 (s : List UInt8) (ts : List Tok) : Except Flt (List Tok) := if atT 4 s ts = true then .ok (ts.drop 1) else .error (190,(hd ts).a)
def dV (f d : Nat) (l : List SrcX) (ts : List Tok) : PT (List SrcX) :=
 if nmT ts = true ∧ l.length = 4 then .error (3,(hd ts).a) else match eu ts with
 | .error x => .error x
 | .ok ((t,s),us) => match bI onB us with
  | .error x => .error x
  | .ok vs => match exP f 1 d vs with
   | .error x => .error x
   | .ok (e,zs) => .ok (l ++ [⟨t,s,e⟩],zs)
def db (f d : Nat) : Nat → List SrcX → List Tok → PT (List SrcX)
 | 0,l,ts => .ok (l,ts)
 | k + 1,l,ts => if atT 1 mN ts = true then (match dV f d l (ts.drop 1) with | .error x => .error x | .ok (l',us) => db f d k l' us) else .ok (l,ts)
def dW (f d : Nat) (ts : List Tok) : PT (List SrcX) := if atT 1 fS ts = true then (match eu (ts.drop 1) with | .error x => .error x | .ok ((t,s),us) => db f d 5 [⟨t,s,Ex.zero⟩] us) else .ok ([],ts)
def e9 (f d : Nat) (ts : List Tok) : PT (List ItemX) := if atT 4 [42] ts = true then .ok ([],ts.drop 1) else cz eF (fz f d) 17 0 [] ts
def dx (ts : List Tok) : PT (List OrdX) := if atT 1 kc ts = true then (match bI byB (ts.drop 1) with | .error x => .error x | .ok us => cz nmT jh 17 0 [] us) else .ok ([],ts)
def ee (ts : List Tok) : PT (Bool × Int) := if atT 1 lf ts = true then (if (hd (ts.drop 1)).k = 2 then .ok ((true,iz (hd (ts.drop 1)).t),(ts.drop 1).drop 1) else eS (ts.drop 1)) else .ok ((false,0),ts)
def cG (ts : List Tok) : List Tok := if atT 1 bA ts = true then ts.drop 1 else ts
def cI (f d : Nat) (ts : List Tok) : PT QryX := match e9 f d (cG ts) with
 | .error x => .error x
 | .ok (its,t1) => match dW f d t1 with
  | .error x => .error x
  | .ok (fr,t2) => match cF f d t2 with
   | .error x => .error x
   | .ok (wh,t3) => match dx t3 with
    | .error x => .error x
    | .ok (os,t4) => match ee t4 with
     | .error x => .error x
     | .ok ((li,lim),t5) => .ok (⟨atT 1 bA ts,atT 4 [42] (cG ts),its,fr,wh,os,li,lim⟩,t5)
def cJ (ts : List Tok) : Int := if atT 1 intB ts = true then 1 else if atT 1 p5 ts = true then 2 else if atT 1 boolB ts = true then 3 else 0
def jr (l : List ColX) (ts : List Tok) : PT (List ColX) := match bj ts with
 | .error x => .error x
 | .ok (n,us) => if cJ us = 0 then eS us else
  if atT 1 gJ (us.drop 1) = true then (match bI cM ((us.drop 1).drop 1) with | .error x => .error x | .ok vs => .ok (l ++ [⟨n,cJ us,true⟩],vs)) else .ok (l ++ [⟨n,cJ us,false⟩],us.drop 1)
def onP (l : List (List UInt8)) (ts : List Tok) : PT (List (List UInt8)) := match bj ts with
 | .error x => .error x
 | .ok (n,us) => .ok (l ++ [n],us)
def gK (f d : Nat) (l : List SetX) (ts : List Tok) : PT (List SetX) := match bj ts with
 | .error x => .error x
 | .ok (n,us) => match f8 [61] us with
  | .error x => .error x
  | .ok vs => match exP f 1 d vs with
   | .error x => .error x
   | .ok (e,zs) => .ok (l ++ [⟨n,e⟩],zs)
def fT (f d : Nat) (l : List Ex) (ts : List Tok) : PT (List Ex) := match exP f 1 d ts with
 | .error x => .error x
 | .ok (e,us) => .ok (l ++ [e],us)
def inP {τ : Type} (can : List Tok → Bool) (one : List τ → List Tok → PT (List τ)) (ts : List Tok) : PT (List τ) := match f8 [40] ts with
 | .error x => .error x
 | .ok us => match cz can one 17 0 [] us with
  | .error x => .error x
  | .ok (l,vs) => match f8 [41] vs with
   | .error x => .error x
   | .ok zs => .ok (l,zs)
def cN (f d : Nat) : Nat → List (List Ex) → List Tok → PT (List (List Ex))
 | 0,l,ts => .ok (l,ts)
 | k + 1,l,ts => match inP eF (fT f d) ts with
  | .error x => .error x
  | .ok (r,us) => if atT 4 [44] us = true then cN f d k (l ++ [r]) (us.drop 1) else .ok (l ++ [r],us)
def eK (ts : List Tok) : PT StmtX :=
 if atT 1 ea ts = true then (match bj (ts.drop 1) with
  | .error x => .error x
  | .ok (t,us) => match inP nmT jr us with
   | .error x => .error x
   | .ok (l,vs) => .ok ({ StmtX.zero with k := 1,t := t,cols := l },vs))
 else match bI eb (if atT 1 cO ts = true then ts.drop 1 else ts) with
  | .error x => .error x
  | .ok us => match bj us with
   | .error x => .error x
   | .ok (n,vs) => match bI onB vs with
    | .error x => .error x
    | .ok zs => match bj zs with
     | .error x => .error x
     | .ok (t,xs) => match inP nmT onP xs with
      | .error x => .error x
      | .ok (l,ys) => .ok ({ StmtX.zero with k := 3,un := atT 1 cO ts,n := n,t := t,on := l },ys)
def fU (ts : List Tok) : PT StmtX :=
 if atT 1 ea ts = true then (match bj (ts.drop 1) with | .error x => .error x | .ok (t,us) => .ok ({ StmtX.zero with k := 2,t := t },us))
 else match bI eb ts with
  | .error x => .error x
  | .ok us => match bj us with | .error x => .error x | .ok (n,vs) => .ok ({ StmtX.zero with k := 4,n := n },vs)
def dt (f d : Nat) (ts : List Tok) : PT StmtX := match bI jq ts with
 | .error x => .error x
 | .ok us => match bj us with
  | .error x => .error x
  | .ok (t,vs) => match bI gp vs with
   | .error x => .error x
   | .ok zs => match cN f d zs.length [] zs with
    | .error x => .error x
    | .ok (l,xs) => .ok ({ StmtX.zero with k := 5,t := t,rows := l },xs)
def dH (f d : Nat) (ts : List Tok) : PT StmtX := match bI fS ts with
 | .error x => .error x
 | .ok us => match bj us with
  | .error x => .error x
  | .ok (t,vs) => match cF f d vs with
   | .error x => .error x
   | .ok (e,zs) => .ok ({ StmtX.zero with k := 6,t := t,wh := e },zs)
def du (f d : Nat) (ts : List Tok) : PT StmtX := match bj ts with
 | .error x => .error x
 | .ok (t,us) => match bI setB us with
  | .error x => .error x
  | .ok vs => match cz nmT (gK f d) 17 0 [] vs with
   | .error x => .error x
   | .ok (l,zs) => match cF f d zs with
    | .error x => .error x
    | .ok (e,xs) => .ok ({ StmtX.zero with k := 7,t := t,sets := l,wh := e },xs)
def fa (f d : Nat) (ts : List Tok) : PT StmtX := match cI f d ts with
 | .error x => .error x
 | .ok (q,us) => .ok ({ StmtX.zero with k := 8,q := q },us)
def dC (f d : Nat) (ts : List Tok) : PT StmtX :=
 if atT 1 go ts = true then eK (ts.drop 1)
 else if atT 1 lO ts = true then fU (ts.drop 1)
 else if atT 1 iT ts = true then dt f d (ts.drop 1)
 else if atT 1 jN ts = true then dH f d (ts.drop 1)
 else if atT 1 kH ts = true then du f d (ts.drop 1)
 else if atT 1 hD ts = true then fa f d (ts.drop 1)
 else if atT 1 iU ts = true then .ok ({ StmtX.zero with k := 9 },ts.drop 1)
 else if atT 1 hG ts = true then .ok ({ StmtX.zero with k := 10 },ts.drop 1)
 else if atT 1 fG ts = true then .ok ({ StmtX.zero with k := 11 },ts.drop 1)
 else eS ts
def js (f : Nat) (ts : List Tok) : Except Flt StmtX := match dC f 0 ts with
 | .error x => .error x
 | .ok (s,us) => if (hd (if atT 4 [59] us = true then us.drop 1 else us)).k = 5 then .ok s else .error (190,(hd (if atT 4 [59] us = true then us.drop 1 else us)).a)
def cu (s : List UInt8) : Except Flt StmtX := match cQ s with
 | .error x => .error x
 | .ok ts => js (8 * ts.length + 8) ts
end Go.WK
namespace Go.WK
open Go.RowKit
structure Kd (α : Type) where
 z : Nat
 pos : 0 < z
 rel : List Nat → World → α → List Value → Prop
 len : ∀ {bl w a cs},rel bl w a cs → cs.length = z
 one : ∀ {bl w a cs},rel bl w a cs → allOne cs = true
 stab : ∀ {bl w w' a cs},(∀ k ∈ bl,w'.heap[k]? = w.heap[k]?) → rel bl w a cs → rel bl w' a cs
 mono : ∀ {bl bl' w a cs},(∀ k ∈ bl,k ∈ bl') → rel bl w a cs → rel bl' w a cs
section
variable {α : Type} (K : Kd α)
def Kd.seq (bl : List Nat) (w : World) : List α → List Value → Prop
 | [],xs => xs = []
 | a :: l,xs => ∃ y ys,xs = y ++ ys ∧ K.rel bl w a y ∧ Kd.seq bl w l ys
theorem Kd.seq_len {bl : List Nat} {w : World} : ∀ {l : List α} {xs : List Value},K.seq bl w l xs → xs.length = l.length * K.z
 | [],_,h => by have h : _ = [] := h; rw [h]; simp
 | a :: l,_,h => by
  obtain ⟨y,ys,rfl,h1,h2⟩ := h
  rw [List.length_append,K.len h1,Kd.seq_len h2,List.length_cons,Nat.add_mul,Nat.one_mul,Nat.add_comm]
theorem eG (a b : List Value) : allOne (a ++ b) = (allOne a && allOne b) := by
 induction a with
 | nil => rfl
 | cons x a ih => simp [allOne,ih,Bool.and_assoc]
theorem Kd.seq_stab {bl : List Nat} {w w' : World} (hs : ∀ k ∈ bl,w'.heap[k]? = w.heap[k]?) : ∀ {l : List α} {xs : List Value},K.seq bl w l xs → K.seq bl w' l xs
 | [],_,h => h
 | a :: l,_,h => by
  obtain ⟨y,ys,h0,h1,h2⟩ := h
  exact ⟨y,ys,h0,K.stab hs h1,Kd.seq_stab hs h2⟩
theorem Kd.seq_mono {bl bl' : List Nat} {w : World} (hs : ∀ k ∈ bl,k ∈ bl') : ∀ {l : List α} {xs : List Value},K.seq bl w l xs → K.seq bl' w l xs
 | [],_,h => h
 | a :: l,_,h => by
  obtain ⟨y,ys,h0,h1,h2⟩ := h
  exact ⟨y,ys,h0,K.mono hs h1,Kd.seq_mono hs h2⟩
theorem Kd.seq_app {bl : List Nat} {w : World} : ∀ {l m : List α} {xs ys : List Value},K.seq bl w l xs → K.seq bl w m ys → K.seq bl w (l ++ m) (xs ++ ys)
 | [],_,xs,_,h,k => by have h : xs = [] := h; subst h; exact k
 | a :: l,m,_,ys,h,k => by
  obtain ⟨y,zs,rfl,h1,h2⟩ := h
  exact ⟨y,zs ++ ys,by simp,h1,Kd.seq_app h2 k⟩
theorem Kd.seq_at {bl : List Nat} {w : World} (zero : α) : ∀ {l : List α} {xs : List Value} (i : Nat),K.seq bl w l xs → i < l.length → ∃ cs,(xs.drop (i * K.z)).take K.z = cs ∧ K.rel bl w (l.getD i zero) cs
 | [],_,i,_,hi => by simp at hi
 | a :: l,_,i,h,hi => by
  obtain ⟨y,ys,rfl,h2,h3⟩ := h
  have hy := K.len h2
  cases i with
  | zero =>
   refine ⟨y, ?_,h2⟩
   rw [Nat.zero_mul,List.drop_zero]
   exact List.take_left' hy
  | succ i =>
   obtain ⟨cs,k1,k2⟩ := Kd.seq_at zero i h3 (by simpa using hi)
   refine ⟨cs, ?_,by simpa using k2⟩
   rw [show (i + 1) * K.z = y.length + i * K.z by rw [hy,Nat.add_mul]; omega,List.drop_length_add_append]
   exact k1
def Kd.sl (bl : List Nat) (w : World) (l : List α) (v : Value) : Prop := ∃ (A : Option Addr) (k : Nat) (xs : List Value),v = .slice A l.length k ∧ l.length ≤ k ∧ Rd w A xs ∧ (∀ a,A = some a → l ≠ [] → a.block ∈ bl) ∧ K.seq bl w l xs
theorem Kd.sl_stab {bl : List Nat} {w w' : World} (hs : ∀ k ∈ bl,w'.heap[k]? = w.heap[k]?) {l : List α} {v : Value} (h : K.sl bl w l v) : K.sl bl w' l v := by
 obtain ⟨A,k,xs,h1,h2,h3,h4,h5⟩ := h
 refine ⟨A,k,xs,h1,h2,h3.same (fun a ha hne => hs _ (h4 a ha (fun e => hne ?_))),h4,K.seq_stab hs h5⟩
 rw [e] at h5
 exact h5
theorem Kd.sl_mono {bl bl' : List Nat} {w : World} (hs : ∀ k ∈ bl,k ∈ bl') {l : List α} {v : Value} (h : K.sl bl w l v) : K.sl bl' w l v := by
 obtain ⟨A,k,xs,h1,h2,h3,h4,h5⟩ := h
 exact ⟨A,k,xs,h1,h2,h3,fun a ha hne => hs _ (h4 a ha hne),K.seq_mono hs h5⟩
theorem Kd.sl_nil (bl : List Nat) (w : World) : K.sl bl w [] (.slice none 0 0) := ⟨none,0,[],rfl,Nat.le_refl _,Rd.nil _ _,(fun _ h => by cases h),rfl⟩
theorem lt_stab {bl : List Nat} {w w' : World} (h : ∀ k ∈ bl,k < w.heap.size) (hs : ∀ k,k ∈ bl → w'.heap[k]? = w.heap[k]?) : ∀ k ∈ bl,k < w'.heap.size := fun k hk => by
 have h1 := h k hk
 have h2 := hs k hk
 rcases Nat.lt_or_ge k w'.heap.size with h3 | h3
 · exact h3
 · rw [Array.getElem?_eq_none h3,Array.getElem?_eq_getElem h1] at h2; cases h2
def ofC (bl : List Nat) (φ : World → Prop) (st : ∀ w w',(∀ k ∈ bl,w'.heap[k]? = w.heap[k]?) → φ w → φ w') : Chunk where
 fp k := k ∈ bl
 holds w := φ w ∧ ∀ k ∈ bl,k < w.heap.size
 lt _ k h hk := h.2 k hk
 stab w w' h hs := ⟨st w w' hs h.1,lt_stab h.2 hs⟩
def dh (bl : List Nat) (l : List α) (xs : List Value) : Chunk := ofC bl (fun w => K.seq bl w l xs) (fun _ _ hs h => K.seq_stab hs h)
end
theorem Sat.nilSeq {α : Type} (K : Kd α) {cx : Cx} {H : List Chunk} {w : World} (h : Sat cx H w) : Sat cx (dh K [] [] [] :: H) w :=
 h.fuse (l := []) _ (fun _ => ⟨rfl,fun k hk => by cases hk⟩) (fun k hk => by cases hk)
theorem Sat.moreSeq {α : Type} (K : Kd α) {cx : Cx} {H : List Chunk} {w : World} {bl bm : List Nat} {l : List α} {xs cs ys : List Value} {a : α} {e : Ex} (h : Sat cx (dh K bl l xs :: fx bm e cs :: H) w) (hr : ∀ w,ExK bm w e cs → K.rel bm w a ys) : Sat cx (dh K (bl ++ bm) (l ++ [a]) (xs ++ ys) :: H) w := by
 refine Sat.fuse (l := [_,_]) h _ (fun hh => ?_) (fun j hj => ?_)
 · have h1 := hh _ List.mem_cons_self
   have h2 := hh _ (List.mem_cons_of_mem _ List.mem_cons_self)
   refine ⟨K.seq_app (K.seq_mono (fun k hk => List.mem_append_left _ hk) h1.1) ⟨ys,[],by simp,K.mono (fun k hk => List.mem_append_right _ hk) (hr w h2.1),rfl⟩,fun j hj => ?_⟩
   rcases List.mem_append.1 hj with hj | hj
   · exact h1.2 j hj
   · exact h2.2 j hj
 · rcases List.mem_append.1 hj with hj | hj
   · exact ⟨_,List.mem_cons_self,hj⟩
   · exact ⟨_,List.mem_cons_of_mem _ List.mem_cons_self,hj⟩
theorem Sat.moreSeq0 {α : Type} (K : Kd α) {cx : Cx} {H : List Chunk} {w : World} {bl : List Nat} {l : List α} {xs ys : List Value} {a : α} (h : Sat cx (dh K bl l xs :: H) w) (hr : ∀ w,K.rel bl w a ys) : Sat cx (dh K bl (l ++ [a]) (xs ++ ys) :: H) w := by
 refine Sat.fuse (l := [_]) h _ (fun hh => ?_) (fun j hj => ⟨_,List.mem_cons_self,hj⟩)
 have h1 := hh _ List.mem_cons_self
 exact ⟨K.seq_app h1.1 ⟨ys,[],by simp,hr w,rfl⟩,h1.2⟩
theorem ExK.len {bl : List Nat} {w : World} {e : Ex} {cs : List Value} (h : ExK bl w e cs) : cs.length = 8 := (ExK.c e cs h).len
theorem ExK.ones {bl : List Nat} {w : World} {e : Ex} {cs : List Value} (h : ExK bl w e cs) : allOne cs = true := by
 cases e with
 | mk o v t n c as => obtain ⟨A,k,xs,rfl,_⟩ := h; rfl
def dI : Kd Ex := ⟨8,by decide,ExK,ExK.len,ExK.ones,fun hs h => ExK.stab hs _ _ h,fun hs h => ExK.mono hs _ _ h⟩
def itemKd : Kd ItemX := ⟨9,by decide,fun bl w a ys => ∃ cs,ys = cs ++ [.string (B a.s)] ∧ ExK bl w a.e cs,fun ⟨_,h1,h2⟩ => by rw [h1,List.length_append,h2.len]; rfl,fun ⟨_,h1,h2⟩ => by rw [h1,eG,h2.ones]; rfl,
 fun hs ⟨cs,h1,h2⟩ => ⟨cs,h1,ExK.stab hs _ _ h2⟩,fun hs ⟨cs,h1,h2⟩ => ⟨cs,h1,ExK.mono hs _ _ h2⟩⟩
def srcKd : Kd SrcX := ⟨10,by decide,fun bl w a ys => ∃ cs,ys = [.string (B a.t),.string (B a.s)] ++ cs ∧ ExK bl w a.e cs,fun ⟨_,h1,h2⟩ => by rw [h1,List.length_append,h2.len]; rfl,fun ⟨_,h1,h2⟩ => by rw [h1,eG,h2.ones]; rfl,
 fun hs ⟨cs,h1,h2⟩ => ⟨cs,h1,ExK.stab hs _ _ h2⟩,fun hs ⟨cs,h1,h2⟩ => ⟨cs,h1,ExK.mono hs _ _ h2⟩⟩
def setKd : Kd SetX := ⟨9,by decide,fun bl w a ys => ∃ cs,ys = [.string (B a.n)] ++ cs ∧ ExK bl w a.e cs,fun ⟨_,h1,h2⟩ => by rw [h1,List.length_append,h2.len]; rfl,fun ⟨_,h1,h2⟩ => by rw [h1,eG,h2.ones]; rfl,
 fun hs ⟨cs,h1,h2⟩ => ⟨cs,h1,ExK.stab hs _ _ h2⟩,fun hs ⟨cs,h1,h2⟩ => ⟨cs,h1,ExK.mono hs _ _ h2⟩⟩
def ColX.cs (a : ColX) : List Value := [.string (B a.n),.int .i64 a.k,.bool a.b]
def OrdX.cs (a : OrdX) : List Value := [.string (B a.n),.bool a.b]
def rJ {α : Type} (z : Nat) (hz : 0 < z) (f : α → List Value) (h1 : ∀ a,(f a).length = z) (h2 : ∀ a,allOne (f a) = true) : Kd α :=
 ⟨z,hz,fun _ _ a ys => ys = f a,fun h => by rw [h,h1],fun h => by rw [h,h2],fun _ h => h,fun _ h => h⟩
def colKd : Kd ColX := rJ 3 (by decide) ColX.cs (fun _ => rfl) (fun _ => rfl)
def ordKd : Kd OrdX := rJ 2 (by decide) OrdX.cs (fun _ => rfl) (fun _ => rfl)
def nameKd : Kd (List UInt8) := rJ 1 (by decide) (fun s => [.string (B s)]) (fun _ => rfl) (fun _ => rfl)
def rowKd : Kd (List Ex) := ⟨1,by decide,fun bl w l ys => ∃ v,ys = [v] ∧ dI.sl bl w l v,fun ⟨_,h1,_⟩ => by rw [h1]; rfl,fun ⟨_,h1,h2⟩ => by obtain ⟨A,k,xs,rfl,_⟩ := h2; rw [h1]; rfl,
 fun hs ⟨v,h1,h2⟩ => ⟨v,h1,dI.sl_stab hs h2⟩,fun hs ⟨v,h1,h2⟩ => ⟨v,h1,dI.sl_mono hs h2⟩⟩
structure QK (bl : List Nat) (w : World) (q : QryX) (vI vF vO : Value) (ec : List Value) : Prop where
 items : itemKd.sl bl w q.items vI
 from_ : srcKd.sl bl w q.from_ vF
 wh : ExK bl w q.wh ec
 ord : ordKd.sl bl w q.ord vO
def qCs (q : QryX) (vI vF vO : Value) (ec : List Value) : List Value := [.bool q.di,.bool q.st,vI,vF] ++ (ec ++ [vO,.bool q.li,.int .i64 q.lim])
structure SK_ (bl : List Nat) (w : World) (s : StmtX) (vC vN vR vS vI vF vO : Value) (ec fc : List Value) : Prop where
 cols : colKd.sl bl w s.cols vC
 on : nameKd.sl bl w s.on vN
 rows : rowKd.sl bl w s.rows vR
 sets : setKd.sl bl w s.sets vS
 wh : ExK bl w s.wh ec
 q : QK bl w s.q vI vF vO fc
def sCs (s : StmtX) (vC vN vR vS vI vF vO : Value) (ec fc : List Value) : List Value := [.int .i64 s.k,.string (B s.t),.string (B s.n),vC,vN,.bool s.un,vR,vS] ++ (ec ++ qCs s.q vI vF vO fc)
def StK (bl : List Nat) (w : World) (s : StmtX) (cs : List Value) : Prop := ∃ vC vN vR vS vI vF vO ec fc,cs = sCs s vC vN vR vS vI vF vO ec fc ∧ SK_ bl w s vC vN vR vS vI vF vO ec fc
theorem QK.stab {bl : List Nat} {w w' : World} (hs : ∀ k ∈ bl,w'.heap[k]? = w.heap[k]?) {q : QryX} {vI vF vO : Value} {ec : List Value} (h : QK bl w q vI vF vO ec) : QK bl w' q vI vF vO ec :=
 ⟨itemKd.sl_stab hs h.items,srcKd.sl_stab hs h.from_,ExK.stab hs _ _ h.wh,ordKd.sl_stab hs h.ord⟩
theorem SK_.stab {bl : List Nat} {w w' : World} (hs : ∀ k ∈ bl,w'.heap[k]? = w.heap[k]?) {s : StmtX} {vC vN vR vS vI vF vO : Value} {ec fc : List Value} (h : SK_ bl w s vC vN vR vS vI vF vO ec fc) : SK_ bl w' s vC vN vR vS vI vF vO ec fc :=
 ⟨colKd.sl_stab hs h.cols,nameKd.sl_stab hs h.on,rowKd.sl_stab hs h.rows,setKd.sl_stab hs h.sets,ExK.stab hs _ _ h.wh,h.q.stab hs⟩
theorem StK.stab {bl : List Nat} {w w' : World} (hs : ∀ k ∈ bl,w'.heap[k]? = w.heap[k]?) {s : StmtX} {cs : List Value} (h : StK bl w s cs) : StK bl w' s cs := by
 obtain ⟨vC,vN,vR,vS,vI,vF,vO,ec,fc,h1,h2⟩ := h
 exact ⟨vC,vN,vR,vS,vI,vF,vO,ec,fc,h1,h2.stab hs⟩
def stC (bl : List Nat) (s : StmtX) (cs : List Value) : Chunk := ofC bl (fun w => StK bl w s cs) (fun _ _ hs h => h.stab hs)
def qryC (bl : List Nat) (q : QryX) (vI vF vO : Value) (ec : List Value) : Chunk := ofC bl (fun w => QK bl w q vI vF vO ec) (fun _ _ hs h => h.stab hs)
theorem eP {α : Type} (K : Kd α) {w : World} {A : Option Addr} {c e n : Nat} {bl : List Nat} {l : List α} {xs : List Value} (h : (row (.slice A n c) e K.z n xs).holds w) (hn : n = l.length) (hs : K.seq bl w l xs) : K.sl (A.toList.map (·.block) ++ bl) w l (.slice A n c) := by
 subst hn
 have ho : w.ownsRow 0 e K.z (.slice A l.length c) l.length xs := h
 have hlc : l.length ≤ c := by
  rcases ho.2 with ⟨h3,h4⟩ | ⟨g,cap,cur,hv,_,_,hcap,_⟩
  · injection h3 with _ _ h5; omega
  · injection hv with _ _ h5; omega
 exact ⟨A,c,xs,rfl,hlc,rA h,fun a ha _ => by subst ha; simp,K.seq_mono (fun k hk => List.mem_append_right _ hk) hs⟩
theorem dQ {A : Option Addr} {n c e z : Nat} {m : Nat} {xs : List Value} {k : Nat} (hk : k ∈ A.toList.map (·.block)) : (row (.slice A n c) e z m xs).fp k := by
 cases A with
 | none => simp at hk
 | some a => simp at hk; subst hk; rfl
end Go.WK
namespace Go.WK
open Go.RowKit
theorem PEnv.chgL {w w' : World} {pb : Nat} {a : Addr} {k0 : Nat} {T : List Tok} {L : List Nat} (h : PEnv w pb a k0 T) (hc : Chg L w w') (hn : a.block ∉ L) : PEnv w' pb a k0 T :=
 ⟨h.rd.chg hc (fun a' ha => by cases ha; exact hn),h.ne,h.len,h.bnd,h.ok⟩
theorem At.subL {w w1 : World} {pb : Nat} {a : Addr} {k0 : Nat} {T ts us : List Tok} {d d' : Nat} {L : List Nat} (h : At w pb a k0 T ts d) (hc : Chg L w w1) (hn : a.block ∉ L) (hu : Cuts ts us) (hd' : d' ≤ 24) (hs : Sat ⟨default,0,[],w1,[pb]⟩ [pC pb a k0 T us d'] w1) : At w1 pb a k0 T us d' :=
 ⟨h.env.chgL hc hn,hu.1.trans h.suf,hu.2,hd',hs⟩
theorem PEnv.rdsL {w : World} {pb : Nat} {a : Addr} {k0 : Nat} {T : List Tok} {L : List Nat} (h : PEnv w pb a k0 T) (hn : a.block ∉ L) (us : List Tok) (hu : us <:+ T) (cx : Cx) (H : List Chunk) (e1 : cx.w0 = w) (e2 : cx.lent = L) : RdS cx H (some (a.add ((T.length - us.length) * 3))) (toksV us) := by
 refine RdS.lent ?_ (fun a' ha => ?_)
 · rw [e1]
   intro j u hj
   obtain ⟨a1,ha,hc⟩ := h.rd ((T.length - us.length) * 3 + j) u (by rw [← List.getElem?_drop,iK,mJ hu]; exact hj)
   cases ha
   exact ⟨_,rfl,by rw [jH]; exact hc⟩
 · cases ha
   rw [e2,ik]; exact hn
theorem At.lt {w : World} {pb : Nat} {a : Addr} {k0 : Nat} {T ts : List Tok} {d : Nat} (h : At w pb a k0 T ts d) : a.block < w.heap.size := by
 have hT : 0 < T.length := Nat.lt_of_lt_of_le h.good.ne h.suf.length_le
 have h0 : ∃ u,(toksV T)[0]? = some u := by
  cases T with
  | nil => simp at hT
  | cons t l => exact ⟨_,rfl⟩
 obtain ⟨u,hu⟩ := h0
 obtain ⟨a',ha,hc⟩ := h.env.rd 0 u hu
 cases ha
 have := World.block_lt_of_cell? w _ hc
 rwa [ik] at this
theorem fb {pb t : Nat} {cs : List Value} {D : List Chunk} {L : List Nat} (h : ∀ c ∈ D,∀ k,c.fp k → k ∈ L) : ∀ c ∈ (box pb t cs :: D),∀ k,c.fp k → k ∈ pb :: L := fun c hc k hk => by
 rcases List.mem_cons.1 hc with rfl | hc
 · have : k = pb := hk
   rw [this]; exact List.mem_cons_self
 · exact List.mem_cons_of_mem _ (h c hc k hk)
theorem fe {pb t : Nat} {cs : List Value} {D : List Chunk} {L : List Nat} (h : ∀ k ∈ L, ∃ c ∈ D,c.fp k) : ∀ k ∈ pb :: L, ∃ c ∈ (box pb t cs :: D),c.fp k := fun k hk => by
 rcases List.mem_cons.1 hk with rfl | hk
 · exact ⟨_,List.mem_cons_self,rfl⟩
 · obtain ⟨c,hc,hf⟩ := h k hk
   exact ⟨c,List.mem_cons_of_mem _ hc,hf⟩
theorem notin_L {cx : Cx} {D : List Chunk} {L : List Nat} {w1 : World} {c : Chunk} {b : Nat} (h : Sat cx (c :: D) w1) (hl : ∀ k ∈ L, ∃ c ∈ D,c.fp k) (h1 : b < cx.w0.heap.size) (h2 : b ∉ cx.lent) : b ∉ L := fun hb => by
 obtain ⟨e,he,hf⟩ := hl b hb
 rcases h.fresh e (List.mem_cons_of_mem _ he) b hf with h3 | h3
 · omega
 · exact h2 h3
theorem gw {bl : List Nat} {e : Ex} {cs : List Value} {w : World} (h : (fx bl e cs).holds w) : ∃ (o k n c : Int) (s t m : ByteArray) (A : Option Addr) (l cap : Nat),cs = [.int .i64 o,.int .i64 k,.int .i64 n,.string s,.string t,.string m,.int .i64 c,.slice A l cap] := by
 obtain ⟨h,_⟩ := h
 cases e with
 | mk o v t n c as =>
  obtain ⟨A,k,xs,rfl,_⟩ := h
  exact ⟨_,_,_,_,_,_,_,_,_,_,rfl⟩
def fV {τ : Type} (can : List Tok → Bool) (one : τ → List Tok → PT τ) (f n : Nat) (s : τ) (us : List Tok) : PT τ :=
 if can us = true then (if n = 16 then .error (3,(hd us).a) else match one s us with | .error x => .error x | .ok (s',vs) => cz can one f (n + 1) s' vs) else eS us
theorem o3 {τ : Type} (can : List Tok → Bool) (one : τ → List Tok → PT τ) (f : Nat) (s : τ) (ts : List Tok) : cz can one (f + 1) 0 s ts = fV can one f 0 s ts := by
 rw [cz,if_pos (.inl rfl),if_pos rfl]; rfl
theorem sY {τ : Type} (can : List Tok → Bool) (one : τ → List Tok → PT τ) (f n : Nat) (s : τ) (ts : List Tok) (hn : n ≠ 0) (h : atT 4 [44] ts = true) : cz can one (f + 1) n s ts = fV can one f n s (ts.drop 1) := by
 rw [cz,if_pos (.inr h),if_neg hn]; rfl
theorem sZ {τ : Type} (can : List Tok → Bool) (one : τ → List Tok → PT τ) (f n : Nat) (s : τ) (ts : List Tok) (hn : n ≠ 0) (h : atT 4 [44] ts = false) : cz can one (f + 1) n s ts = .ok (s,ts) := by
 rw [cz,if_neg (by rintro (h1 | h1); exact hn h1; rw [h] at h1; cases h1)]
theorem p6 {τ : Type} {can : List Tok → Bool} {one : τ → List Tok → PT τ} {f n : Nat} {s : τ} {us : List Tok} (h : can us = false) : fV can one f n s us = .error (190,(hd us).a) := by
 rw [fV,if_neg (by rw [h]; decide)]; rfl
theorem nZ {τ : Type} {can : List Tok → Bool} {one : τ → List Tok → PT τ} {f n : Nat} {s : τ} {us : List Tok} (h : can us = true) (hn : n = 16) : fV can one f n s us = .error (3,(hd us).a) := by
 rw [fV,if_pos h,if_pos hn]
theorem p7 {τ : Type} {can : List Tok → Bool} {one : τ → List Tok → PT τ} {f n : Nat} {s : τ} {us : List Tok} {x : Flt} (h : can us = true) (hn : ¬ n = 16) (ho : one s us = .error x) : fV can one f n s us = .error x := by
 rw [fV,if_pos h,if_neg hn,ho]
theorem s3 {τ : Type} {can : List Tok → Bool} {one : τ → List Tok → PT τ} {f n : Nat} {s s' : τ} {us vs : List Tok} (h : can us = true) (hn : ¬ n = 16) (ho : one s us = .ok (s',vs)) : fV can one f n s us = cz can one f (n + 1) s' vs := by
 rw [fV,if_pos h,if_neg hn,ho]
theorem begT_1 {ts : List Tok} (h : (hd ts).k = 2 ∨ (hd ts).k = 3) : eF ts = true := by rw [eF,if_pos h]
theorem begT_2 {ts : List Tok} (h : (hd ts).k = 4) : eF ts = (decide ((hd ts).t = [40]) || decide ((hd ts).t = [45])) := by
 rw [eF,if_neg (by rw [h]; decide),if_pos h]
theorem o4 {ts : List Tok} (h : (hd ts).k = 1) (h2 : (hd ts).t = cM ∨ (hd ts).t = kG ∨ (hd ts).t = iQ ∨ (hd ts).t = gJ) : eF ts = true := by
 rw [eF,if_neg (by rw [h]; decide),if_neg (by rw [h]; decide),if_pos h,if_pos h2]
theorem begT_4 {ts : List Tok} (h : (hd ts).k = 1) (h2 : ¬ ((hd ts).t = cM ∨ (hd ts).t = kG ∨ (hd ts).t = iQ ∨ (hd ts).t = gJ)) : eF ts = nmT ts := by
 rw [eF,if_neg (by rw [h]; decide),if_neg (by rw [h]; decide),if_pos h,if_neg h2]
theorem begT_5 {ts : List Tok} (h1 : ¬ (hd ts).k = 2) (h2 : ¬ (hd ts).k = 3) (h3 : ¬ (hd ts).k = 4) (h4 : ¬ (hd ts).k = 1) : eF ts = false := by
 rw [eF,if_neg (by rintro (h | h); exact h1 h; exact h2 h),if_neg h3,if_neg h4]
theorem s4 {ts : List Tok} (h : nmT ts = false) : eu ts = .error (190,(hd ts).a) := by
 unfold eu bj; rw [if_neg (by rw [h]; decide)]; rfl
theorem src_one {ts : List Tok} (h : nmT ts = true) (h2 : atT 1 asB (ts.drop 1) = false) : eu ts = .ok (((hd ts).t,[]),ts.drop 1) := by
 unfold eu bj asP; rw [if_pos h]; simp only [h2]; rfl
theorem src_bad2 {ts : List Tok} (h : nmT ts = true) (h2 : atT 1 asB (ts.drop 1) = true) (h3 : nmT ((ts.drop 1).drop 1) = false) : eu ts = .error (190,(hd ((ts.drop 1).drop 1)).a) := by
 unfold eu asP bj; rw [if_pos h]; simp only [h2,h3]; rfl
theorem src_two {ts : List Tok} (h : nmT ts = true) (h2 : atT 1 asB (ts.drop 1) = true) (h3 : nmT ((ts.drop 1).drop 1) = true) : eu ts = .ok (((hd ts).t,(hd ((ts.drop 1).drop 1)).t),((ts.drop 1).drop 1).drop 1) := by
 unfold eu asP bj; rw [if_pos h]; simp only [h2,h3]; rfl
end Go.WK
namespace Go.WK
open Go.RowKit
theorem Sat.sel1 {w : World} {pb t : Nat} {cs : List Value} {D : List Chunk} {L : List Nat} (h : Sat ⟨default,0,[],w,pb :: L⟩ (box pb t cs :: D) w) : Sat ⟨default,0,[],w,[pb]⟩ [box pb t cs] w :=
 ⟨Chg.refl _ _,fun c hc => by obtain rfl := List.mem_singleton.1 hc; exact h.holds _ List.mem_cons_self,fun c hc k hk => by obtain rfl := List.mem_singleton.1 hc; exact .inr (by have : k = pb := hk; simp [this]),List.pairwise_singleton _ _⟩
end Go.WK
namespace Go.WK
open Go.RowKit
structure LS (α : Type) where
 l : List α
 A : Option Addr
 c : Nat
 xs : List Value
 bl : List Nat
abbrev lsD {α : Type} (K : Kd α) (sb e : Nat) (cs : LS α → List Value) (s : LS α) : List Chunk := [box sb 37 (cs s),row (.slice s.A s.l.length s.c) e K.z s.l.length s.xs,dh K s.bl s.l s.xs]
def lsL {α : Type} (sb : Nat) (s : LS α) : List Nat := sb :: (s.A.toList.map (·.block) ++ s.bl)
theorem s5 {A : Option Addr} {n c e z m : Nat} {xs : List Value} {k : Nat} (h : (row (.slice A n c) e z m xs).fp k) : k ∈ A.toList.map (·.block) := by
 have h : (Value.slice A n c).ownBlock = some k := h
 cases A with
 | none => cases h
 | some a => simp [Value.ownBlock] at h; simp [h]
theorem jt {α : Type} (K : Kd α) (sb e : Nat) (cs : LS α → List Value) (s : LS α) : (∀ c ∈ lsD K sb e cs s,∀ k,c.fp k → k ∈ lsL sb s) ∧ (∀ k ∈ lsL sb s, ∃ c ∈ lsD K sb e cs s,c.fp k) := by
 refine ⟨fun c hc k hk => ?_,fun k hk => ?_⟩
 · simp only [lsD,List.mem_cons,List.not_mem_nil,or_false] at hc
   rcases hc with rfl | rfl | rfl
   · have : k = sb := hk
     rw [this]; exact List.mem_cons_self
   · exact List.mem_cons_of_mem _ (List.mem_append_left _ (s5 hk))
   · exact List.mem_cons_of_mem _ (List.mem_append_right _ hk)
 · rcases List.mem_cons.1 hk with rfl | hk
   · exact ⟨_,List.mem_cons_self,rfl⟩
   · rcases List.mem_append.1 hk with hk | hk
     · exact ⟨_,List.mem_cons_of_mem _ List.mem_cons_self,dQ hk⟩
     · exact ⟨_,List.mem_cons_of_mem _ (List.mem_cons_of_mem _ List.mem_cons_self),hk⟩
theorem s6 {bl : List Nat} {w : World} {e : Ex} {cs : List Value} {s : List UInt8} (h : ExK bl w e cs) : itemKd.rel bl w ⟨e,s⟩ (cs ++ [.string (B s)]) := ⟨cs,rfl,h⟩
theorem setRel {bl : List Nat} {w : World} {e : Ex} {cs : List Value} {s : List UInt8} (h : ExK bl w e cs) : setKd.rel bl w ⟨s,e⟩ ([.string (B s)] ++ cs) := ⟨cs,rfl,h⟩
theorem srcRel {bl : List Nat} {w : World} {e : Ex} {cs : List Value} {s t : List UInt8} (h : ExK bl w e cs) : srcKd.rel bl w ⟨t,s,e⟩ ([.string (B t),.string (B s)] ++ cs) := ⟨cs,rfl,h⟩
theorem item_err {f d : Nat} {l : List ItemX} {ts : List Tok} {x : Flt} (h : exP f 1 d ts = .error x) : fz f d l ts = .error x := by unfold fz; rw [h]
theorem item_one {f d : Nat} {l : List ItemX} {ts us : List Tok} {e : Ex} (h : exP f 1 d ts = .ok (e,us)) (h2 : atT 1 asB us = false) : fz f d l ts = .ok (l ++ [⟨e,[]⟩],us) := by unfold fz asP; simp only [h,h2]; rfl
theorem item_bad {f d : Nat} {l : List ItemX} {ts us : List Tok} {e : Ex} (h : exP f 1 d ts = .ok (e,us)) (h2 : atT 1 asB us = true) (h3 : nmT (us.drop 1) = false) : fz f d l ts = .error (190,(hd (us.drop 1)).a) := by unfold fz asP bj; simp only [h,h2,h3]; rfl
theorem item_two {f d : Nat} {l : List ItemX} {ts us : List Tok} {e : Ex} (h : exP f 1 d ts = .ok (e,us)) (h2 : atT 1 asB us = true) (h3 : nmT (us.drop 1) = true) : fz f d l ts = .ok (l ++ [⟨e,(hd (us.drop 1)).t⟩],(us.drop 1).drop 1) := by unfold fz asP bj; simp only [h,h2,h3]; rfl
theorem ord_bad {l : List OrdX} {ts : List Tok} (h : nmT ts = false) : jh l ts = .error (190,(hd ts).a) := by unfold jh bj; simp only [h]; rfl
theorem ord_ok {l : List OrdX} {ts : List Tok} (h : nmT ts = true) : jh l ts = .ok (l ++ [⟨(hd ts).t,atT 1 iA (ts.drop 1)⟩],if atT 1 iA (ts.drop 1) = true then (ts.drop 1).drop 1 else ts.drop 1) := by unfold jh bj; simp only [h]; rfl
end Go.WK
namespace Go.WK
open Go.RowKit
def ofL (l : List Value) (i : Nat) : Value := l.getD i (.bool false)
theorem et {P : Program} {n : Nat} {w w1 : World} {pb : Nat} {D : List Chunk} {L L0 : List Nat} {c : Chunk} (h : Sat ⟨P,n,[],w,pb :: L0⟩ (c :: D) w1) (hl : ∀ k ∈ L, ∃ c ∈ D,c.fp k) : ∀ k,k < w.heap.size → k ∉ pb :: L0 → k ∉ pb :: L := fun k h1 h2 hm => by
 rcases List.mem_cons.1 hm with hm | hm
 · exact h2 (by rw [hm]; exact List.mem_cons_self)
 · exact notin_L h hl h1 h2 hm
theorem bs {ts us : List Tok} {n : List UInt8} (hg : Good ts) (h : bj ts = .ok (n,us)) : Cuts ts us := (jp hg h).1
theorem kI {ts us : List Tok} {n : List UInt8} (hg : Good ts) (h : asP ts = .ok (n,us)) : Cuts ts us := by
 unfold asP at h
 split at h
 · rename_i h0
   have c1 := aO (Cuts.refl hg) (by decide) h0
   exact c1.trans (bs c1.2 h)
 · simp only [Except.ok.injEq,Prod.mk.injEq] at h
   rw [← h.2]; exact Cuts.refl hg
theorem jO {f d : Nat} {l l' : List ItemX} {ts us : List Tok} (hg : Good ts) (h : fz f d l ts = .ok (l',us)) : Cuts ts us := by
 unfold fz at h
 cases h1 : exP f 1 d ts with
 | error x => simp only [h1] at h; cases h
 | ok r =>
  obtain ⟨e,vs⟩ := r
  simp only [h1] at h
  have c1 := (cl f 1 d ts hg e vs h1).1
  cases h2 : asP vs with
  | error x => simp only [h2] at h; cases h
  | ok r =>
   obtain ⟨n,zs⟩ := r
   simp only [h2,Except.ok.injEq,Prod.mk.injEq] at h
   rw [← h.2]; exact c1.trans (kI c1.2 h2)
theorem kJ {l l' : List OrdX} {ts us : List Tok} (hg : Good ts) (h : jh l ts = .ok (l',us)) : Cuts ts us := by
 unfold jh at h
 cases h1 : bj ts with
 | error x => simp only [h1] at h; cases h
 | ok r =>
  obtain ⟨n,vs⟩ := r
  simp only [h1,Except.ok.injEq,Prod.mk.injEq] at h
  have c1 := bs hg h1
  rw [← h.2]
  split
  · rename_i h2; exact aO c1 (by decide) h2
  · exact c1
theorem cT {τ : Type} {can : List Tok → Bool} {one : τ → List Tok → PT τ} (ho : ∀ s us s' us',Good us → one s us = .ok (s',us') → Cuts us us') : ∀ (f n : Nat) (s s' : τ) (ts us : List Tok),Good ts → cz can one f n s ts = .ok (s',us) → Cuts ts us
 | 0,n,s,s',ts,us,hg,h => by
  simp only [cz,Except.ok.injEq,Prod.mk.injEq] at h
  rw [← h.2]; exact Cuts.refl hg
 | f + 1,n,s,s',ts,us,hg,h => by
  rw [cz] at h
  have hc : (n = 0 ∨ atT 4 [44] ts = true) → Cuts ts (if n = 0 then ts else ts.drop 1) := fun hh => by
   split
   · exact Cuts.refl hg
   · rename_i hn
     exact aO (Cuts.refl hg) (by decide) (hh.resolve_left hn)
  by_cases hh : n = 0 ∨ atT 4 [44] ts = true
  · rw [if_pos hh] at h
    have c1 := hc hh
    generalize (if n = 0 then ts else ts.drop 1) = V at h c1
    by_cases h1 : can V = true
    · rw [if_pos h1] at h
      by_cases h2 : n = 16
      · rw [if_pos h2] at h; cases h
      · rw [if_neg h2] at h
        cases h3 : one s V with
        | error x => simp only [h3] at h; cases h
        | ok r =>
         obtain ⟨s2,vs⟩ := r
         simp only [h3] at h
         have c2 := ho _ _ _ _ c1.2 h3
         exact (c1.trans c2).trans (cT ho f (n + 1) s2 s' vs us c2.2 h)
    · rw [if_neg h1] at h; cases h
  · rw [if_neg hh] at h
    simp only [Except.ok.injEq,Prod.mk.injEq] at h
    rw [← h.2]; exact Cuts.refl hg
theorem n6 {f d : Nat} {l : List ItemX} {ts us : List Tok} (hg : Good ts) (h : e9 f d ts = .ok (l,us)) : Cuts ts us := by
 unfold e9 at h
 split at h
 · rename_i h0
   simp only [Except.ok.injEq,Prod.mk.injEq] at h
   rw [← h.2]; exact aO (Cuts.refl hg) (by decide) h0
 · exact cT (fun _ _ _ _ hg h => jO hg h) _ _ _ _ _ _ hg h
theorem n7 {ts : List Tok} (hg : Good ts) : Cuts ts (cG ts) := by
 unfold cG
 split
 · rename_i h; exact aO (Cuts.refl hg) (by decide) h
 · exact Cuts.refl hg
theorem fW {ts us : List Tok} {r : List UInt8 × List UInt8} (hg : Good ts) (h : eu ts = .ok (r,us)) : Cuts ts us := by
 unfold eu at h
 cases h1 : bj ts with
 | error x => simp only [h1] at h; cases h
 | ok r =>
  obtain ⟨n,vs⟩ := r
  simp only [h1] at h
  have c1 := bs hg h1
  cases h2 : asP vs with
  | error x => simp only [h2] at h; cases h
  | ok r =>
   obtain ⟨m,zs⟩ := r
   simp only [h2,Except.ok.injEq,Prod.mk.injEq] at h
   rw [← h.2]; exact c1.trans (kI c1.2 h2)
theorem eL {f d : Nat} {ts us : List Tok} {e : Ex} (hg : Good ts) (h : cF f d ts = .ok (e,us)) : Cuts ts us := by
 unfold cF at h
 split at h
 · rename_i h0
   have c1 := aO (Cuts.refl hg) (by decide) h0
   exact c1.trans (cl f 1 d _ c1.2 e us h).1
 · simp only [Except.ok.injEq,Prod.mk.injEq] at h
   rw [← h.2]; exact Cuts.refl hg
end Go.WK
namespace Go.WK
open Go.RowKit
def blkA (A : Option Addr) : List Nat := A.toList.map (·.block)
theorem Sat.qry {cx : Cx} {H : List Chunk} {w : World} {A1 A2 A3 : Option Addr} {n1 n2 n3 c1 c2 c3 e1 e2 e3 : Nat} {x1 x2 x3 cs : List Value} {b1 b2 b3 bw : List Nat} {l1 : List ItemX} {l2 : List SrcX} {l3 : List OrdX} {e : Ex} (di st li : Bool) (lim : Int)
  (h : Sat cx (row (.slice A1 n1 c1) e1 itemKd.z n1 x1 :: dh itemKd b1 l1 x1 :: row (.slice A2 n2 c2) e2 srcKd.z n2 x2 :: dh srcKd b2 l2 x2 :: fx bw e cs :: row (.slice A3 n3 c3) e3 ordKd.z n3 x3 :: dh ordKd b3 l3 x3 :: H) w) (h1 : n1 = l1.length) (h2 : n2 = l2.length) (h3 : n3 = l3.length) :
  Sat cx (qryC ((blkA A1 ++ b1) ++ ((blkA A2 ++ b2) ++ (bw ++ (blkA A3 ++ b3)))) ⟨di,st,l1,l2,e,l3,li,lim⟩ (.slice A1 n1 c1) (.slice A2 n2 c2) (.slice A3 n3 c3) cs :: H) w := by
 refine Sat.fuse (l := [_,_,_,_,_,_,_]) h _ (fun hh => ?_) (fun j hj => ?_)
 · have k1 := hh _ (Nth.mem .z)
   have k2 := hh _ (Nth.mem (.s .z))
   have k3 := hh _ (Nth.mem (.s (.s .z)))
   have k4 := hh _ (Nth.mem (.s (.s (.s .z))))
   have k5 := hh _ (Nth.mem (.s (.s (.s (.s .z)))))
   have k6 := hh _ (Nth.mem (.s (.s (.s (.s (.s .z))))))
   have k7 := hh _ (Nth.mem (.s (.s (.s (.s (.s (.s .z)))))))
   refine ⟨⟨itemKd.sl_mono ?_ (eP itemKd k1 h1 k2.1),srcKd.sl_mono ?_ (eP srcKd k3 h2 k4.1),ExK.mono ?_ _ _ k5.1,ordKd.sl_mono ?_ (eP ordKd k6 h3 k7.1)⟩,fun j hj => ?_⟩
   · intro k hk; exact List.mem_append_left _ hk
   · intro k hk; exact List.mem_append_right _ (List.mem_append_left _ hk)
   · intro k hk; exact List.mem_append_right _ (List.mem_append_right _ (List.mem_append_left _ hk))
   · intro k hk; exact List.mem_append_right _ (List.mem_append_right _ (List.mem_append_right _ hk))
   · rcases List.mem_append.1 hj with hj | hj
     · rcases List.mem_append.1 hj with hj | hj
       · exact (row (.slice A1 n1 c1) e1 itemKd.z n1 x1).lt w j k1 (dQ hj)
       · exact k2.2 j hj
     · rcases List.mem_append.1 hj with hj | hj
       · rcases List.mem_append.1 hj with hj | hj
         · exact (row (.slice A2 n2 c2) e2 srcKd.z n2 x2).lt w j k3 (dQ hj)
         · exact k4.2 j hj
       · rcases List.mem_append.1 hj with hj | hj
         · exact k5.2 j hj
         · rcases List.mem_append.1 hj with hj | hj
           · exact (row (.slice A3 n3 c3) e3 ordKd.z n3 x3).lt w j k6 (dQ hj)
           · exact k7.2 j hj
 · rcases List.mem_append.1 hj with hj | hj
   · rcases List.mem_append.1 hj with hj | hj
     · exact ⟨_,Nth.mem .z,dQ hj⟩
     · exact ⟨_,Nth.mem (.s .z),hj⟩
   · rcases List.mem_append.1 hj with hj | hj
     · rcases List.mem_append.1 hj with hj | hj
       · exact ⟨_,Nth.mem (.s (.s .z)),dQ hj⟩
       · exact ⟨_,Nth.mem (.s (.s (.s .z))),hj⟩
     · rcases List.mem_append.1 hj with hj | hj
       · exact ⟨_,Nth.mem (.s (.s (.s (.s .z)))),hj⟩
       · rcases List.mem_append.1 hj with hj | hj
         · exact ⟨_,Nth.mem (.s (.s (.s (.s (.s .z))))),dQ hj⟩
         · exact ⟨_,Nth.mem (.s (.s (.s (.s (.s (.s .z)))))),hj⟩
structure QR where
 q : QryX
 us : List Tok
 bl : List Nat
 vI : Value
 vF : Value
 vO : Value
 ec : List Value
section
variable {f d : Nat} {ts t1 t2 t3 t4 t5 : List Tok} {x : Flt} {its : List ItemX} {fr : List SrcX} {wh : Ex} {os : List OrdX} {li : Bool} {lim : Int}
theorem qe1 (h1 : e9 f d (cG ts) = .error x) : cI f d ts = .error x := by unfold cI; rw [h1]
theorem qe2 (h1 : e9 f d (cG ts) = .ok (its,t1)) (h2 : dW f d t1 = .error x) : cI f d ts = .error x := by unfold cI; simp only [h1,h2]
theorem qe3 (h1 : e9 f d (cG ts) = .ok (its,t1)) (h2 : dW f d t1 = .ok (fr,t2)) (h3 : cF f d t2 = .error x) : cI f d ts = .error x := by unfold cI; simp only [h1,h2,h3]
theorem qe4 (h1 : e9 f d (cG ts) = .ok (its,t1)) (h2 : dW f d t1 = .ok (fr,t2)) (h3 : cF f d t2 = .ok (wh,t3)) (h4 : dx t3 = .error x) : cI f d ts = .error x := by unfold cI; simp only [h1,h2,h3,h4]
theorem qe5 (h1 : e9 f d (cG ts) = .ok (its,t1)) (h2 : dW f d t1 = .ok (fr,t2)) (h3 : cF f d t2 = .ok (wh,t3)) (h4 : dx t3 = .ok (os,t4)) (h5 : ee t4 = .error x) : cI f d ts = .error x := by unfold cI; simp only [h1,h2,h3,h4,h5]
theorem qok (h1 : e9 f d (cG ts) = .ok (its,t1)) (h2 : dW f d t1 = .ok (fr,t2)) (h3 : cF f d t2 = .ok (wh,t3)) (h4 : dx t3 = .ok (os,t4)) (h5 : ee t4 = .ok ((li,lim),t5)) : cI f d ts = .ok (⟨atT 1 bA ts,atT 4 [42] (cG ts),its,fr,wh,os,li,lim⟩,t5) := by unfold cI; simp only [h1,h2,h3,h4,h5]
theorem from_no (h : atT 1 fS ts = false) : dW f d ts = .ok ([],ts) := by rw [dW,if_neg (by rw [h]; decide)]
theorem from_bad (h : atT 1 fS ts = true) (h2 : eu (ts.drop 1) = .error x) : dW f d ts = .error x := by rw [dW,if_pos h,h2]
theorem from_ok {r : List UInt8 × List UInt8} (h : atT 1 fS ts = true) (h2 : eu (ts.drop 1) = .ok (r,t1)) : dW f d ts = db f d 5 [⟨r.1,r.2,Ex.zero⟩] t1 := by rw [dW,if_pos h,h2]
theorem joins_no {k : Nat} {l : List SrcX} (h : atT 1 mN ts = false) : db f d k l ts = .ok (l,ts) := by
 cases k with
 | zero => rfl
 | succ k => rw [db,if_neg (by rw [h]; decide)]
theorem jP {k : Nat} {l : List SrcX} (h : atT 1 mN ts = true) (h2 : dV f d l (ts.drop 1) = .error x) : db f d (k + 1) l ts = .error x := by rw [db,if_pos h,h2]
theorem joins_ok {k : Nat} {l l' : List SrcX} (h : atT 1 mN ts = true) (h2 : dV f d l (ts.drop 1) = .ok (l',t1)) : db f d (k + 1) l ts = db f d k l' t1 := by rw [db,if_pos h,h2]
theorem join_e1 {l : List SrcX} (h : nmT ts = true ∧ l.length = 4) : dV f d l ts = .error (3,(hd ts).a) := by rw [dV,if_pos h]
theorem join_e2 {l : List SrcX} (h : ¬ (nmT ts = true ∧ l.length = 4)) (h2 : eu ts = .error x) : dV f d l ts = .error x := by rw [dV,if_neg h,h2]
theorem join_e3 {l : List SrcX} {r : List UInt8 × List UInt8} (h : ¬ (nmT ts = true ∧ l.length = 4)) (h2 : eu ts = .ok (r,t1)) (h3 : atT 1 onB t1 = false) : dV f d l ts = .error (190,(hd t1).a) := by
 rw [dV,if_neg h,h2]; simp only [bI,h3]; rfl
theorem join_e4 {l : List SrcX} {r : List UInt8 × List UInt8} (h : ¬ (nmT ts = true ∧ l.length = 4)) (h2 : eu ts = .ok (r,t1)) (h3 : atT 1 onB t1 = true) (h4 : exP f 1 d (t1.drop 1) = .error x) : dV f d l ts = .error x := by
 rw [dV,if_neg h,h2]; simp only [bI,h3,if_true,h4]
theorem join_ok {l : List SrcX} {r : List UInt8 × List UInt8} {e : Ex} (h : ¬ (nmT ts = true ∧ l.length = 4)) (h2 : eu ts = .ok (r,t1)) (h3 : atT 1 onB t1 = true) (h4 : exP f 1 d (t1.drop 1) = .ok (e,t2)) : dV f d l ts = .ok (l ++ [⟨r.1,r.2,e⟩],t2) := by
 rw [dV,if_neg h,h2]; simp only [bI,h3,if_true,h4]
theorem order_no (h : atT 1 kc ts = false) : dx ts = .ok ([],ts) := by rw [dx,if_neg (by rw [h]; decide)]
theorem ut (h : atT 1 kc ts = true) (h2 : atT 1 byB (ts.drop 1) = false) : dx ts = .error (190,(hd (ts.drop 1)).a) := by rw [dx,if_pos h]; simp only [bI,h2]; rfl
theorem p8 (h : atT 1 kc ts = true) (h2 : atT 1 byB (ts.drop 1) = true) : dx ts = cz nmT jh 17 0 [] ((ts.drop 1).drop 1) := by rw [dx,if_pos h]; simp only [bI,h2,if_true]
theorem limit_no (h : atT 1 lf ts = false) : ee ts = .ok ((false,0),ts) := by rw [ee,if_neg (by rw [h]; decide)]
theorem uu (h : atT 1 lf ts = true) (h2 : ¬ (hd (ts.drop 1)).k = 2) : ee ts = .error (190,(hd (ts.drop 1)).a) := by rw [ee,if_pos h,if_neg h2]; rfl
theorem limit_ok (h : atT 1 lf ts = true) (h2 : (hd (ts.drop 1)).k = 2) : ee ts = .ok ((true,iz (hd (ts.drop 1)).t),(ts.drop 1).drop 1) := by rw [ee,if_pos h,if_pos h2]
end
theorem src_nm {ts us : List Tok} {r : List UInt8 × List UInt8} (h : eu ts = .ok (r,us)) : nmT ts = true := by
 cases hn : nmT ts with
 | true => rfl
 | false => rw [s4 hn] at h; cases h
theorem lg {f d : Nat} {l l' : List SrcX} {ts us : List Tok} (hg : Good ts) (h : dV f d l ts = .ok (l',us)) : Cuts ts us := by
 unfold dV at h
 split at h
 · cases h
 · cases h1 : eu ts with
   | error x => simp only [h1] at h; cases h
   | ok r =>
    obtain ⟨⟨t,s⟩,vs⟩ := r
    simp only [h1] at h
    have c1 := fW hg h1
    by_cases h2 : atT 1 onB vs = true
    · simp only [bI,h2,if_true] at h
      have c2 := aO c1 (by decide) h2
      cases h3 : exP f 1 d (vs.drop 1) with
      | error x => simp only [h3] at h; cases h
      | ok r =>
       obtain ⟨e,zs⟩ := r
       simp only [h3,Except.ok.injEq,Prod.mk.injEq] at h
       rw [← h.2]; exact c2.trans (cl f 1 d _ c2.2 e zs h3).1
    · simp only [bI,if_neg h2] at h; cases h
theorem mO {f d : Nat} : ∀ (k : Nat) (l l' : List SrcX) (ts us : List Tok),Good ts → db f d k l ts = .ok (l',us) → Cuts ts us
 | 0,l,l',ts,us,hg,h => by
  simp only [db,Except.ok.injEq,Prod.mk.injEq] at h
  rw [← h.2]; exact Cuts.refl hg
 | k + 1,l,l',ts,us,hg,h => by
  unfold db at h
  split at h
  · rename_i h0
    have c1 := aO (Cuts.refl hg) (by decide) h0
    cases h1 : dV f d l (ts.drop 1) with
    | error x => simp only [h1] at h; cases h
    | ok r =>
     obtain ⟨l2,vs⟩ := r
     simp only [h1] at h
     have c2 := c1.trans (lg c1.2 h1)
     exact c2.trans (mO k l2 l' vs us c2.2 h)
  · simp only [Except.ok.injEq,Prod.mk.injEq] at h
    rw [← h.2]; exact Cuts.refl hg
theorem n9 {f d : Nat} {l : List SrcX} {ts us : List Tok} (hg : Good ts) (h : dW f d ts = .ok (l,us)) : Cuts ts us := by
 unfold dW at h
 split at h
 · rename_i h0
   have c1 := aO (Cuts.refl hg) (by decide) h0
   cases h1 : eu (ts.drop 1) with
   | error x => simp only [h1] at h; cases h
   | ok r =>
    obtain ⟨⟨t,s⟩,vs⟩ := r
    simp only [h1] at h
    have c2 := c1.trans (fW c1.2 h1)
    exact c2.trans (mO _ _ _ _ _ c2.2 h)
 · simp only [Except.ok.injEq,Prod.mk.injEq] at h
   rw [← h.2]; exact Cuts.refl hg
theorem mP {l : List OrdX} {ts us : List Tok} (hg : Good ts) (h : dx ts = .ok (l,us)) : Cuts ts us := by
 unfold dx at h
 split at h
 · rename_i h0
   have c1 := aO (Cuts.refl hg) (by decide) h0
   by_cases h2 : atT 1 byB (ts.drop 1) = true
   · simp only [bI,h2,if_true] at h
     have c2 := aO c1 (by decide) h2
     exact c2.trans (cT (fun _ _ _ _ hg h => kJ hg h) _ _ _ _ _ _ c2.2 h)
   · simp only [bI,if_neg h2] at h; cases h
 · simp only [Except.ok.injEq,Prod.mk.injEq] at h
   rw [← h.2]; exact Cuts.refl hg
theorem mQ {li : Bool} {lim : Int} {ts us : List Tok} (hg : Good ts) (h : ee ts = .ok ((li,lim),us)) : Cuts ts us := by
 unfold ee at h
 split at h
 · rename_i h0
   have c1 := aO (Cuts.refl hg) (by decide) h0
   split at h
   · rename_i h2
     simp only [Except.ok.injEq,Prod.mk.injEq] at h
     rw [← h.2]; exact c1.step (by rw [h2]; decide)
   · cases h
 · simp only [Except.ok.injEq,Prod.mk.injEq] at h
   rw [← h.2]; exact Cuts.refl hg
end Go.WK
namespace Go.WK
open Go.RowKit
theorem ju {k : Int} {a b : List UInt8} {ts : List Tok} (h : atT k a ts = true) (hne : a ≠ b) : atT k b ts = false := by
 unfold atT at h ⊢
 simp only [Bool.and_eq_true,decide_eq_true_eq] at h
 rw [h.2,decide_eq_false hne,Bool.and_false]
theorem jQ {g t : Nat} {cs : List Value} {D : List Chunk} : ∀ k ∈ [g], ∃ c ∈ (box g t cs :: D),c.fp k := fun _ hk => ⟨_,List.mem_cons_self,List.mem_singleton.1 hk⟩
structure SR where
 s : StmtX
 us : List Tok
 bl : List Nat
 cs : List Value
theorem p9 {f d : Nat} {ts : List Tok} (h : atT 1 hD ts = true) : dC f d ts = fa f d (ts.drop 1) := by
 unfold dC
 rw [if_neg (cw (ju h (by decide))),if_neg (cw (ju h (by decide))),if_neg (cw (ju h (by decide))),if_neg (cw (ju h (by decide))),if_neg (cw (ju h (by decide))),if_pos h]
theorem sel_err {f d : Nat} {ts : List Tok} {x : Flt} (h : cI f d ts = .error x) : fa f d ts = .error x := by unfold fa; rw [h]
theorem sel_ok {f d : Nat} {ts us : List Tok} {q : QryX} (h : cI f d ts = .ok (q,us)) : fa f d ts = .ok ({ StmtX.zero with k := 8,q := q },us) := by unfold fa; rw [h]
theorem rK {α : Type} {K : Kd α} {bl : List Nat} {w : World} {l : List α} {v : Value} (h : K.sl bl w l v) : v.oneCell' = true := by
 obtain ⟨A,k,xs,rfl,_⟩ := h; rfl
theorem qg (v : Value) (l : List Value) : allOne (v :: l) = (v.oneCell' && allOne l) := rfl
theorem QK.ones {bl : List Nat} {w : World} {q : QryX} {vI vF vO : Value} {ec : List Value} (h : QK bl w q vI vF vO ec) : (qCs q vI vF vO ec).length = 15 ∧ allOne (qCs q vI vF vO ec) = true := by
 have h1 := rK h.items
 have h2 := rK h.from_
 have h3 := rK h.ord
 refine ⟨by simp [qCs,h.wh.len], ?_⟩
 simp only [qCs,eG,qg,h1,h2,h3,h.wh.ones]
 rfl
theorem Sat.selSt {cx : Cx} {H : List Chunk} {w : World} {bl : List Nat} {q : QryX} {vI vF vO : Value} {ec : List Value} (h : Sat cx (qryC bl q vI vF vO ec :: H) w) :
  Sat cx (stC bl { StmtX.zero with k := 8,q := q } ([.int .i64 8,.string .empty,.string .empty,.slice none 0 0,.slice none 0 0,.bool false,.slice none 0 0,.slice none 0 0,.int .i64 0,.int .i64 0,.int .i64 0,.string .empty,.string .empty,.string .empty,.int .i64 0,.slice none 0 0] ++ qCs q vI vF vO ec) :: H) w := by
 refine Sat.fuse (l := [_]) h _ (fun hh => ?_) (fun j hj => ⟨_,List.mem_cons_self,hj⟩)
 have h1 := hh _ List.mem_cons_self
 exact ⟨⟨.slice none 0 0,.slice none 0 0,.slice none 0 0,.slice none 0 0,vI,vF,vO,[.int .i64 0,.int .i64 0,.int .i64 0,.string .empty,.string .empty,.string .empty,.int .i64 0,.slice none 0 0],ec,rfl,
  colKd.sl_nil _ _,nameKd.sl_nil _ _,rowKd.sl_nil _ _,setKd.sl_nil _ _,⟨none,0,[],rfl,Nat.le_refl _,Rd.nil _ _,(fun _ h => by cases h),rfl⟩,h1.1⟩,h1.2⟩
section ops
variable {m : Bool} {cx : Cx} {fs : aV} {H : List Chunk} {Q : ck} {ops : Array Oper} {rest : List Oper} {g : Option (Nat × Bool)} {d : Nat} {ty : TypeId} {pos : String} {af : Array Edge}
theorem s7 {x : Operand} {t bt b i z : Nat} {cs : List Value} (hl : cs.length = z) (ht : cv cx.P t = some true) (hz : szB cx.P t = some z) (hn : Nth H i (box b bt cs)) (hok : okS cx.n ops fs d g = true) (hx : ev fs x = some (.pointer (some ⟨b,0,none⟩)))
  (k : TriX m cx ops ((d,.agg cs.toArray) :: fs) H rest Q) : TriX m cx ops fs H (⟨some d,.load t x,ty,pos,af,g⟩ :: rest) Q :=
 aW ht hz hn hok hx (vs := cs) (by rw [List.drop_zero]; exact List.take_of_length_le (Nat.le_of_eq hl)) hl k
theorem dL {x y : Operand} {t bt b i z : Nat} {us cs : List Value} (hu : us.length = z) (hl : cs.length = z) (h1 : allOne cs = true) (hz : szB cx.P t = some z) (hn : Nth H i (box b bt us)) (hok : okW ops fs g = true) (hx : ev fs x = some (.pointer (some ⟨b,0,none⟩))) (hy : ev fs y = some (.agg cs.toArray))
  (k : TriX false cx ops fs (gz H i (box b bt cs)) rest Q) : TriX false cx ops fs H (⟨none,.store t x y,ty,pos,af,g⟩ :: rest) Q :=
 aB hz hn hok hx hy (vs := cs) rfl hl (by omega) h1 (by rw [p4 us cs (by rw [hu,hl])]; exact k)
end ops
def TriG (cx : Cx) (fs : aV) (H : List Chunk) (c : Code) (QG : Exit → Act → World → Prop) : Prop := ∀ a w,Has cx.n cx.ds fs a → Sat cx H w → c.wp cx.P QG a w
def gQ (cx : Cx) (K : aV → List Chunk → Prop) (QG : Exit → Act → World → Prop) : ck := fun e fs H => match e with
 | .normal => K fs H
 | e => ∀ a w,Has cx.n cx.ds fs a → Sat cx H w → QG e a w
section
variable {cx : Cx} {fs : aV} {H : List Chunk} {QG : Exit → Act → World → Prop}
theorem mR {x y : Code} (h : Tri cx fs H x (gQ cx (fun fs H => TriG cx fs H y QG) QG)) : TriG cx fs H (.seq x y) QG := fun a w ha hw => by
 refine wp_seq (Go.wp_mono (h a w ha hw) fun e a' w' ⟨fs',H',h1,h2,h3⟩ => ?_)
 cases e <;> exact h3 a' w' h1 h2
theorem qh {c : Code} {Q : ck} (h : Tri cx fs H c Q) (hq : ∀ e fs' H',Q e fs' H' → ∀ a w,Has cx.n cx.ds fs' a → Sat cx H' w → QG e a w) : TriG cx fs H c QG := fun a w ha hw =>
 Go.wp_mono (h a w ha hw) fun e a' w' ⟨fs',H',h1,h2,h3⟩ => hq e fs' H' h3 a' w' h1 h2
theorem lh {K : aV → List Chunk → Prop} (h : K fs H) : gQ cx K QG .normal fs H := h
theorem gQ_ret {K : aV → List Chunk → Prop} (h : ∀ a w,Has cx.n cx.ds fs a → Sat cx H w → QG .ret a w) : gQ cx K QG .ret fs H := h
theorem rL {id d fid : Nat} {ty ty2 : TypeId} {pos pos2 : String} {af af2 : Array Edge} {ys : List Operand} {vs : List Value} {y : Code} (hd : Nat.blt d cx.n = true) (hy : evs fs ys = some vs)
  (k : TriG { cx with ds := { target := .fn (.func fid) vs.toArray,args := #[] } :: cx.ds } ((d,.func (.func fid) #[] vs.toArray) :: fs) H y QG) :
  TriG cx fs H (.seq (.region id #[⟨some d,.makeFunc (.func fid) #[] ys.toArray,ty,pos,af,none⟩,⟨none,.defer ⟨.value (.tmp d), #[], #[]⟩,ty2,pos2,af2,none⟩] false) y) QG := fun a w ha hw => by
 refine wp_seq (wp_region_lit ?_)
 have h1 : Has cx.n cx.ds ((d,.func (.func fid) #[] vs.toArray) :: fs) (a.put (some d) (.func (.func fid) #[] vs.toArray)) := ha.put hd _
 have e1 : (execOp a.eval ⟨some d,.makeFunc (.func fid) #[] ys.toArray,ty,pos,af,none⟩).run cx.P w = .ok (.value (.func (.func fid) #[] vs.toArray)) w := by
  simp [execOp,Instr.makeFunc,ha.evals hy]
 unfold wpList
 rw [if_pos (by rfl)]
 left
 unfold Oper.wp
 rw [e1]
 show wpList cx.P _ _ _ (a.put (some d) (.func (.func fid) #[] vs.toArray)) w
 unfold wpList
 rw [if_pos (by rfl)]
 left
 have e2 : (execOp (a.put (some d) (.func (.func fid) #[] vs.toArray)).eval ⟨none,.defer ⟨.value (.tmp d), #[], #[]⟩,ty2,pos2,af2,none⟩).run cx.P w = .ok (.defer { target := .fn (.func fid) vs.toArray,args := #[] }) w := by
  have e3 : (a.put (some d) (.func (.func fid) #[] vs.toArray)).eval (.tmp d) = .func (.func fid) #[] vs.toArray := h1.eval (x := .tmp d) (dA _ _ _)
  simp [execOp,resolve,e3,Deferred.ofValue]
 unfold Oper.wp
 rw [e2]
 simp only [Oper.upon]
 refine wpList_nil ?_
 exact k _ w ⟨by simp [Act.put,ha.ds],h1.size,h1.at_⟩ ⟨hw.chg,hw.holds,hw.fresh,hw.apart⟩
end
theorem rM {P : Program} {fn : Func} {f : FuncId} {c : Code} {args : List Value} {n : Nat} {w : World} {R : Ending → World → Prop} {lent : List Nat} {H : List Chunk} (hf : P.funcs[f]? = some fn) (hb : fn.body = some c) (hn : fn.ntmps = n) (ha : Nat.ble args.length n = true)
  (hs : Sat ⟨P,n,[],w,lent⟩ H w) (h : TriG ⟨P,n,[],w,lent⟩ (argS 0 args) H c (bodyPostD P fn R)) : Calls P f args.toArray w R := by
 have hle : args.length ≤ n := Nat.le_of_ble_eq_true ha
 refine calls_of_wp_defers hf hb ?_
 have hh : Has n [] (argS 0 args) { tmps := args.toArray ++ Array.replicate (fn.ntmps - args.toArray.size) undef,defers := [] } := by
  refine ⟨rfl,by simp [hn]; omega,fun d v hd => ?_⟩
  obtain ⟨_,h2⟩ := kX args 0 d v hd
  have hlt : d < args.length := by have := (List.getElem?_eq_some_iff.1 h2).1; omega
  rw [Array.getElem?_append_left (by simpa using hlt)]
  simpa using h2
 exact h _ w hh hs
theorem kd {P : Program} {fn : Func} {w : World} {t t2 : TypeId} {x u : Tmp} {b b2 bt bt2 z : Nat} {cs : List Value} {v : Value} {tmps : Array Value} (hr : fn.results = #[.cell x t,.cell u t2]) (hx : tmps.getD x undef = .pointer (some ⟨b,0,none⟩)) (hu : tmps.getD u undef = .pointer (some ⟨b2,0,none⟩))
  (ht : cv P t = some true) (hz : szB P t = some z) (ht2 : cv P t2 = some false) (hb : w.heap[b]? = some (.cells cs.toArray bt (0,0))) (hl : cs.length = z) (hb2 : w.heap[b2]? = some (.cells #[v] bt2 (0,0))) :
  (results fn tmps).run P w = .ok (.tuple #[.agg cs.toArray,v]) w := by
 subst hl
 have hx' : tmps[x]?.getD undef = .pointer (some ⟨b,0,none⟩) := by simpa using hx
 have hu' : tmps[u]?.getD undef = .pointer (some ⟨b2,0,none⟩) := by simpa using hu
 have hc : ∀ j v,cs[j]? = some v → w.cell? ((⟨b,0,none⟩ : Addr).add j) = some v := ir hb (z := cs.length) (by simp)
 have hc2 : w.cell? ⟨b2,0,none⟩ = some v := by rw [cell_of_row w b2 0 _ bt2 (0,0) hb2]; rfl
 simp [results,hr,hx',hu',asAddr,loadVar,dv ht,dv ht2,cL hz,run_loadCells_list w ⟨b,0,none⟩ cs hc,hc2]
theorem o_assert {m : Bool} {cx : Cx} {fs : aV} {H : List Chunk} {Q : ck} {ops : Array Oper} {rest : List Oper} {g : Option (Nat × Bool)} {d : Nat} {ty : TypeId} {pos : String} {af : Array Edge} {x : Operand} {t u : TypeId} {v r : Value} (hr : ∀ w,(Instr.typeAssert v t u true).run cx.P w = .ok r w) (hok : okS cx.n ops fs d g = true) (hx : ev fs x = some v)
  (k : TriX m cx ops ((d,r) :: fs) H rest Q) : TriX m cx ops fs H (⟨some d,.typeAssert x t u true,ty,pos,af,g⟩ :: rest) Q :=
 bd _ hok (fun a w ha _ => by simp [execOp,ha.eval hx,hr]) k
end Go.WK
namespace Go.WK
open Go.RowKit Lib
theorem rP (s : List UInt8) (he : (aU s).e = 0) : ((aU s).k = 1 ∨ (aU s).k = 2 ∨ (aU s).k = 3 ∨ (aU s).k = 4) ∧ (aU s).t.length ≤ max s.length 64 ∧ ((aU s).k = 2 → ∃ n,parseIntB 64 (aU s).t = .ok n) := by
 unfold aU at he ⊢
 by_cases h1 : dz (s.getD 0 0) = true
 · rw [if_pos h1]
   exact ⟨.inl rfl,by simp only [nT,List.length_take]; omega,fun h => by cases h⟩
 rw [if_neg h1] at he ⊢
 by_cases h2 : bu (s.getD 0 0) = true
 · rw [if_pos h2] at he ⊢
   by_cases h3 : dO s (bJ bu s)
   · rw [if_pos h3] at he; cases he
   · rw [if_neg h3]
     exact ⟨.inr (.inl rfl),by simp only [List.length_take]; omega,fun _ => ((kz h2).2 h3).1⟩
 rw [if_neg h2] at he ⊢
 by_cases h4 : s.getD 0 0 = 39
 · rw [if_pos h4] at he ⊢
   cases hq : quo (s.drop 1) with
   | none => simp only [hq] at he; cases he
   | some r =>
    simp only [hq] at he ⊢
    by_cases h5 : 64 < r.1.length
    · rw [if_pos h5] at he; cases he
    · rw [if_neg h5]
      exact ⟨.inr (.inr (.inl rfl)),by simp only; omega,fun h => by cases h⟩
 rw [if_neg h4] at he ⊢
 by_cases h6 : dN s = 0
 · rw [if_pos h6] at he; cases he
 · rw [if_neg h6]
   exact ⟨.inr (.inr (.inr rfl)),by simp only [List.length_take]; omega,fun h => by cases h⟩
theorem uv (f : Nat) : ∀ (a : Nat) (r : List UInt8) (ts : List Tok),e7 f a r = .ok ts → r.length ≤ 4096 → Good ts ∧ ∀ t ∈ ts,TokOk t := by
 induction f with
 | zero => intro a r ts h; cases h
 | succ f ih =>
  intro a r ts h hr
  cases r with
  | nil =>
   cases h
   exact ⟨.inl rfl,fun t ht => by obtain rfl := List.mem_singleton.1 ht; exact ⟨by simp,fun h => by cases h⟩⟩
  | cons c l =>
   unfold e7 at h
   split at h
   · cases h
   · rename_i he
     have he := Decidable.not_not.1 he
     obtain ⟨_,h2,h3⟩ := rP (c :: l) he
     cases hx : e7 f (a + (aU (c :: l)).n + gap ((c :: l).drop (aU (c :: l)).n)) (((c :: l).drop (aU (c :: l)).n).drop (gap ((c :: l).drop (aU (c :: l)).n))) with
     | error e => rw [hx] at h; cases h
     | ok ts' =>
      rw [hx] at h
      cases h
      obtain ⟨k1,k2⟩ := ih _ _ _ hx (by simp only [List.length_drop]; omega)
      refine ⟨.inr k1,fun t ht => ?_⟩
      rcases List.mem_cons.1 ht with rfl | ht
      · refine ⟨by have := h2; simp only; omega,fun hk => ?_⟩
        obtain ⟨n,hn⟩ := h3 hk
        show parseIntB 64 _ = .ok (iz _)
        simp only [iz,hn]
      · exact k2 t ht
theorem kK {s : List UInt8} {ts : List Tok} (h : cQ s = .ok ts) : Good ts ∧ (∀ t ∈ ts,TokOk t) ∧ ts.length ≤ 4097 := by
 have h1 := iO h
 have h2 := uv _ _ _ _ h1.2 (by rw [List.length_drop]; omega)
 have h3 := tks_le h rfl
 exact ⟨h2.1,h2.2,by omega⟩
def stR : Except Flt StmtX → StmtX
 | .ok s => s
 | .error _ => StmtX.zero
def errS : Except Flt StmtX → Value
 | .ok _ => .nilIface
 | .error x => .iface 55 (.agg #[.int .i64 x.1,.int .i64 x.2])
def ParsT (w : World) (r : Except Flt StmtX) : Ending → World → Prop := Turn w [] (fun j : List Nat × List Value => .tuple #[.agg j.2.toArray,errS r]) (fun j => [stC j.1 (stR r) j.2]) (fun j => j.2.length = 31 ∧ allOne j.2 = true)
abbrev zSt : List Value := [.int .i64 0,.string .empty,.string .empty,.slice none 0 0,.slice none 0 0,.bool false,.slice none 0 0,.slice none 0 0,.int .i64 0,.int .i64 0,.int .i64 0,.string .empty,.string .empty,.string .empty,.int .i64 0,.slice none 0 0,.bool false,.bool false,.slice none 0 0,.slice none 0 0,.int .i64 0,.int .i64 0,.int .i64 0,.string .empty,.string .empty,.string .empty,.int .i64 0,.slice none 0 0,.slice none 0 0,.bool false,.int .i64 0]
theorem qi (bl : List Nat) (w : World) : ExK bl w Ex.zero [.int .i64 0,.int .i64 0,.int .i64 0,.string .empty,.string .empty,.string .empty,.int .i64 0,.slice none 0 0] := ⟨none,0,[],rfl,Nat.le_refl _,Rd.nil _ _,(fun _ h => by cases h),rfl⟩
theorem stK_zero (bl : List Nat) (w : World) : StK bl w StmtX.zero zSt :=
 ⟨.slice none 0 0,.slice none 0 0,.slice none 0 0,.slice none 0 0,.slice none 0 0,.slice none 0 0,.slice none 0 0,[.int .i64 0,.int .i64 0,.int .i64 0,.string .empty,.string .empty,.string .empty,.int .i64 0,.slice none 0 0],[.int .i64 0,.int .i64 0,.int .i64 0,.string .empty,.string .empty,.string .empty,.int .i64 0,.slice none 0 0],rfl,
  colKd.sl_nil _ _,nameKd.sl_nil _ _,rowKd.sl_nil _ _,setKd.sl_nil _ _,qi _ _,itemKd.sl_nil _ _,srcKd.sl_nil _ _,qi _ _,ordKd.sl_nil _ _⟩
theorem Sat.zeroSt {cx : Cx} {H : List Chunk} {w : World} (h : Sat cx H w) : Sat cx (stC [] StmtX.zero zSt :: H) w :=
 h.fuse (l := []) _ (fun _ => ⟨stK_zero _ _,fun k hk => by cases hk⟩) (fun k hk => by cases hk)
theorem row_some {A : Option Addr} {n c e z m : Nat} {xs : List Value} {w : World} (h : (row (.slice A n c) e z m xs).holds w) (hn : m = n) (hp : 0 < xs.length) : ∃ g,A = some ⟨g,0,none⟩ ∧ n ≤ c := by
 subst hn
 have ho : w.ownsRow 0 e z (.slice A m c) m xs := h
 obtain ⟨gg,cur,rfl,_,hnc,_⟩ := pP ho hp
 exact ⟨gg,rfl,hnc⟩
theorem pS0 (g k : Nat) (T : List Tok) : pSl ⟨g,0,none⟩ k T T = .slice (some ⟨g,0,none⟩) T.length k := by
 unfold pSl
 rw [Nat.sub_self,Nat.zero_mul,Nat.sub_zero]
 rfl
theorem mS {s : List UInt8} {x : Flt} (h : cQ s = .error x) : cu s = .error x := by unfold cu; rw [h]
theorem rQ {s : List UInt8} {ts : List Tok} {x : Flt} (h : cQ s = .ok ts) (h2 : dC (8 * ts.length + 8) 0 ts = .error x) : cu s = .error x := by unfold cu; rw [h]; simp only [js,h2]
theorem rT {s : List UInt8} {ts us : List Tok} {st : StmtX} (h : cQ s = .ok ts) (h2 : dC (8 * ts.length + 8) 0 ts = .ok (st,us)) : cu s = if (hd (if atT 4 [59] us = true then us.drop 1 else us)).k = 5 then .ok st else .error (190,(hd (if atT 4 [59] us = true then us.drop 1 else us)).a) := by unfold cu; rw [h]; simp only [js,h2]
end Go.WK
namespace Go.WK
open Go.RowKit
theorem row_suf {w : World} {a : Addr} {T us : List Tok} (h : Rd w (some a) (toksV T)) (hu : us <:+ T) : Rd w (some (a.add ((T.length - us.length) * 3))) (toksV us) := by
 intro j u hj
 obtain ⟨a1,ha,hc⟩ := h ((T.length - us.length) * 3 + j) u (by rw [← List.getElem?_drop,iK,mJ hu]; exact hj)
 cases ha
 exact ⟨_,rfl,by rw [jH]; exact hc⟩
end Go.WK
namespace Go.WK
open Go.RowKit
theorem app_str {P : Program} {w : World} {t u ty e : TypeId} {i : TypeInfo} (ht : P.underlying t = some (.slice e)) (hu : P.underlying u = some .string) (hi : P.info? e = some i) (hz : i.zero = some (.int .u8 0)) (hsize : i.size = 1) (hby : i.bytes = 1)
  {v : Value} {n : Nat} {xs : List Value} (hown : w.ownsRow 0 e 1 v n xs) (s : ByteArray) (h63 : n + s.size ≤ maxLen) (hbytes : n + s.size ≤ 140737488355328) :
  ∃ v' w',(Builtin.append_ #[t,u] ty #[v,.string s]).run P w = .ok v' w' ∧ w'.ownsRow 0 e 1 v' (n + s.size) (xs ++ Lib.strCells s) ∧ w.grownBy w' v.ownBlock ∧ (v'.ownBlock = v.ownBlock ∨ v'.ownBlock = some w.heap.size) := by
 obtain ⟨v',w',hr,ho,hg,_⟩ := Lib.run_append_own_string (P := P) w 0 t u ty e i ht hu hi hz hsize hby v n xs hown s h63 hbytes (Nat.zero_le _)
 refine ⟨v',w',hr,ho,hg, ?_⟩
 have hsmall : n + s.size ≤ 9223372036854775807 := by simp only [maxLen] at h63; omega
 have hxl : xs.length = n := by simpa using hown.1
 rcases hown.2 with ⟨rfl,rfl⟩ | ⟨g,cap,cur,rfl,hbg,hgg,hnc,hcm,hcs,htake⟩
 · by_cases hm : s.size = 0
   · have hf := Lib.run_firstCells_string (P := P) w 1 s
     rw [hm] at hf
     have hr2 : (Builtin.append_ #[t,u] ty #[.slice none 0 0,.string s]).run P w = .ok (.slice none 0 0) w := by
      simp [Builtin.append_,run_underlying ht,run_underlying hu,sizeOf,typeInfo,hi,hsize,Builtin.lenOf,hm,hf]
     rw [hr2] at hr
     cases hr
     exact .inl rfl
   · have hr2 := run_append_nil_string (P := P) w t u ty e i (.int .u8 0) ht hu hi hz s (by omega) (by omega) (by rw [hby]; omega)
     rw [hr2] at hr
     cases hr
     exact .inr rfl
 · by_cases hroom : n + s.size ≤ cap
   · have hcs' : cur.size = cap := by simpa using hcs
     have hr2 := Lib.run_append_room_string (P := P) w t u ty e i ht hu hi hsize g n cap cur hgg s hroom (by omega)
     rw [hr2] at hr
     cases hr
     exact .inl rfl
   · have holds : ∀ j u,xs[j]? = some u → w.cell? ((⟨g,0,none⟩ : Addr).add j) = some u := hown.cells (g := g) rfl
     have hr2 := Lib.run_append_grow_string (P := P) w t u ty e i (.int .u8 0) ht hu hi hz ⟨g,0,none⟩ n cap xs (by rw [hsize]; simpa using hxl) holds s (by omega) (by omega) (by rw [hby]; exact growslice_fits (by omega) (by omega))
     rw [hr2] at hr
     cases hr
     exact .inr rfl
theorem rU (l : List UInt8) : Lib.strCells (B l) = cr l := by
 simp [Lib.strCells,cr,gE]
section ops
variable {cx : Cx} {fs : aV} {H : List Chunk} {Q : ck} {ops : Array Oper} {rest : List Oper} {g : Option (Nat × Bool)} {d : Nat} {ty : TypeId} {pos : String} {af : Array Edge}
theorem uw {x y : Operand} {t u e : TypeId} {i n c : Nat} {A : Option Addr} {xs : List Value} {s : List UInt8} (ht : cx.P.underlying t = some (.slice e)) (hu : cx.P.underlying u = some .string) (hi : (cx.P.info? e).map (fun i => (i.zero,i.size,i.bytes)) = some (some (.int .u8 0),1,1))
  (hn : Nth H i (row (.slice A n c) e 1 n xs)) (hok : okS cx.n ops fs d g = true) (hx : ev fs x = some (.slice A n c)) (hy : ev fs y = some (.string (B s))) (hb : n + s.length ≤ 70368744177664)
  (k : ∀ A' c',TriX false cx ops ((d,.slice A' (n + s.length) c') :: fs) (gz H i (row (.slice A' (n + s.length) c') e 1 (n + s.length) (xs ++ cr s))) rest Q) : TriX false cx ops fs H (⟨some d,.call ⟨.builtin .append, #[x,y], #[t,u]⟩,ty,pos,af,g⟩ :: rest) Q :=
 eU (J := Option Addr × Nat) (fun j => .slice j.1 (n + s.length) j.2) (fun j => gz H i (row (.slice j.1 (n + s.length) j.2) e 1 (n + s.length) (xs ++ cr s))) (fun _ => True) (dJ hok) (fun e he => by cases he; exact f4 hok)
  (fun a w ha hw => by
   obtain ⟨ti,hi0,hz,hsz,hby⟩ := info_parts hi
   have hown : w.ownsRow 0 e 1 (.slice A n c) n xs := hw.holds _ hn.mem
   obtain ⟨v',w',hrun,ho,hg,hb2⟩ := app_str (P := cx.P) (ty := ty) ht hu hi0 hz hsz hby hown (B s) (by rw [dn]; unfold maxLen; omega) (by rw [dn]; omega)
   rw [dn,rU] at ho
   obtain ⟨A',c',rfl⟩ := pN ho
   refine ⟨(A',c'),w',.inl (dg (xs := [x,y]) ha (vs := [.slice A n c,.string (B s)]) (by simp [evs,hx,hy]) (by simp [builtin,hrun])), ?_,trivial⟩
   refine hw.change hn _ ho hg.os hg.tape hg.output hg.size (fun k hk hf => hg.block k hk (fun e => hf e.symm)) (fun k hk => ?_)
   rcases hb2 with hb2 | hb2
   · left; show (Value.slice A n c).ownBlock = some k; rw [← hb2]; exact hk
   · right; have hk' : (Value.slice A' (n + s.length) c').ownBlock = some k := hk
     rw [hb2] at hk'; cases hk'; exact Nat.le_refl _) (fun j _ => k j.1 j.2)
end ops
abbrev prD (pb : Nat) (A : Option Addr) (c : Nat) (l : List UInt8) (d m : Int) : List Chunk := [box pb 67 [.slice A l.length c,.int .i64 d,.int .i64 m],row (.slice A l.length c) 5 1 l.length (cr l)]
def prL (pb : Nat) (A : Option Addr) : List Nat := pb :: blkA A
def PrT (w : World) (pb : Nat) (A : Option Addr) (l : List UInt8) (d m : Int) : Ending → World → Prop := Turn w (prL pb A) (fun _ : Option Addr × Nat => .tuple #[]) (fun j => prD pb j.1 j.2 l d m) (fun _ => True)
def gq (w : World) (pb : Nat) (A : Option Addr) (c : Nat) (l : List UInt8) (d m : Int) : Prop := Sat ⟨default,0,[],w,prL pb A⟩ (prD pb A c l d m) w
theorem prD1 (pb : Nat) (A : Option Addr) (c : Nat) (l : List UInt8) (d m : Int) : ∀ x ∈ prD pb A c l d m,∀ k,x.fp k → k ∈ prL pb A := fun x hx k hk => by
 rcases List.mem_cons.1 hx with rfl | hx
 · have : k = pb := hk
   rw [this]; exact List.mem_cons_self
 · obtain rfl := List.mem_singleton.1 hx
   exact List.mem_cons_of_mem _ (s5 hk)
theorem prD2 (pb : Nat) (A : Option Addr) (c : Nat) (l : List UInt8) (d m : Int) : ∀ k ∈ prL pb A, ∃ x ∈ prD pb A c l d m,x.fp k := fun k hk => by
 rcases List.mem_cons.1 hk with rfl | hk
 · exact ⟨_,List.mem_cons_self,rfl⟩
 · exact ⟨_,List.mem_cons_of_mem _ List.mem_cons_self,dQ hk⟩
theorem pr_notin {P : Program} {n : Nat} {w w1 : World} {L : List Nat} {H : List Chunk} {pb : Nat} {A : Option Addr} {c : Nat} {l : List UInt8} {d m : Int} (h : Sat ⟨P,n,[],w,L⟩ H w1) (hm : ∀ x ∈ prD pb A c l d m,x ∈ H) : ∀ k,k < w.heap.size → k ∉ L → k ∉ prL pb A := fun k h1 h2 hk => by
 obtain ⟨x,hx,hf⟩ := prD2 pb A c l d m k hk
 rcases h.fresh x (hm x hx) k hf with h3 | h3
 · have h3 : w.heap.size ≤ k := h3
   omega
 · exact h2 h3
end Go.WK
namespace Go.WK
open Go.RowKit
theorem oa (ss : List (List UInt8)) (i : Nat) (h : i < ss.length) : (ss.take (i + 1)).flatten = (ss.take i).flatten ++ ss.getD i [] := by
 rw [rr ss i h]; simp
theorem flat_le (ss : List (List UInt8)) (i : Nat) (h : i < ss.length) : (ss.take i).flatten.length + (ss.getD i []).length ≤ ss.flatten.length := by
 have e := oa ss i h
 have e2 : ss.flatten = (ss.take (i + 1)).flatten ++ (ss.drop (i + 1)).flatten := by rw [← List.flatten_append,List.take_append_drop]
 rw [e2,e]; simp only [List.length_append]; omega
theorem prD_app {pb : Nat} {A : Option Addr} {c : Nat} {l s : List UInt8} {d m : Int} {cx : Cx} {H : List Chunk} {w : World} (h : Sat cx (box pb 67 [.slice A (l.length + s.length) c,.int .i64 d,.int .i64 m] :: row (.slice A (l.length + s.length) c) 5 1 (l.length + s.length) (cr l ++ cr s) :: H) w) : Sat cx (prD pb A c (l ++ s) d m ++ H) w := by
 simp only [prD,List.length_append,dM]
 exact h
theorem bX {pb : Nat} {A : Option Addr} {c : Nat} {l l' : List UInt8} {d d' m m' : Int} {cx : Cx} {w : World} (h1 : l = l') (h2 : d = d') (h3 : m = m') (h : Sat cx (prD pb A c l d m) w) : Sat cx (prD pb A c l' d' m') w := by
 subst h1 h2 h3; exact h
theorem bk {cx : Cx} {c : Chunk} {H : List Chunk} {w : World} {pb : Nat} {A : Option Addr} {cc : Nat} {l : List UInt8} {d m : Int} (h : Sat cx (c :: H) w) (hin : ∀ x ∈ prD pb A cc l d m,x ∈ H) {k : Nat} (hk : c.fp k) : k ∉ prL pb A := fun hm => by
 obtain ⟨x,hx,hf⟩ := prD2 pb A cc l d m k hm
 exact (List.pairwise_cons.1 h.apart).1 x (hin x hx) k hk hf
section ops
variable {cx : Cx} {fs : aV} {H : List Chunk} {Q : ck} {ops : Array Oper} {rest : List Oper} {g : Option (Nat × Bool)} {dd : Nat} {ty : TypeId} {pos : String} {af : Array Edge}
theorem aJ {f : Operand} {xs : List Operand} {ats : Array TypeId} {fid : FuncId} {first cap : List Value} {vs : List Value} {pb : Nat} {A : Option Addr} {c : Nat} {l l' : List UInt8} {d m d' m' : Int} (H1 : List Chunk) (hH : H = H1 ++ prD pb A c l d m) (hok : okS cx.n ops fs dd g = true)
  (hf : ev fs f = some (.func (.func fid) first.toArray cap.toArray)) (hxs : evs fs xs = some vs) (hcf : ∀ args w,(callFunc fid args).run cx.P w = .ok (.enter fid args) w)
  (hc : ∀ w,Sat cx H w → gq w pb A c l d m → (∀ x ∈ prD pb A c l d m,x ∈ H) → Calls cx.P fid (first ++ vs ++ cap).toArray w (PrT w pb A l' d' m'))
  (k : ∀ A' c',TriX false cx ops ((dd,.tuple #[]) :: fs) (H1 ++ prD pb A' c' l' d' m') rest Q) : TriX false cx ops fs H (⟨some dd,.call ⟨.value f,xs.toArray,ats⟩,ty,pos,af,g⟩ :: rest) Q := by
 have hin : ∀ x ∈ prD pb A c l d m,x ∈ H := fun x hx => by rw [hH]; exact List.mem_append_right _ hx
 refine gX (J := Option Addr × Nat) (val := fun _ => .tuple #[]) (D' := fun j => prD pb j.1 j.2 l' d' m') (Pu := fun _ => True) H1 (prD pb A c l d m) [] (prL pb A) (by rw [hH]; rfl) hok hf hxs hcf (prD1 pb A c l d m) (prD2 pb A c l d m) (fun w h1 h2 => hc w h1 h2 hin) (fun j _ => ?_)
 exact k j.1 j.2
end ops
theorem ExsK.at {bl : List Nat} {w : World} : ∀ {l : List Ex} {xs : List Value} (i : Nat),ExsK bl w l xs → i < l.length → ∃ cs,(xs.drop (i * 8)).take 8 = cs ∧ ExK bl w (l.getD i Ex.zero) cs
 | [],_,i,_,hi => by simp at hi
 | e :: es,_,i,h,hi => by
  obtain ⟨y,ys,rfl,h2,h3⟩ := h
  have hy := h2.len
  cases i with
  | zero =>
   refine ⟨y, ?_,h2⟩
   rw [Nat.zero_mul,List.drop_zero]
   exact List.take_left' hy
  | succ i =>
   obtain ⟨cs,k1,k2⟩ := ExsK.at i h3 (by simpa using hi)
   refine ⟨cs, ?_,by simpa using k2⟩
   rw [show (i + 1) * 8 = y.length + i * 8 by omega,List.drop_length_add_append]
   exact k1
theorem ExK.op {bl : List Nat} {w : World} {e : Ex} {cs : List Value} (h : ExK bl w e cs) : cs[0]? = some (.int .i64 e.o) := by
 cases e with
 | mk o v t n c as => obtain ⟨A,k,xs,rfl,_⟩ := h; rfl
theorem jv {xs : List Value} {i : Nat} {cs : List Value} (h : (xs.drop (i * 8)).take 8 = cs) {v : Value} (hv : cs[0]? = some v) : xs[i * 8 + 0]? = some v := by
 rw [← h,List.getElem?_take,if_pos (by decide),List.getElem?_drop] at hv
 exact hv
section
variable {o c : Int} {v : Val} {t n : List UInt8} {as : List Ex}
theorem gr {e : Ex} {low : Int} (h : ¬ lvl e.o < low) : e.txt low = e.core := by unfold Ex.txt gh; rw [if_neg h]
theorem qj {e : Ex} {low : Int} (h : lvl e.o < low) : e.txt low = (40 :: (e.core.1 ++ [41]),e.core.2 + 1) := by unfold Ex.txt gh; rw [if_pos h]
theorem core_1 (h : o = 1) : Ex.core (.mk o v t n c as) = ((prV v).1,0) := by rw [Ex.core,coreT,if_pos h]
theorem core_2 (h : o = 2) : Ex.core (.mk o v t n c as) = (if t = [] then n else t ++ (46 :: n),0) := by rw [Ex.core,coreT,if_neg (by omega),if_pos h]
theorem core_5 (h : o = 5) (ha : 0 < as.length) : Ex.core (.mk o v t n c as) = ([110,111,116,32] ++ ((as.getD 0 Ex.zero).txt 3).1,((as.getD 0 Ex.zero).txt 3).2 + 1) := by
 rw [Ex.core,coreT,if_neg (by omega),if_neg (by omega),if_pos h,iy ha]
theorem core_4 (h : o = 4) (ha : 0 < as.length) : Ex.core (.mk o v t n c as) = (45 :: ((if (as.getD 0 Ex.zero).o = 4 then [32] else []) ++ ((as.getD 0 Ex.zero).txt 7).1),((as.getD 0 Ex.zero).txt 7).2 + 1) := by
 rw [Ex.core,coreT,if_neg (by omega),if_neg (by omega),if_neg (by omega),if_pos h,iy ha,cores_op ha]
theorem core_6 (h : o = 6) (ha : 0 < as.length) : Ex.core (.mk o v t n c as) = (((as.getD 0 Ex.zero).txt 5).1 ++ [32,105,115,32,110,117,108,108],((as.getD 0 Ex.zero).txt 5).2) := by
 rw [Ex.core,coreT,if_neg (by omega),if_neg (by omega),if_neg (by omega),if_neg (by omega),if_pos h,iy ha]
theorem core_7 (h : o = 7) (ha : 0 < as.length) : Ex.core (.mk o v t n c as) = (((as.getD 0 Ex.zero).txt 5).1 ++ [32,105,115,32,110,111,116,32,110,117,108,108],((as.getD 0 Ex.zero).txt 5).2) := by
 rw [Ex.core,coreT,if_neg (by omega),if_neg (by omega),if_neg (by omega),if_neg (by omega),if_neg (by omega),if_pos h,iy ha]
theorem core_b (h1 : o ≠ 1) (h2 : o ≠ 2) (h4 : o ≠ 4) (h5 : o ≠ 5) (h6 : o ≠ 6) (h7 : o ≠ 7) (ha : 1 < as.length) : Ex.core (.mk o v t n c as) = (((as.getD 0 Ex.zero).txt (if lvl o = 4 then 5 else lvl o)).1 ++ ((32 :: (kF o ++ [32])) ++ ((as.getD 1 Ex.zero).txt (lvl o + 1)).1),max ((as.getD 0 Ex.zero).txt (if lvl o = 4 then 5 else lvl o)).2 ((as.getD 1 Ex.zero).txt (lvl o + 1)).2) := by
 rw [Ex.core,coreT,if_neg h1,if_neg h2,if_neg h5,if_neg h4,if_neg h6,if_neg h7,iy (show 0 < as.length by omega),iy ha]
end
def lY : List Opr := orO ++ (mG ++ (eE ++ (lW ++ lX)))
theorem op_hit : ∀ i,i < 14 → kF (lY.getD i Tok.zero).a = (lY.getD i Tok.zero).t := by decide
theorem ux {o : Int} {i : Nat} (h : ∀ j,j < i → (lY.getD j Tok.zero).a ≠ o) (h1 : (lY.getD i Tok.zero).a ≠ o) : ∀ j,j < i + 1 → (lY.getD j Tok.zero).a ≠ o := fun j hj => by
 rcases Nat.lt_or_ge j i with h2 | h2
 · exact h j h2
 · have e : j = i := by omega
   rw [e]; exact h1
theorem op_miss {o : Int} (h : ∀ i,i < 14 → (lY.getD i Tok.zero).a ≠ o) : kF o = [] := by
 have k0 := h 0 (by decide); have k1 := h 1 (by decide); have k2 := h 2 (by decide); have k3 := h 3 (by decide); have k4 := h 4 (by decide)
 have k5 := h 5 (by decide); have k6 := h 6 (by decide); have k7 := h 7 (by decide); have k8 := h 8 (by decide); have k9 := h 9 (by decide)
 have k10 := h 10 (by decide); have k11 := h 11 (by decide); have k12 := h 12 (by decide); have k13 := h 13 (by decide)
 simp only [lY,orO,mG,eE,lW,lX,List.getD,List.cons_append,List.nil_append,List.getElem?_cons_zero,List.getElem?_cons_succ,Option.getD_some] at k0 k1 k2 k3 k4 k5 k6 k7 k8 k9 k10 k11 k12 k13
 unfold kF
 rw [if_neg (Ne.symm k0),if_neg (Ne.symm k1),if_neg (Ne.symm k2),if_neg (Ne.symm k3),if_neg (Ne.symm k4),if_neg (Ne.symm k5),if_neg (Ne.symm k6),if_neg (Ne.symm k7),if_neg (Ne.symm k8),if_neg (Ne.symm k9),if_neg (Ne.symm k10),if_neg (Ne.symm k11),if_neg (Ne.symm k12),if_neg (Ne.symm k13)]
def je (l : List UInt8) (m : Int) : List UInt8 × Int := if 24 < m then ([],191) else if 4096 < l.length then ([],3) else (l,0)
end Go.WK
namespace Go.WK
open Go.RowKit Go.Lib
section ops
variable {m : Bool} {cx : Cx} {fs : aV} {H : List Chunk} {Q : ck} {ops : Array Oper} {rest : List Oper} {g : Option (Nat × Bool)} {d : Nat} {ty : TypeId} {pos : String} {af : Array Edge}
end ops
def dd (k : Nat) : List UInt8 := if k = 0 then [] else decDigits k
end Go.WK
namespace Go.WK
open Go.RowKit
instance : DecidableEq ColX := fun a b => decidable_of_iff (a.n = b.n ∧ a.k = b.k ∧ a.b = b.b) (by cases a; cases b; simp)
instance : DecidableEq ItemX := fun a b => decidable_of_iff (a.e = b.e ∧ a.s = b.s) (by cases a; cases b; simp)
instance : DecidableEq SrcX := fun a b => decidable_of_iff (a.t = b.t ∧ a.s = b.s ∧ a.e = b.e) (by cases a; cases b; simp)
instance : DecidableEq OrdX := fun a b => decidable_of_iff (a.n = b.n ∧ a.b = b.b) (by cases a; cases b; simp)
instance : DecidableEq SetX := fun a b => decidable_of_iff (a.n = b.n ∧ a.e = b.e) (by cases a; cases b; simp)
instance : DecidableEq QryX := fun a b => decidable_of_iff (a.di = b.di ∧ a.st = b.st ∧ a.items = b.items ∧ a.from_ = b.from_ ∧ a.wh = b.wh ∧ a.ord = b.ord ∧ a.li = b.li ∧ a.lim = b.lim) (by cases a; cases b; simp)
instance : DecidableEq StmtX := fun a b => decidable_of_iff (a.k = b.k ∧ a.t = b.t ∧ a.n = b.n ∧ a.cols = b.cols ∧ a.on = b.on ∧ a.un = b.un ∧ a.rows = b.rows ∧ a.sets = b.sets ∧ a.wh = b.wh ∧ a.q = b.q) (by cases a; cases b; simp)
def ColX.zero : ColX := ⟨[],0,false⟩
def ItemX.zero : ItemX := ⟨Ex.zero,[]⟩
def SrcX.zero : SrcX := ⟨[],[],Ex.zero⟩
def OrdX.zero : OrdX := ⟨[],false⟩
def SetX.zero : SetX := ⟨[],Ex.zero⟩
def gi (e : Ex) : Bool := bareX e 0
def iB (e : Ex) : Bool := gi e || e.may
def gL (n most : Nat) : Bool := decide (1 ≤ n) && decide (n ≤ most)
def kL (a : ItemX) : Bool := a.e.may && (decide (a.s = []) || nameOk a.s)
def mT (i : Nat) (a : SrcX) : Bool := nameOk a.t && ((decide (a.s = []) || nameOk a.s) && (if i = 0 then gi a.e else a.e.may))
def cy (g : Nat → Bool) : Nat → Bool
 | 0 => true
 | i + 1 => cy g i && g i
def mayQ (q : QryX) : Bool :=
 (iB q.wh && (decide (q.from_.length ≤ 4) && (decide (q.ord.length ≤ 16) && (decide (0 ≤ q.lim) && (q.li || decide (q.lim = 0)))))) &&
 ((if q.st = true then decide (q.items.length = 0) else gL q.items.length 16) &&
 (cy (fun i => kL (q.items.getD i ItemX.zero)) q.items.length && (cy (fun i => mT i (q.from_.getD i SrcX.zero)) q.from_.length && cy (fun i => nameOk (q.ord.getD i OrdX.zero).n) q.ord.length)))
def eH (s : StmtX) : StmtX :=
 if s.k = 1 then { StmtX.zero with k := 1,t := s.t,cols := s.cols }
 else if s.k = 2 then { StmtX.zero with k := 2,t := s.t }
 else if s.k = 3 then { StmtX.zero with k := 3,t := s.t,n := s.n,on := s.on,un := s.un }
 else if s.k = 4 then { StmtX.zero with k := 4,n := s.n }
 else if s.k = 5 then { StmtX.zero with k := 5,t := s.t,rows := s.rows }
 else if s.k = 6 then { StmtX.zero with k := 6,t := s.t,wh := s.wh }
 else if s.k = 7 then { StmtX.zero with k := 7,t := s.t,sets := s.sets,wh := s.wh }
 else if s.k = 8 then { StmtX.zero with k := 8,q := s.q }
 else { StmtX.zero with k := s.k }
def ib (a : ColX) : Bool := nameOk a.n && (decide (1 ≤ a.k) && decide (a.k ≤ 3))
def f9 (l : List Ex) : Bool := gL l.length 16 && cy (fun k => (l.getD k Ex.zero).may) l.length
def ic (a : SetX) : Bool := nameOk a.n && a.e.may
def dX (s : StmtX) : Bool :=
 if s.k = 1 then nameOk s.t && (gL s.cols.length 16 && cy (fun i => ib (s.cols.getD i ColX.zero)) s.cols.length)
 else if s.k = 2 then nameOk s.t
 else if s.k = 3 then nameOk s.t && (nameOk s.n && (gL s.on.length 16 && cy (fun i => nameOk (s.on.getD i [])) s.on.length))
 else if s.k = 4 then nameOk s.n
 else if s.k = 5 then nameOk s.t && (decide (0 < s.rows.length) && cy (fun i => f9 (s.rows.getD i [])) s.rows.length)
 else if s.k = 6 then nameOk s.t && iB s.wh
 else if s.k = 7 then nameOk s.t && (gL s.sets.length 16 && (iB s.wh && cy (fun i => ic (s.sets.getD i SetX.zero)) s.sets.length))
 else if s.k = 8 then mayQ s.q
 else decide (9 ≤ s.k ∧ s.k ≤ 11)
def mU (s : StmtX) : Bool := dX s && decide (s = eH s)
def cat (a b : Txt) : Txt := (a.1 ++ b.1,max a.2 b.2)
def raw (s : List UInt8) : Txt := (s,0)
def upT (g : Nat → Txt) : Nat → Txt
 | 0 => ([],0)
 | i + 1 => cat (upT g i) (g i)
def cm (i : Nat) : List UInt8 := if i = 0 then [] else [44,32]
def fg (g : Nat → Txt) (n : Nat) : Txt := upT (fun i => cat (raw (cm i)) (g i)) n
def kM (b : Bool) : List UInt8 := if b = true then [32,110,111,116,32,110,117,108,108] else []
def kindT (k : Int) : List UInt8 := if k = 1 then [32,105,110,116] else if k = 2 then [32,116,101,120,116] else if k = 3 then [32,98,111,111,108] else []
def mV (a : ColX) : Txt := raw (a.n ++ (kindT a.k ++ kM a.b))
def asT (s : List UInt8) : List UInt8 := if s = [] then [] else [32,97,115,32] ++ s
def jf (a : ItemX) : Txt := cat (a.e.txt 1) (raw (asT a.s))
def lZ (i : Nat) (a : SrcX) : Txt := cat (raw ((if i = 0 then [32,102,114,111,109,32] else [32,106,111,105,110,32]) ++ (a.t ++ asT a.s))) (if i = 0 then ([],0) else cat (raw [32,111,110,32]) (a.e.txt 1))
def descT (b : Bool) : List UInt8 := if b = true then [32,100,101,115,99] else []
def ordT (a : OrdX) : Txt := raw (a.n ++ descT a.b)
def gM (e : Ex) : Txt := if e.o = 0 then ([],0) else cat (raw [32,119,104,101,114,101,32]) (e.txt 1)
def setT (a : SetX) : Txt := cat (raw (a.n ++ [32,61,32])) (a.e.txt 1)
def rowT (l : List Ex) : Txt := cat (raw [40]) (cat (fg (fun k => (l.getD k Ex.zero).txt 1) l.length) (raw [41]))
def iV (q : QryX) : List UInt8 := [115,101,108,101,99,116,32] ++ ((if q.di = true then [100,105,115,116,105,110,99,116,32] else []) ++ (if q.st = true then [42] else []))
def qk (n : Nat) : List UInt8 := if 0 < n then [32,111,114,100,101,114,32,98,121,32] else []
def limT (q : QryX) : List UInt8 := if q.li = true then [32,108,105,109,105,116,32] ++ Lib.itoa q.lim else []
def qryT (q : QryX) : Txt := cat (raw (iV q)) (cat (fg (fun i => jf (q.items.getD i ItemX.zero)) q.items.length) (cat (upT (fun i => lZ i (q.from_.getD i SrcX.zero)) q.from_.length)
 (cat (gM q.wh) (cat (raw (qk q.ord.length)) (cat (fg (fun i => ordT (q.ord.getD i OrdX.zero)) q.ord.length) (raw (limT q)))))))
def ew (s : StmtX) : Txt :=
 if s.k = 1 then cat (raw ([99,114,101,97,116,101,32,116,97,98,108,101,32] ++ (s.t ++ [32,40]))) (cat (fg (fun i => mV (s.cols.getD i ColX.zero)) s.cols.length) (raw [41]))
 else if s.k = 2 then raw ([100,114,111,112,32,116,97,98,108,101,32] ++ s.t)
 else if s.k = 3 then cat (raw ([99,114,101,97,116,101,32] ++ ((if s.un = true then [117,110,105,113,117,101,32] else []) ++ ([105,110,100,101,120,32] ++ (s.n ++ ([32,111,110,32] ++ (s.t ++ [32,40]))))))) (cat (fg (fun i => raw (s.on.getD i [])) s.on.length) (raw [41]))
 else if s.k = 4 then raw ([100,114,111,112,32,105,110,100,101,120,32] ++ s.n)
 else if s.k = 5 then cat (raw ([105,110,115,101,114,116,32,105,110,116,111,32] ++ (s.t ++ [32,118,97,108,117,101,115,32]))) (fg (fun i => rowT (s.rows.getD i [])) s.rows.length)
 else if s.k = 6 then cat (raw ([100,101,108,101,116,101,32,102,114,111,109,32] ++ s.t)) (gM s.wh)
 else if s.k = 7 then cat (raw ([117,112,100,97,116,101,32] ++ (s.t ++ [32,115,101,116,32]))) (cat (fg (fun i => setT (s.sets.getD i SetX.zero)) s.sets.length) (gM s.wh))
 else if s.k = 8 then qryT s.q
 else if s.k = 9 then raw [98,101,103,105,110]
 else if s.k = 10 then raw [99,111,109,109,105,116]
 else if s.k = 11 then raw [114,111,108,108,98,97,99,107]
 else ([],0)
def prS (s : StmtX) : List UInt8 × Int := if mU s = true then je (ew s).1 (ew s).2 else ([],1)
theorem prX_told (e : Ex) : prX e = if e.may = true then je (e.txt 1).1 (e.txt 1).2 else ([],1) := by
 unfold prX je
 by_cases h : e.may = true
 · rw [if_pos h,if_pos h]
   by_cases h2 : 24 < (e.txt 1).2
   · rw [if_pos h2,if_pos (show (24 : Int) < ((e.txt 1).2 : Int) by omega)]
   · rw [if_neg h2,if_neg (show ¬ (24 : Int) < ((e.txt 1).2 : Int) by omega)]
 · rw [if_neg h,if_neg h]
theorem upT_le (g : Nat → Txt) : ∀ {i n : Nat},i ≤ n → (upT g i).1.length ≤ (upT g n).1.length := by
 intro i n h
 induction n with
 | zero => obtain rfl : i = 0 := by omega
           exact Nat.le_refl _
 | succ n ih =>
  rcases Nat.lt_or_ge i (n + 1) with h1 | h1
  · have := ih (by omega)
    simp only [upT,cat,List.length_append]; omega
  · obtain rfl : i = n + 1 := by omega
    exact Nat.le_refl _
theorem upT_at (g : Nat → Txt) {i n : Nat} (h : i < n) : (upT g i).1.length + (g i).1.length ≤ (upT g n).1.length := by
 have := upT_le g (show i + 1 ≤ n by omega)
 simpa [upT,cat] using this
structure PSub (w : World) (L : List Nat) (w1 : World) (L1 : List Nat) : Prop where
 chg : Chg L w w1
 notin : ∀ k,k < w.heap.size → k ∉ L → k ∉ L1
theorem PSub.of {P : Program} {n : Nat} {w w1 : World} {L : List Nat} {H : List Chunk} {pb : Nat} {A : Option Addr} {c : Nat} {l : List UInt8} {d m : Int} (h : Sat ⟨P,n,[],w,L⟩ H w1) (hm : ∀ x ∈ prD pb A c l d m,x ∈ H) : PSub w L w1 (prL pb A) :=
 ⟨h.chg,pr_notin h hm⟩
structure PE (w : World) (L : List Nat) (bl : List Nat) : Prop where
 lt : ∀ k ∈ bl,k < w.heap.size ∧ k ∉ L
 g : ∀ k,k < 10 → k < w.heap.size ∧ k ∉ L
theorem PE.sub {w w1 : World} {L L1 bl : List Nat} (h : PE w L bl) (s : PSub w L w1 L1) : PE w1 L1 bl :=
 ⟨fun k hk => ⟨Nat.lt_of_lt_of_le (h.lt k hk).1 s.chg.size,s.notin k (h.lt k hk).1 (h.lt k hk).2⟩,fun k hk => ⟨Nat.lt_of_lt_of_le (h.g k hk).1 s.chg.size,s.notin k (h.g k hk).1 (h.g k hk).2⟩⟩
theorem PE.st {w w1 : World} {L L1 bl : List Nat} (h : PE w L bl) (s : PSub w L w1 L1) : ∀ k ∈ bl,w1.heap[k]? = w.heap[k]? := fun k hk => s.chg.block k (h.lt k hk).1 (h.lt k hk).2
theorem PE.rd {w : World} {L bl : List Nat} (h : PE w L bl) {A : Option Addr} {xs : List Value} (hx : Rd w A xs) (hb : ∀ a,A = some a → xs ≠ [] → a.block ∈ bl) (cx : Cx) (H : List Chunk) (e1 : cx.w0 = w) (e2 : cx.lent = L) : RdS cx H A xs := by
 by_cases hn : xs = []
 · subst hn; exact fun _ _ => Rd.nil _ _
 · exact RdS.lent (by rw [e1]; exact hx) (fun a ha => by rw [e2]; exact (h.lt _ (hb a ha hn)).2)
theorem ExK.psub {w w1 : World} {L L1 bl : List Nat} {e : Ex} {cs : List Value} (h : ExK bl w e cs) (p : PE w L bl) (s : PSub w L w1 L1) : ExK bl w1 e cs := ExK.stab (p.st s) _ _ h
theorem ExsK.nil {bl : List Nat} {w : World} {as : List Ex} {xs : List Value} (h : ExsK bl w as xs) (hx : xs ≠ []) : as ≠ [] := fun e => hx (by subst e; exact h)
end Go.WK
namespace Go.WK
open Go.RowKit Lib
abbrev KT := Int × List UInt8
def kt (t : Tok) : KT := (t.k,t.t)
def Stop (r : List UInt8) : Prop := r = [] ∨ (r.head?.getD 0) ∈ [(32 : UInt8),40,41,44,46]
end Go.WK
namespace Go.WK
open Go.RowKit Lib
inductive View : Ex → Prop
 | cst (v : Val) (hv : may v = true) (h0 : v.k = 1 → 0 ≤ v.n) : View (cst v)
 | nam (t n : List UInt8) (hn : nameOk n = true) (ht : t = [] ∨ nameOk t = true) : View (.mk 2 Val.zero t n 0 [])
 | un (o : Int) (a : Ex) (ho : 4 ≤ o ∧ o ≤ 7) (ha : a.may = true) : View (un o a)
 | bin (o : Int) (a b : Ex) (ho : 8 ≤ o ∧ o ≤ 21) (ha : a.may = true) (hb : b.may = true) : View (bin o a b)
theorem view {e : Ex} (h : e.may = true) : View e := by
 obtain ⟨o,v,t,n,c,as⟩ := e
 by_cases h1 : o = 1
 · subst h1
   rw [Ex.may,if_pos rfl] at h
   simp only [bareX,Bool.and_eq_true,decide_eq_true_eq,Ex.mk.injEq,Bool.or_eq_true,Bool.not_eq_true',decide_eq_false_iff_not] at h
   obtain ⟨⟨_,_,rfl,rfl,rfl,rfl⟩,h2,h3⟩ := h
   exact .cst v h2 (fun hk => h3.resolve_left (fun h => h hk))
 by_cases h2 : o = 2
 · subst h2
   rw [Ex.may,if_neg h1,if_pos rfl] at h
   simp only [bareX,Bool.and_eq_true,decide_eq_true_eq,Ex.mk.injEq,Bool.or_eq_true] at h
   obtain ⟨⟨hn,ht⟩,_,rfl,_,_,rfl,rfl⟩ := h
   exact .nam t n hn ht
 have h' := h
 rw [Ex.may,if_neg h1,if_neg h2] at h
 split at h
 · cases h
 rename_i ho
 simp only [Bool.and_eq_true,decide_eq_true_eq] at h
 obtain ⟨⟨hl,rfl,rfl,rfl,rfl⟩,hm⟩ := h
 rw [Exs.may_iff] at hm
 by_cases h4 : o = 4 ∨ o = 5 ∨ o = 6 ∨ o = 7
 · unfold arity at hl
   rw [if_pos h4] at hl
   match as,hl with
   | [a],_ => exact .un o a (by omega) (by simpa using hm)
 · unfold arity at hl
   rw [if_neg h4] at hl
   match as,hl with
   | [a,b],_ =>
    simp only [List.all_cons,List.all_nil,Bool.and_true,Bool.and_eq_true] at hm
    exact .bin o a b (by omega) hm.1 hm.2
section
variable (a b : Ex) (o : Int)
theorem c_cst (v : Val) : (cst v).core = ((prV v).1,0) := rfl
theorem c_nam (t n : List UInt8) : Ex.core (.mk 2 Val.zero t n 0 []) = (if t = [] then n else t ++ (46 :: n),0) := rfl
theorem c_not : (un 5 a).core = ([110,111,116,32] ++ (a.txt 3).1,(a.txt 3).2 + 1) := rfl
theorem c_neg : (un 4 a).core = (45 :: ((if a.o = 4 then [32] else []) ++ (a.txt 7).1),(a.txt 7).2 + 1) := rfl
theorem c_nul : (un 6 a).core = ((a.txt 5).1 ++ [32,105,115,32,110,117,108,108],(a.txt 5).2) := rfl
theorem c_nnul : (un 7 a).core = ((a.txt 5).1 ++ [32,105,115,32,110,111,116,32,110,117,108,108],(a.txt 5).2) := rfl
theorem c_bin (h : 8 ≤ o) : (bin o a b).core = ((a.txt (if lvl o = 4 then 5 else lvl o)).1 ++ ((32 :: (kF o ++ [32])) ++ (b.txt (lvl o + 1)).1),max (a.txt (if lvl o = 4 then 5 else lvl o)).2 (b.txt (lvl o + 1)).2) := by
 show coreT o _ _ _ _ = _
 unfold coreT
 rw [if_neg (by omega),if_neg (by omega),if_neg (by omega),if_neg (by omega),if_neg (by omega),if_neg (by omega)]; rfl
end
theorem size_un (o : Int) (a : Ex) : a.size < (un o a).size := by simp [un,Ex.size,Exs.size]; omega
theorem size_bin (o : Int) (a b : Ex) : a.size < (bin o a b).size ∧ b.size < (bin o a b).size := by simp [bin,Ex.size,Exs.size]; omega
theorem o5 (o : Int) : 1 ≤ lvl o ∧ lvl o ≤ 8 := by unfold lvl; repeat' split <;> omega
end Go.WK
namespace Go.WK
open Go.RowKit
theorem Exs.ok_at : ∀ {l : List Ex} {i : Nat},Exs.ok l → i < l.length → (l.getD i Ex.zero).ok
 | [],_,_,h => by simp at h
 | a :: l,0,h,_ => h.1
 | a :: l,i + 1,h,hi => by
  have := Exs.ok_at (l := l) (i := i) h.2 (by simpa using hi)
  simpa using this
theorem Exs.size_at : ∀ {l : List Ex} {i : Nat},i < l.length → (l.getD i Ex.zero).size ≤ Exs.size l
 | [],_,h => by simp at h
 | a :: l,0,_ => by simp [Exs.size]
 | a :: l,i + 1,hi => by
  have := Exs.size_at (l := l) (i := i) (by simpa using hi)
  simp only [Exs.size,List.getD_cons_succ]; omega
theorem Exs.len_size : ∀ l : List Ex,l.length ≤ Exs.size l
 | [] => Nat.le_refl _
 | a :: l => by
  have := Exs.len_size l
  have h : 1 ≤ a.size := by cases a; simp only [Ex.size]; omega
  simp only [Exs.size,List.length_cons]; omega
theorem Ex.ok_at {o c : Int} {v : Val} {t n : List UInt8} {l : List Ex} {i : Nat} (h : Ex.ok (.mk o v t n c l)) (hi : i < l.length) : (l.getD i Ex.zero).ok := Exs.ok_at h.2.2.2 hi
theorem Ex.size_at {o c : Int} {v : Val} {t n : List UInt8} {l : List Ex} {i : Nat} (hi : i < l.length) : (l.getD i Ex.zero).size < Ex.size (.mk o v t n c l) := by
 have := Exs.size_at hi
 simp only [Ex.size]; omega
theorem ob {o c : Int} {v : Val} {t n : List UInt8} {l : List Ex} (h : Ex.may (.mk o v t n c l) = true) :
  (1 ≤ o ∧ o ≤ 21 ∧ o ≠ 3) ∧ (o = 1 → WK.may v = true) ∧ (4 ≤ o → o ≤ 7 → l.length = 1) ∧ (8 ≤ o → l.length = 2) ∧ ∀ i,i < l.length → (l.getD i Ex.zero).may = true := by
 generalize he : Ex.mk o v t n c l = e at h
 have hv := view h
 cases hv with
 | cst v' hv h0 =>
  cases he
  exact ⟨by omega,fun _ => hv,fun h => by omega,fun h => by omega,fun i hi => by simp at hi⟩
 | nam t' n' hn ht =>
  cases he
  exact ⟨by omega,fun h => by omega,fun h => by omega,fun h => by omega,fun i hi => by simp at hi⟩
 | un o' a ho ha =>
  cases he
  exact ⟨by omega,fun h => by omega,fun _ _ => rfl,fun h => by omega,fun i hi => by
   obtain rfl : i = 0 := by simpa using hi
   exact ha⟩
 | bin o' a b ho ha hb =>
  cases he
  exact ⟨by omega,fun h => by omega,fun _ h => by omega,fun h => rfl,fun i hi => by
   have hi : i < 2 := hi
   rcases (by omega : i = 0 ∨ i = 1) with rfl | rfl
   · exact ha
   · exact hb⟩
theorem deep_le : ∀ (m : Nat) (e : Ex),e.size < m → e.may = true → ∀ low : Int,(e.txt low).2 ≤ (e.txt low).1.length := by
 intro m
 induction m with
 | zero => intro e h; omega
 | succ m ih =>
  intro e hs hm low
  have core : e.core.2 ≤ e.core.1.length := by
   have hv := view hm
   cases hv with
   | cst v hv h0 => rw [c_cst]; exact Nat.zero_le _
   | nam t n hn ht => rw [c_nam]; exact Nat.zero_le _
   | un o a ho ha =>
    have hsz := size_un o a
    have ih := ih a (by omega) ha
    have hcs : o = 5 ∨ o = 4 ∨ o = 6 ∨ o = 7 := by omega
    rcases hcs with rfl | rfl | rfl | rfl
    · rw [c_not]; have := ih 3; simp only [List.length_append,List.length_cons,List.length_nil]; omega
    · rw [c_neg]; have := ih 7; simp only [List.length_append,List.length_cons]; omega
    · rw [c_nul]; have := ih 5; simp only [List.length_append,List.length_cons]; omega
    · rw [c_nnul]; have := ih 5; simp only [List.length_append,List.length_cons]; omega
   | bin o a b ho ha hb =>
    have hsz := size_bin o a b
    have iha := ih a (by omega) ha (if lvl o = 4 then 5 else lvl o)
    have ihb := ih b (by omega) hb (lvl o + 1)
    rw [c_bin a b o ho.1]
    simp only [List.length_append,List.length_cons]; omega
  by_cases hlow : lvl e.o < low
  · rw [qj hlow]; simp only [List.length_append,List.length_cons,List.length_nil]; omega
  · rw [gr hlow]; exact core
theorem bareX_eq (o : Int) (v : Val) (t n : List UInt8) (c : Int) (l : List Ex) (op : Int) : (((((decide (o = op) && decide (v = Val.zero)) && decide (t = [])) && decide (n = [])) && decide (c = 0)) && decide ((l.length : Int) = 0)) = bareX (.mk o v t n c l) op := by
 unfold bareX
 rw [Bool.eq_iff_iff]
 simp only [Bool.and_eq_true,decide_eq_true_eq,Ex.mk.injEq]
 constructor
 · rintro ⟨⟨⟨⟨⟨h1,h2⟩,h3⟩,h4⟩,h5⟩,h6⟩
   exact ⟨h1,h2,h3,h4,h5,List.length_eq_zero_iff.1 (by omega)⟩
 · rintro ⟨h1,h2,h3,h4,h5,h6⟩
   exact ⟨⟨⟨⟨⟨h1,h2⟩,h3⟩,h4⟩,h5⟩,by rw [h6]; rfl⟩
theorem may_1 (v : Val) (t n : List UInt8) (c : Int) (l : List Ex) : Ex.may (.mk 1 v t n c l) = ((bareX (.mk 1 Val.zero t n c l) 1 && WK.may v) && (decide (v.k ≠ 1) || decide (0 ≤ v.n))) := by
 rw [Ex.may,if_pos rfl,Bool.and_assoc,decide_not]
theorem may_2 (v : Val) (t n : List UInt8) (c : Int) (l : List Ex) : Ex.may (.mk 2 v t n c l) = ((nameOk n && (decide (t = []) || nameOk t)) && bareX (.mk 2 v [] [] c l) 2) := by
 rw [Ex.may,if_neg (by decide),if_pos rfl]
theorem may_no {o : Int} (v : Val) (t n : List UInt8) (c : Int) (l : List Ex) (h1 : o ≠ 1) (h2 : o ≠ 2) (h : o < 4 ∨ 21 < o) : Ex.may (.mk o v t n c l) = false := by
 rw [Ex.may,if_neg h1,if_neg h2,if_pos h]
theorem may_bad {o : Int} (v : Val) (t n : List UInt8) (c : Int) (l : List Ex) (h1 : o ≠ 1) (h2 : o ≠ 2) (h : ((((decide ((l.length : Int) ≠ (arity o : Int)) || !decide (v = Val.zero)) || decide (t ≠ [])) || decide (n ≠ [])) || decide (c ≠ 0)) = true) : Ex.may (.mk o v t n c l) = false := by
 cases hm : Ex.may (.mk o v t n c l) with
 | false => rfl
 | true =>
  exfalso
  rw [Ex.may,if_neg h1,if_neg h2] at hm
  split at hm
  · cases hm
  · simp only [Bool.and_eq_true,decide_eq_true_eq] at hm
    obtain ⟨⟨a1,a2,a3,a4,a5⟩,_⟩ := hm
    simp [a1,a2,a3,a4,a5] at h
theorem s8 {o : Int} (v : Val) (t n : List UInt8) (c : Int) (l : List Ex) (h1 : o ≠ 1) (h2 : o ≠ 2) (ho : 4 ≤ o ∧ o ≤ 21) (h : ((((decide ((l.length : Int) ≠ (arity o : Int)) || !decide (v = Val.zero)) || decide (t ≠ [])) || decide (n ≠ [])) || decide (c ≠ 0)) = false) : Ex.may (.mk o v t n c l) = l.all Ex.may := by
 simp only [Bool.or_eq_false_iff,Bool.not_eq_false',decide_eq_true_eq,decide_eq_false_iff_not,Decidable.not_not] at h
 obtain ⟨⟨⟨⟨a1,a2⟩,a3⟩,a4⟩,a5⟩ := h
 rw [Ex.may,if_neg h1,if_neg h2,if_neg (by omega),decide_eq_true ⟨by omega,a2,a3,a4,a5⟩,Exs.may_iff,Bool.true_and]
theorem all_hit {l : List Ex} {i : Nat} (hi : i < l.length) (h : (l.getD i Ex.zero).may = false) : l.all Ex.may = false := by
 cases hh : l.all Ex.may with
 | false => rfl
 | true =>
  have := List.all_eq_true.1 hh (l.getD i Ex.zero) (by simp [List.getD,hi])
  rw [h] at this; cases this
theorem all_step {l : List Ex} {i : Nat} (hi : i < l.length) (h : (l.take i).all Ex.may = true) (h1 : (l.getD i Ex.zero).may = true) : (l.take (i + 1)).all Ex.may = true := by
 have e : l.take (i + 1) = l.take i ++ [l.getD i Ex.zero] := by rw [List.take_succ_eq_append_getElem hi]; simp [List.getD,hi]
 rw [e,List.all_append,h,Bool.true_and,List.all_cons,h1]; rfl
end Go.WK
namespace Go.WK
open Go.RowKit
structure SL where
 A : Option Addr
 k : Nat
def SL.nil : SL := ⟨none,0⟩
structure QLay where
 I : SL
 F : SL
 V : SL
 O : SL
structure Lay where
 C : SL
 N : SL
 R : SL
 S : SL
 W : SL
 q : QLay
def QLay.nil : QLay := ⟨.nil,.nil,.nil,.nil⟩
def Lay.nil : Lay := ⟨.nil,.nil,.nil,.nil,.nil,.nil⟩
abbrev bR (e : Ex) (y : SL) : List Value := [.int .i64 e.o,.int .i64 e.v.k,.int .i64 e.v.n,.string (B e.v.s),.string (B e.t),.string (B e.n),.int .i64 e.c,.slice y.A e.as.length y.k]
abbrev ey (q : QryX) (y : QLay) : List Value := [.bool q.di,.bool q.st,.slice y.I.A q.items.length y.I.k,.slice y.F.A q.from_.length y.F.k,
 .int .i64 q.wh.o,.int .i64 q.wh.v.k,.int .i64 q.wh.v.n,.string (B q.wh.v.s),.string (B q.wh.t),.string (B q.wh.n),.int .i64 q.wh.c,.slice y.V.A q.wh.as.length y.V.k,.slice y.O.A q.ord.length y.O.k,.bool q.li,.int .i64 q.lim]
abbrev bS (s : StmtX) (y : Lay) : List Value := [.int .i64 s.k,.string (B s.t),.string (B s.n),.slice y.C.A s.cols.length y.C.k,.slice y.N.A s.on.length y.N.k,.bool s.un,.slice y.R.A s.rows.length y.R.k,.slice y.S.A s.sets.length y.S.k,
 .int .i64 s.wh.o,.int .i64 s.wh.v.k,.int .i64 s.wh.v.n,.string (B s.wh.v.s),.string (B s.wh.t),.string (B s.wh.n),.int .i64 s.wh.c,.slice y.W.A s.wh.as.length y.W.k,
 .bool s.q.di,.bool s.q.st,.slice y.q.I.A s.q.items.length y.q.I.k,.slice y.q.F.A s.q.from_.length y.q.F.k,
 .int .i64 s.q.wh.o,.int .i64 s.q.wh.v.k,.int .i64 s.q.wh.v.n,.string (B s.q.wh.v.s),.string (B s.q.wh.t),.string (B s.q.wh.n),.int .i64 s.q.wh.c,.slice y.q.V.A s.q.wh.as.length y.q.V.k,.slice y.q.O.A s.q.ord.length y.q.O.k,.bool s.q.li,.int .i64 s.q.lim]
def SlR {α : Type} (K : Kd α) (bl : List Nat) (w : World) (l : List α) (y : SL) (xs : List Value) : Prop := l.length ≤ y.k ∧ Rd w y.A xs ∧ (∀ a,y.A = some a → xs ≠ [] → a.block ∈ bl) ∧ K.seq bl w l xs
theorem seq_nil {α : Type} {K : Kd α} {bl : List Nat} {w : World} {l : List α} {xs : List Value} (h : K.seq bl w l xs) (hx : xs ≠ []) : l ≠ [] := fun e => hx (by subst e; exact h)
theorem sl_R {α : Type} {K : Kd α} {bl : List Nat} {w : World} {l : List α} {v : Value} (h : K.sl bl w l v) : ∃ y xs,v = .slice y.A l.length y.k ∧ SlR K bl w l y xs := by
 obtain ⟨A,k,xs,h1,h2,h3,h4,h5⟩ := h
 exact ⟨⟨A,k⟩,xs,h1,h2,h3,fun a ha hx => h4 a ha (seq_nil h5 hx),h5⟩
theorem SlR.stab {α : Type} {K : Kd α} {bl : List Nat} {w w1 : World} {l : List α} {y : SL} {xs : List Value} (h : SlR K bl w l y xs) (hs : ∀ k ∈ bl,w1.heap[k]? = w.heap[k]?) : SlR K bl w1 l y xs :=
 ⟨h.1,h.2.1.same (fun a ha hne => hs _ (h.2.2.1 a ha hne)),h.2.2.1,K.seq_stab hs h.2.2.2⟩
theorem SlR.mono {α : Type} {K : Kd α} {bl bl' : List Nat} {w : World} {l : List α} {y : SL} {xs : List Value} (h : SlR K bl w l y xs) (hs : ∀ k ∈ bl,k ∈ bl') : SlR K bl' w l y xs :=
 ⟨h.1,h.2.1,fun a ha hx => hs _ (h.2.2.1 a ha hx),K.seq_mono hs h.2.2.2⟩
theorem SlR.rd {α : Type} {K : Kd α} {w : World} {L bl : List Nat} {l : List α} {y : SL} {xs : List Value} (h : SlR K bl w l y xs) (p : PE w L bl) (cx : Cx) (H : List Chunk) (e1 : cx.w0 = w) (e2 : cx.lent = L) : RdS cx H y.A xs := p.rd h.2.1 h.2.2.1 cx H e1 e2
theorem SlR.rd0 {α : Type} {K : Kd α} {w : World} {bl : List Nat} {l : List α} {y : SL} {xs : List Value} (h : SlR K bl w l y xs) (cx : Cx) (H : List Chunk) (e1 : cx.w0 = w) (e2 : cx.lent = []) : RdS cx H y.A xs := RdS.lent (by rw [e1]; exact h.2.1) (fun b hb => by rw [e2]; simp)
theorem SlR.len {α : Type} {K : Kd α} {bl : List Nat} {w : World} {l : List α} {y : SL} {xs : List Value} (h : SlR K bl w l y xs) : xs.length = l.length * K.z := K.seq_len h.2.2.2
theorem SlR.at {α : Type} {K : Kd α} {bl : List Nat} {w : World} {l : List α} {y : SL} {xs : List Value} (h : SlR K bl w l y xs) (zero : α) (i : Nat) (hi : i < l.length) : ∃ cs,(xs.drop (i * K.z)).take K.z = cs ∧ K.rel bl w (l.getD i zero) cs := K.seq_at zero i h.2.2.2 hi
theorem aR {xs cs : List Value} {a z j : Nat} {v : Value} (h : (xs.drop a).take z = cs) (hv : cs[j]? = some v) : xs[a + j]? = some v := by
 rw [← h,List.getElem?_take] at hv
 split at hv
 · rwa [List.getElem?_drop] at hv
 · cases hv
def ExR (bl : List Nat) (w : World) (e : Ex) (y : SL) : Prop := ExK bl w e (bR e y)
theorem ex_R {bl : List Nat} {w : World} {e : Ex} {cs : List Value} (h : ExK bl w e cs) : ∃ y,cs = bR e y ∧ ExR bl w e y := by
 have h' := h
 obtain ⟨o,v,t,n,c,as⟩ := e
 obtain ⟨A,k,xs,h1,_⟩ := h'
 exact ⟨⟨A,k⟩,h1,by unfold ExR; rw [← show _ = bR (.mk o v t n c as) ⟨A,k⟩ from h1]; exact h⟩
structure QR_ (bl : List Nat) (w : World) (q : QryX) (y : QLay) (xI xF xO : List Value) : Prop where
 I : SlR itemKd bl w q.items y.I xI
 F : SlR srcKd bl w q.from_ y.F xF
 V : ExR bl w q.wh y.V
 O : SlR ordKd bl w q.ord y.O xO
structure SR_ (bl : List Nat) (w : World) (s : StmtX) (y : Lay) (xC xN xR xS xI xF xO : List Value) : Prop where
 C : SlR colKd bl w s.cols y.C xC
 N : SlR nameKd bl w s.on y.N xN
 R : SlR rowKd bl w s.rows y.R xR
 S : SlR setKd bl w s.sets y.S xS
 W : ExR bl w s.wh y.W
 q : QR_ bl w s.q y.q xI xF xO
def QAt (bl : List Nat) (w : World) (q : QryX) (y : QLay) : Prop := ∃ xI xF xO,QR_ bl w q y xI xF xO
def SAt (bl : List Nat) (w : World) (s : StmtX) (y : Lay) : Prop := ∃ xC xN xR xS xI xF xO,SR_ bl w s y xC xN xR xS xI xF xO
theorem ExR.stab {bl : List Nat} {w w1 : World} {e : Ex} {y : SL} (h : ExR bl w e y) (hs : ∀ k ∈ bl,w1.heap[k]? = w.heap[k]?) : ExR bl w1 e y := ExK.stab hs _ _ h
theorem ExR.mono {bl bl' : List Nat} {w : World} {e : Ex} {y : SL} (h : ExR bl w e y) (hs : ∀ k ∈ bl,k ∈ bl') : ExR bl' w e y := ExK.mono hs _ _ h
theorem QAt.stab {bl : List Nat} {w w1 : World} {q : QryX} {y : QLay} (h : QAt bl w q y) (hs : ∀ k ∈ bl,w1.heap[k]? = w.heap[k]?) : QAt bl w1 q y := by
 obtain ⟨a,b,c,h⟩ := h
 exact ⟨a,b,c,h.I.stab hs,h.F.stab hs,h.V.stab hs,h.O.stab hs⟩
theorem QAt.mono {bl bl' : List Nat} {w : World} {q : QryX} {y : QLay} (h : QAt bl w q y) (hs : ∀ k ∈ bl,k ∈ bl') : QAt bl' w q y := by
 obtain ⟨a,b,c,h⟩ := h
 exact ⟨a,b,c,h.I.mono hs,h.F.mono hs,h.V.mono hs,h.O.mono hs⟩
theorem SAt.stab {bl : List Nat} {w w1 : World} {s : StmtX} {y : Lay} (h : SAt bl w s y) (hs : ∀ k ∈ bl,w1.heap[k]? = w.heap[k]?) : SAt bl w1 s y := by
 obtain ⟨a,b,c,d,e,f,g,h⟩ := h
 obtain ⟨e',f',g',hq⟩ := QAt.stab ⟨e,f,g,h.q⟩ hs
 exact ⟨a,b,c,d,e',f',g',h.C.stab hs,h.N.stab hs,h.R.stab hs,h.S.stab hs,h.W.stab hs,hq⟩
theorem SAt.mono {bl bl' : List Nat} {w : World} {s : StmtX} {y : Lay} (h : SAt bl w s y) (hs : ∀ k ∈ bl,k ∈ bl') : SAt bl' w s y := by
 obtain ⟨a,b,c,d,e,f,g,h⟩ := h
 obtain ⟨e',f',g',hq⟩ := QAt.mono ⟨e,f,g,h.q⟩ hs
 exact ⟨a,b,c,d,e',f',g',h.C.mono hs,h.N.mono hs,h.R.mono hs,h.S.mono hs,h.W.mono hs,hq⟩
theorem SAt.q {bl : List Nat} {w : World} {s : StmtX} {y : Lay} (h : SAt bl w s y) : QAt bl w s.q y.q := by
 obtain ⟨a,b,c,d,e,f,g,h⟩ := h
 exact ⟨e,f,g,h.q⟩
theorem st_at {bl : List Nat} {w : World} {s : StmtX} {cs : List Value} (h : StK bl w s cs) : ∃ y,cs = bS s y ∧ SAt bl w s y := by
 obtain ⟨vC,vN,vR,vS,vI,vF,vO,ec,fc,rfl,h2⟩ := h
 obtain ⟨yC,xC,rfl,rC⟩ := sl_R h2.cols
 obtain ⟨yN,xN,rfl,rN⟩ := sl_R h2.on
 obtain ⟨yR,xR,rfl,rR⟩ := sl_R h2.rows
 obtain ⟨yS,xS,rfl,rS⟩ := sl_R h2.sets
 obtain ⟨yW,rfl,rW⟩ := ex_R h2.wh
 obtain ⟨yI,xI,rfl,rI⟩ := sl_R h2.q.items
 obtain ⟨yF,xF,rfl,rF⟩ := sl_R h2.q.from_
 obtain ⟨yV,rfl,rV⟩ := ex_R h2.q.wh
 obtain ⟨yO,xO,rfl,rO⟩ := sl_R h2.q.ord
 exact ⟨⟨yC,yN,yR,yS,yW,⟨yI,yF,yV,yO⟩⟩,rfl,xC,xN,xR,xS,xI,xF,xO,rC,rN,rR,rS,rW,rI,rF,rV,rO⟩
structure QOk (q : QryX) : Prop where
 items : ∀ i,i < q.items.length → (q.items.getD i ItemX.zero).e.ok
 from_ : ∀ i,i < q.from_.length → (q.from_.getD i SrcX.zero).e.ok
 wh : q.wh.ok
 lim : inR q.lim = true
structure SOk (s : StmtX) : Prop where
 k : -9223372036854775808 ≤ s.k ∧ s.k ≤ 9223372036854775807
 cols : ∀ i,i < s.cols.length → -9223372036854775808 ≤ (s.cols.getD i ColX.zero).k ∧ (s.cols.getD i ColX.zero).k ≤ 9223372036854775807
 rows : ∀ i,i < s.rows.length → ∀ j,j < (s.rows.getD i []).length → ((s.rows.getD i []).getD j Ex.zero).ok
 sets : ∀ i,i < s.sets.length → (s.sets.getD i SetX.zero).e.ok
 wh : s.wh.ok
 q : QOk s.q
theorem iW {g : Nat → Bool} : ∀ {n i : Nat},cy g n = true → i < n → g i = true
 | 0,i,_,h => by omega
 | n + 1,i,h,hi => by
  simp only [cy,Bool.and_eq_true] at h
  rcases Nat.lt_or_ge i n with h1 | h1
  · exact iW h.1 h1
  · obtain rfl : i = n := by omega
    exact h.2
theorem lj {e : Ex} : gi e = true ↔ e = Ex.zero := by
 obtain ⟨o,v,t,n,c,as⟩ := e
 unfold gi bareX Ex.zero
 rw [decide_eq_true_eq]
theorem may_pos {e : Ex} (h : e.may = true) : e.o ≠ 0 := by
 obtain ⟨o,v,t,n,c,as⟩ := e
 have := (ob h).1
 show o ≠ 0
 omega
theorem mayb_may {e : Ex} (h : iB e = true) (ho : e.o ≠ 0) : e.may = true := by
 unfold iB at h
 simp only [Bool.or_eq_true] at h
 rcases h with h | h
 · exact absurd (by rw [lj.1 h]; rfl) ho
 · exact h
theorem uy {e : Ex} (h : iB e = true) (ho : e.o = 0) : e = Ex.zero := by
 unfold iB at h
 simp only [Bool.or_eq_true] at h
 rcases h with h | h
 · exact lj.1 h
 · exact absurd ho (may_pos h)
end Go.WK
namespace Go.WK
open Go.RowKit
section ops
variable {m : Bool} {cx : Cx} {fs : aV} {H : List Chunk} {Q : ck} {ops : Array Oper} {rest : List Oper} {g : Option (Nat × Bool)} {d : Nat} {ty : TypeId} {pos : String} {af : Array Edge}
theorem oc {x y : Operand} {t e n : Nat} {ki : IntKind} {i : Int} {cs : List Value} {v : Value} (ht : cx.P.underlying t = some (.array n e)) (he : cv cx.P e = some false) (hs : szB cx.P e = some 1) (hok : okS cx.n ops fs d g = true) (hx : ev fs x = some (.agg cs.toArray)) (hy : ev fs y = some (.int ki i))
  (h0 : 0 ≤ i) (h1 : i < n) (hl : cs.length = n) (hv : cs[i.toNat]? = some v) (k : TriX m cx ops ((d,v) :: fs) H rest Q) : TriX m cx ops fs H (⟨some d,.index t x y,ty,pos,af,g⟩ :: rest) Q :=
 bd _ hok (fun a w ha _ => by
  have hb : i.toNat + 1 ≤ cs.length := by omega
  obtain ⟨hi,hv2⟩ := List.getElem?_eq_some_iff.1 hv
  simp [execOp,ha.eval hx,ha.eval hy,Instr.index,asIntOf,run_underlying ht,cL hs,h0,h1,part,dv he,hv]) k
end ops
theorem rX {cx : Cx} {F : List Chunk} {w : World} {pb : Nat} {A : Option Addr} {c : Nat} {l : List UInt8} {d m : Int} (h : Sat cx (F ++ prD pb A c l d m) w) {ch : Chunk} (hc : ch ∈ F) {k : Nat} (hk : ch.fp k) : k ∉ prL pb A := fun hm => by
 obtain ⟨x,hx,hf⟩ := prD2 pb A c l d m k hm
 exact (List.pairwise_append.1 h.apart).2.2 ch hc x hx k hk hf
theorem PE.cons {w : World} {L bl : List Nat} {k : Nat} (h : PE w L bl) (h1 : k < w.heap.size) (h2 : k ∉ L) : PE w L (k :: bl) :=
 ⟨fun j hj => by rcases List.mem_cons.1 hj with rfl | hj; exact ⟨h1,h2⟩; exact h.lt j hj,h.g⟩
structure CEnv (w : World) (bl : List Nat) (bp pb bx : Nat) (cs : List Value) : Prop where
 p : Rd w (some ⟨bp,0,none⟩) [.pointer (some ⟨pb,0,none⟩)]
 x : Rd w (some ⟨bx,0,none⟩) cs
 bp : bp ∈ bl
 bx : bx ∈ bl
theorem CEnv.stab {w w1 : World} {bl : List Nat} {bp pb bx : Nat} {cs : List Value} (h : CEnv w bl bp pb bx cs) (hs : ∀ k ∈ bl,w1.heap[k]? = w.heap[k]?) : CEnv w1 bl bp pb bx cs :=
 ⟨h.p.same (fun a ha _ => by cases ha; exact hs _ h.bp),h.x.same (fun a ha _ => by cases ha; exact hs _ h.bx),h.bp,h.bx⟩
theorem CEnv.mono {w : World} {bl bl' : List Nat} {bp pb bx : Nat} {cs : List Value} (h : CEnv w bl bp pb bx cs) (hs : ∀ k ∈ bl,k ∈ bl') : CEnv w bl' bp pb bx cs := ⟨h.p,h.x,hs _ h.bp,hs _ h.bx⟩
theorem CEnv.rp {w : World} {L bl : List Nat} {bp pb bx : Nat} {cs : List Value} (h : CEnv w bl bp pb bx cs) (p : PE w L bl) (cx : Cx) (H : List Chunk) (e1 : cx.w0 = w) (e2 : cx.lent = L) : RdS cx H (some ⟨bp,0,none⟩) [.pointer (some ⟨pb,0,none⟩)] := p.rd h.p (fun a ha _ => by cases ha; exact h.bp) cx H e1 e2
theorem CEnv.rx {w : World} {L bl : List Nat} {bp pb bx : Nat} {cs : List Value} (h : CEnv w bl bp pb bx cs) (p : PE w L bl) (cx : Cx) (H : List Chunk) (e1 : cx.w0 = w) (e2 : cx.lent = L) : RdS cx H (some ⟨bx,0,none⟩) cs := p.rd h.x (fun a ha _ => by cases ha; exact h.bx) cx H e1 e2
theorem cenv {P : Program} {n : Nat} {w w1 : World} {L bl : List Nat} {F : List Chunk} {pb : Nat} {A : Option Addr} {c : Nat} {l : List UInt8} {d m : Int} (hV : PE w L bl) (h1 : Sat ⟨P,n,[],w,L⟩ (F ++ prD pb A c l d m) w1) {bp bx t1 t2 : Nat} {cs : List Value}
  {i j : Nat} (hp : Nth F i (box bp t1 [.pointer (some ⟨pb,0,none⟩)])) (hx : Nth F j (box bx t2 cs)) : PE w1 (prL pb A) (bp :: bx :: bl) ∧ CEnv w1 (bp :: bx :: bl) bp pb bx cs := by
 have hs : PSub w L w1 (prL pb A) := PSub.of h1 (fun x hx => List.mem_append_right _ hx)
 have np := rX h1 hp.mem (k := bp) rfl
 have nx := rX h1 hx.mem (k := bx) rfl
 have lp := h1.lt (List.mem_append_left _ hp.mem) (k := bp) rfl
 have lx := h1.lt (List.mem_append_left _ hx.mem) (k := bx) rfl
 have rd : ∀ {b t : Nat} {cs : List Value},box b t cs ∈ F → Rd w1 (some ⟨b,0,none⟩) cs := fun {b t cs} hm j u hj => by
  have hb : w1.heap[b]? = some (.cells cs.toArray t (0,0)) := h1.holds _ (List.mem_append_left _ hm)
  exact ⟨_,rfl,by rw [iG,Nat.zero_add,cell_of_row w1 b j cs.toArray t (0,0) hb]; simpa using hj⟩
 exact ⟨((hV.sub hs).cons lx nx).cons lp np,rd hp.mem,rd hx.mem,List.mem_cons_self,List.mem_cons_of_mem _ List.mem_cons_self⟩
theorem fX {xs p cs r : List Value} {a z : Nat} (h : (xs.drop a).take z = p ++ (cs ++ r)) : (xs.drop (a + p.length)).take cs.length = cs := by
 have h2 : ((xs.drop a).take z).drop p.length = cs ++ r := by rw [h,List.drop_left]
 rw [List.drop_take,List.drop_drop] at h2
 have h3 : (((xs.drop (a + p.length)).take (z - p.length))).take cs.length = cs := by rw [h2,List.take_left]
 rw [List.take_take] at h3
 have hl : cs.length ≤ z - p.length := by
  have := congrArg List.length h2
  simp only [List.length_take,List.length_append] at this
  omega
 rwa [Nat.min_eq_left hl] at h3
theorem mg {bl : List Nat} {w : World} {l : List ItemX} {y : SL} {xs : List Value} (h : SlR itemKd bl w l y xs) (i : Nat) (hi : i < l.length) : ∃ ye,(xs.drop (i * 9)).take 9 = bR (l.getD i ItemX.zero).e ye ++ [.string (B (l.getD i ItemX.zero).s)] ∧ ExR bl w (l.getD i ItemX.zero).e ye := by
 obtain ⟨cs,h1,ce,rfl,h3⟩ := h.at ItemX.zero i hi
 obtain ⟨ye,rfl,h4⟩ := ex_R h3
 exact ⟨ye,h1,h4⟩
theorem o6 {bl : List Nat} {w : World} {l : List SrcX} {y : SL} {xs : List Value} (h : SlR srcKd bl w l y xs) (i : Nat) (hi : i < l.length) : ∃ ye,(xs.drop (i * 10)).take 10 = [.string (B (l.getD i SrcX.zero).t),.string (B (l.getD i SrcX.zero).s)] ++ bR (l.getD i SrcX.zero).e ye ∧ ExR bl w (l.getD i SrcX.zero).e ye := by
 obtain ⟨cs,h1,ce,rfl,h3⟩ := h.at SrcX.zero i hi
 obtain ⟨ye,rfl,h4⟩ := ex_R h3
 exact ⟨ye,h1,h4⟩
theorem o7 {bl : List Nat} {w : World} {l : List SetX} {y : SL} {xs : List Value} (h : SlR setKd bl w l y xs) (i : Nat) (hi : i < l.length) : ∃ ye,(xs.drop (i * 9)).take 9 = [.string (B (l.getD i SetX.zero).n)] ++ bR (l.getD i SetX.zero).e ye ∧ ExR bl w (l.getD i SetX.zero).e ye := by
 obtain ⟨cs,h1,ce,rfl,h3⟩ := h.at SetX.zero i hi
 obtain ⟨ye,rfl,h4⟩ := ex_R h3
 exact ⟨ye,h1,h4⟩
theorem o8 {bl : List Nat} {w : World} {l : List ColX} {y : SL} {xs : List Value} (h : SlR colKd bl w l y xs) (i : Nat) (hi : i < l.length) : (xs.drop (i * 3)).take 3 = [.string (B (l.getD i ColX.zero).n),.int .i64 (l.getD i ColX.zero).k,.bool (l.getD i ColX.zero).b] := by
 obtain ⟨cs,h1,rfl⟩ := h.at ColX.zero i hi
 exact h1
theorem o9 {bl : List Nat} {w : World} {l : List OrdX} {y : SL} {xs : List Value} (h : SlR ordKd bl w l y xs) (i : Nat) (hi : i < l.length) : (xs.drop (i * 2)).take 2 = [.string (B (l.getD i OrdX.zero).n),.bool (l.getD i OrdX.zero).b] := by
 obtain ⟨cs,h1,rfl⟩ := h.at OrdX.zero i hi
 exact h1
theorem mh {bl : List Nat} {w : World} {l : List (List UInt8)} {y : SL} {xs : List Value} (h : SlR nameKd bl w l y xs) (i : Nat) (hi : i < l.length) : (xs.drop (i * 1)).take 1 = [.string (B (l.getD i []))] := by
 obtain ⟨cs,h1,rfl⟩ := h.at ([] : List UInt8) i hi
 exact h1
theorem kN {bl : List Nat} {w : World} {l : List (List Ex)} {y : SL} {xs : List Value} (h : SlR rowKd bl w l y xs) (i : Nat) (hi : i < l.length) : ∃ yr xr,(xs.drop (i * 1)).take 1 = [.slice yr.A (l.getD i []).length yr.k] ∧ SlR dI bl w (l.getD i []) yr xr := by
 obtain ⟨cs,h1,v,rfl,h3⟩ := h.at ([] : List Ex) i hi
 obtain ⟨yr,xr,rfl,h4⟩ := sl_R h3
 exact ⟨yr,xr,h1,h4⟩
theorem ex_at {bl : List Nat} {w : World} {l : List Ex} {y : SL} {xs : List Value} (h : SlR dI bl w l y xs) (i : Nat) (hi : i < l.length) : ∃ ye,(xs.drop (i * 8)).take 8 = bR (l.getD i Ex.zero) ye ∧ ExR bl w (l.getD i Ex.zero) ye := by
 obtain ⟨cs,h1,h3⟩ := h.at Ex.zero i hi
 obtain ⟨ye,rfl,h4⟩ := ex_R h3
 exact ⟨ye,h1,h4⟩
end Go.WK
namespace Go.WK
open Go.RowKit
theorem benv {P : Program} {n : Nat} {w w1 : World} {L : List Nat} {F : List Chunk} {pb : Nat} {A : Option Addr} {c : Nat} {l : List UInt8} {d m : Int} (h1 : Sat ⟨P,n,[],w,L⟩ (F ++ prD pb A c l d m) w1) {b t : Nat} {cs : List Value} {i : Nat} (hb : Nth F i (box b t cs)) :
  Rd w1 (some ⟨b,0,none⟩) cs ∧ b < w1.heap.size ∧ b ∉ prL pb A := by
 refine ⟨fun j u hj => ?_,h1.lt (List.mem_append_left _ hb.mem) (k := b) rfl,rX h1 hb.mem (k := b) rfl⟩
 have hh : w1.heap[b]? = some (.cells cs.toArray t (0,0)) := h1.holds _ (List.mem_append_left _ hb.mem)
 exact ⟨_,rfl,by rw [iG,Nat.zero_add,cell_of_row w1 b j cs.toArray t (0,0) hh]; simpa using hj⟩
theorem kd_get {k : Int} (h : 1 ≤ k ∧ k ≤ 3) : ([.string (B []),.string (B [32,105,110,116]),.string (B [32,116,101,120,116]),.string (B [32,98,111,111,108])] : List Value)[k.toNat]? = some (.string (B (kindT k))) := by
 rcases (by omega : k = 1 ∨ k = 2 ∨ k = 3) with rfl | rfl | rfl <;> rfl
theorem mayCol_k {a : ColX} (h : ib a = true) : 1 ≤ a.k ∧ a.k ≤ 3 := by
 unfold ib at h
 simp only [Bool.and_eq_true,decide_eq_true_eq] at h
 exact h.2
theorem maySet_1 {a : SetX} (h : ic a = true) : a.e.may = true := by
 unfold ic at h
 simp only [Bool.and_eq_true] at h
 exact h.2
theorem s9 {n k : Nat} (h : gL n k = true) : n ≤ k := by
 unfold gL at h
 simp only [Bool.and_eq_true,decide_eq_true_eq] at h
 exact h.2
theorem mayRow_p {l : List Ex} (h : f9 l = true) : l.length ≤ 16 ∧ ∀ k,k < l.length → (l.getD k Ex.zero).may = true := by
 unfold f9 at h
 simp only [Bool.and_eq_true] at h
 exact ⟨s9 h.1,fun k hk => iW h.2 hk⟩
section
variable {s : StmtX}
theorem st_1 (h : s.k = 1) : ew s = cat (raw ([99,114,101,97,116,101,32,116,97,98,108,101,32] ++ (s.t ++ [32,40]))) (cat (fg (fun i => mV (s.cols.getD i ColX.zero)) s.cols.length) (raw [41])) := by unfold ew; rw [if_pos h]
theorem st_2 (h : s.k = 2) : ew s = raw ([100,114,111,112,32,116,97,98,108,101,32] ++ s.t) := by unfold ew; rw [if_neg (by omega),if_pos h]
theorem st_3 (h : s.k = 3) : ew s = cat (raw ([99,114,101,97,116,101,32] ++ ((if s.un = true then [117,110,105,113,117,101,32] else []) ++ ([105,110,100,101,120,32] ++ (s.n ++ ([32,111,110,32] ++ (s.t ++ [32,40]))))))) (cat (fg (fun i => raw (s.on.getD i [])) s.on.length) (raw [41])) := by unfold ew; rw [if_neg (by omega),if_neg (by omega),if_pos h]
theorem st_4 (h : s.k = 4) : ew s = raw ([100,114,111,112,32,105,110,100,101,120,32] ++ s.n) := by unfold ew; rw [if_neg (by omega),if_neg (by omega),if_neg (by omega),if_pos h]
theorem st_5 (h : s.k = 5) : ew s = cat (raw ([105,110,115,101,114,116,32,105,110,116,111,32] ++ (s.t ++ [32,118,97,108,117,101,115,32]))) (fg (fun i => rowT (s.rows.getD i [])) s.rows.length) := by unfold ew; rw [if_neg (by omega),if_neg (by omega),if_neg (by omega),if_neg (by omega),if_pos h]
theorem st_6 (h : s.k = 6) : ew s = cat (raw ([100,101,108,101,116,101,32,102,114,111,109,32] ++ s.t)) (gM s.wh) := by unfold ew; rw [if_neg (by omega),if_neg (by omega),if_neg (by omega),if_neg (by omega),if_neg (by omega),if_pos h]
theorem st_7 (h : s.k = 7) : ew s = cat (raw ([117,112,100,97,116,101,32] ++ (s.t ++ [32,115,101,116,32]))) (cat (fg (fun i => setT (s.sets.getD i SetX.zero)) s.sets.length) (gM s.wh)) := by unfold ew; rw [if_neg (by omega),if_neg (by omega),if_neg (by omega),if_neg (by omega),if_neg (by omega),if_neg (by omega),if_pos h]
theorem st_8 (h : s.k = 8) : ew s = qryT s.q := by unfold ew; rw [if_neg (by omega),if_neg (by omega),if_neg (by omega),if_neg (by omega),if_neg (by omega),if_neg (by omega),if_neg (by omega),if_pos h]
theorem st_9 (h : s.k = 9) : ew s = raw [98,101,103,105,110] := by unfold ew; rw [if_neg (by omega),if_neg (by omega),if_neg (by omega),if_neg (by omega),if_neg (by omega),if_neg (by omega),if_neg (by omega),if_neg (by omega),if_pos h]
theorem st_10 (h : s.k = 10) : ew s = raw [99,111,109,109,105,116] := by unfold ew; rw [if_neg (by omega),if_neg (by omega),if_neg (by omega),if_neg (by omega),if_neg (by omega),if_neg (by omega),if_neg (by omega),if_neg (by omega),if_neg (by omega),if_pos h]
theorem st_11 (h : s.k = 11) : ew s = raw [114,111,108,108,98,97,99,107] := by unfold ew; rw [if_neg (by omega),if_neg (by omega),if_neg (by omega),if_neg (by omega),if_neg (by omega),if_neg (by omega),if_neg (by omega),if_neg (by omega),if_neg (by omega),if_neg (by omega),if_pos h]
theorem part_1 (h : s.k = 1) : dX s = (nameOk s.t && (gL s.cols.length 16 && cy (fun i => ib (s.cols.getD i ColX.zero)) s.cols.length)) := by unfold dX; rw [if_pos h]
theorem part_2 (h : s.k = 2) : dX s = nameOk s.t := by unfold dX; rw [if_neg (by omega),if_pos h]
theorem part_3 (h : s.k = 3) : dX s = (nameOk s.t && (nameOk s.n && (gL s.on.length 16 && cy (fun i => nameOk (s.on.getD i [])) s.on.length))) := by unfold dX; rw [if_neg (by omega),if_neg (by omega),if_pos h]
theorem part_4 (h : s.k = 4) : dX s = nameOk s.n := by unfold dX; rw [if_neg (by omega),if_neg (by omega),if_neg (by omega),if_pos h]
theorem part_5 (h : s.k = 5) : dX s = (nameOk s.t && (decide (0 < s.rows.length) && cy (fun i => f9 (s.rows.getD i [])) s.rows.length)) := by unfold dX; rw [if_neg (by omega),if_neg (by omega),if_neg (by omega),if_neg (by omega),if_pos h]
theorem rY (h : s.k = 6) : dX s = (nameOk s.t && iB s.wh) := by unfold dX; rw [if_neg (by omega),if_neg (by omega),if_neg (by omega),if_neg (by omega),if_neg (by omega),if_pos h]
theorem rZ (h : s.k = 7) : dX s = (nameOk s.t && (gL s.sets.length 16 && (iB s.wh && cy (fun i => ic (s.sets.getD i SetX.zero)) s.sets.length))) := by unfold dX; rw [if_neg (by omega),if_neg (by omega),if_neg (by omega),if_neg (by omega),if_neg (by omega),if_neg (by omega),if_pos h]
theorem r3 (h : s.k = 8) : dX s = mayQ s.q := by unfold dX; rw [if_neg (by omega),if_neg (by omega),if_neg (by omega),if_neg (by omega),if_neg (by omega),if_neg (by omega),if_neg (by omega),if_pos h]
theorem pa (h : ¬ (1 ≤ s.k ∧ s.k ≤ 8)) : dX s = decide (9 ≤ s.k ∧ s.k ≤ 11) := by unfold dX; rw [if_neg (by omega),if_neg (by omega),if_neg (by omega),if_neg (by omega),if_neg (by omega),if_neg (by omega),if_neg (by omega),if_neg (by omega)]
end
end Go.WK
namespace Go.WK
open Go.RowKit
abbrev BIG_ : Nat := 70368744177664
structure QBd (q : QryX) : Prop where
 ni : q.items.length ≤ BIG_
 nf : q.from_.length ≤ BIG_
 no : q.ord.length ≤ BIG_
 items : ∀ i,i < q.items.length → (q.items.getD i ItemX.zero).e.size ≤ BIG_ ∧ (q.items.getD i ItemX.zero).s.length ≤ BIG_
 from_ : ∀ i,i < q.from_.length → (q.from_.getD i SrcX.zero).e.size ≤ BIG_ ∧ (q.from_.getD i SrcX.zero).t.length ≤ BIG_ ∧ (q.from_.getD i SrcX.zero).s.length ≤ BIG_
 ord : ∀ i,i < q.ord.length → (q.ord.getD i OrdX.zero).n.length ≤ BIG_
 wh : q.wh.size ≤ BIG_
structure SBd (s : StmtX) : Prop where
 t : s.t.length ≤ BIG_
 n : s.n.length ≤ BIG_
 nc : s.cols.length ≤ BIG_
 nn : s.on.length ≤ BIG_
 nr : s.rows.length ≤ BIG_
 ns : s.sets.length ≤ BIG_
 cols : ∀ i,i < s.cols.length → (s.cols.getD i ColX.zero).n.length ≤ BIG_
 on : ∀ i,i < s.on.length → (s.on.getD i []).length ≤ BIG_
 rows : ∀ i,i < s.rows.length → (s.rows.getD i []).length ≤ BIG_ ∧ ∀ j,j < (s.rows.getD i []).length → ((s.rows.getD i []).getD j Ex.zero).size ≤ BIG_
 sets : ∀ i,i < s.sets.length → (s.sets.getD i SetX.zero).e.size ≤ BIG_ ∧ (s.sets.getD i SetX.zero).n.length ≤ BIG_
 wh : s.wh.size ≤ BIG_
 q : QBd s.q
def mqA (q : QryX) : Bool := (((iB q.wh && decide ((q.from_.length : Int) ≤ 4)) && decide ((q.ord.length : Int) ≤ 16)) && decide (0 ≤ q.lim)) && (q.li || decide (q.lim = 0))
def mqB (q : QryX) : Bool := if q.st = true then decide ((q.items.length : Int) = 0) else gL q.items.length 16
theorem mayQ_eq (q : QryX) : ((((mqA q && mqB q) && cy (fun i => kL (q.items.getD i ItemX.zero)) q.items.length) && cy (fun i => mT i (q.from_.getD i SrcX.zero)) q.from_.length) && cy (fun i => nameOk (q.ord.getD i OrdX.zero).n) q.ord.length) = mayQ q := by
 unfold mayQ mqA mqB
 have e1 : decide ((q.from_.length : Int) ≤ 4) = decide (q.from_.length ≤ 4) := decide_eq_decide.2 (by omega)
 have e2 : decide ((q.ord.length : Int) ≤ 16) = decide (q.ord.length ≤ 16) := decide_eq_decide.2 (by omega)
 have e3 : decide ((q.items.length : Int) = 0) = decide (q.items.length = 0) := decide_eq_decide.2 (by omega)
 rw [e1,e2,e3]
 simp only [Bool.and_assoc]
theorem uz (b : Bool) (g : Nat → ItemX) (i : Nat) : (((b && cy (fun i => kL (g i)) i) && (g i).e.may) && (decide ((g i).s = []) || nameOk (g i).s)) = (b && cy (fun i => kL (g i)) (i + 1)) := by
 simp only [cy,kL,Bool.and_assoc]
theorem uA (b : Bool) (g : Nat → SrcX) (i : Nat) : ((((b && cy (fun i => mT i (g i)) i) && nameOk (g i).t) && (decide ((g i).s = []) || nameOk (g i).s)) && ((decide ((i : Int) = 0) && gi (g i).e) || (decide (0 < (i : Int)) && (g i).e.may))) = (b && cy (fun i => mT i (g i)) (i + 1)) := by
 simp only [cy,mT,Bool.and_assoc]
 by_cases h : i = 0
 · subst h
   rw [if_pos rfl,decide_eq_true (show ((0 : Nat) : Int) = 0 by rfl),decide_eq_false (show ¬ 0 < ((0 : Nat) : Int) by decide)]; simp
 · rw [if_neg h,decide_eq_false (show ¬ (i : Int) = 0 by omega),decide_eq_true (show 0 < (i : Int) by omega)]; simp
theorem od (b : Bool) (g : Nat → List UInt8) (i : Nat) : ((b && cy (fun i => nameOk (g i)) i) && nameOk (g i)) = (b && cy (fun i => nameOk (g i)) (i + 1)) := by
 simp only [cy,Bool.and_assoc]
theorem col_step (b : Bool) (g : Nat → ColX) (i : Nat) : ((((b && cy (fun i => ib (g i)) i) && nameOk (g i).n) && decide (1 ≤ (g i).k)) && decide ((g i).k ≤ 3)) = (b && cy (fun i => ib (g i)) (i + 1)) := by
 simp only [cy,ib,Bool.and_assoc]
theorem set_step (b : Bool) (g : Nat → SetX) (i : Nat) : (((b && cy (fun i => ic (g i)) i) && nameOk (g i).n) && (g i).e.may) = (b && cy (fun i => ic (g i)) (i + 1)) := by
 simp only [cy,ic,Bool.and_assoc]
theorem ex_step (b : Bool) (g : Nat → Ex) (i : Nat) : ((b && cy (fun i => (g i).may) i) && (g i).may) = (b && cy (fun i => (g i).may) (i + 1)) := by
 simp only [cy,Bool.and_assoc]
theorem row_step (b : Bool) (g : Nat → List Ex) (i : Nat) : (((b && cy (fun i => f9 (g i)) i) && gL (g i).length 16) && cy (fun k => ((g i).getD k Ex.zero).may) (g i).length) = (b && cy (fun i => f9 (g i)) (i + 1)) := by
 simp only [cy,f9,Bool.and_assoc]
def restB (s t : StmtX) : Bool :=
 (((((((((((((((decide (s.t = t.t) && decide (s.n = t.n)) && decide ((s.cols.length : Int) = t.cols.length)) && decide ((s.on.length : Int) = t.on.length)) && (s.un == t.un)) && decide ((s.rows.length : Int) = t.rows.length)) && decide ((s.sets.length : Int) = t.sets.length)) && (decide (s.wh.o = t.wh.o) && (decide (t.wh.o ≠ 0) || gi s.wh))) && (s.q.di == t.q.di)) && (s.q.st == t.q.st)) && decide ((s.q.items.length : Int) = t.q.items.length)) && decide ((s.q.from_.length : Int) = t.q.from_.length)) && (decide (s.q.wh.o = t.q.wh.o) && (decide (t.q.wh.o ≠ 0) || gi s.q.wh))) && decide ((s.q.ord.length : Int) = t.q.ord.length)) && (s.q.li == t.q.li)) && decide (s.q.lim = t.q.lim))
theorem lackB (e : Ex) : gi e = decide (e = Ex.zero) := by
 rw [Bool.eq_iff_iff,lj,decide_eq_true_eq]
section
variable {s : StmtX}
theorem keep_1 (h : s.k = 1) : eH s = { StmtX.zero with k := 1,t := s.t,cols := s.cols } := by unfold eH; rw [if_pos h]
theorem keep_2 (h : s.k = 2) : eH s = { StmtX.zero with k := 2,t := s.t } := by unfold eH; rw [if_neg (by omega),if_pos h]
theorem keep_3 (h : s.k = 3) : eH s = { StmtX.zero with k := 3,t := s.t,n := s.n,on := s.on,un := s.un } := by unfold eH; rw [if_neg (by omega),if_neg (by omega),if_pos h]
theorem keep_4 (h : s.k = 4) : eH s = { StmtX.zero with k := 4,n := s.n } := by unfold eH; rw [if_neg (by omega),if_neg (by omega),if_neg (by omega),if_pos h]
theorem keep_5 (h : s.k = 5) : eH s = { StmtX.zero with k := 5,t := s.t,rows := s.rows } := by unfold eH; rw [if_neg (by omega),if_neg (by omega),if_neg (by omega),if_neg (by omega),if_pos h]
theorem keep_6 (h : s.k = 6) : eH s = { StmtX.zero with k := 6,t := s.t,wh := s.wh } := by unfold eH; rw [if_neg (by omega),if_neg (by omega),if_neg (by omega),if_neg (by omega),if_neg (by omega),if_pos h]
theorem keep_7 (h : s.k = 7) : eH s = { StmtX.zero with k := 7,t := s.t,sets := s.sets,wh := s.wh } := by unfold eH; rw [if_neg (by omega),if_neg (by omega),if_neg (by omega),if_neg (by omega),if_neg (by omega),if_neg (by omega),if_pos h]
theorem keep_8 (h : s.k = 8) : eH s = { StmtX.zero with k := 8,q := s.q } := by unfold eH; rw [if_neg (by omega),if_neg (by omega),if_neg (by omega),if_neg (by omega),if_neg (by omega),if_neg (by omega),if_neg (by omega),if_pos h]
theorem r4 (h : ¬ (1 ≤ s.k ∧ s.k ≤ 8)) : eH s = { StmtX.zero with k := s.k } := by unfold eH; rw [if_neg (by omega),if_neg (by omega),if_neg (by omega),if_neg (by omega),if_neg (by omega),if_neg (by omega),if_neg (by omega),if_neg (by omega)]
end
theorem len0 {α : Type} (l : List α) : ((l.length : Int) = (([] : List α).length : Int)) ↔ l = [] := by
 rw [← List.length_eq_zero_iff]; simp
theorem ta (e : Ex) : (decide (e.o = Ex.zero.o) && (decide (Ex.zero.o ≠ 0) || gi e)) = true ↔ e = Ex.zero := by
 have h0 : Ex.zero.o = 0 := rfl
 rw [h0,lackB]
 simp only [ne_eq,not_true_eq_false,decide_false,Bool.false_or,Bool.and_eq_true,decide_eq_true_eq]
 exact ⟨fun h => h.2,fun h => ⟨by rw [h]; rfl,h⟩⟩
theorem tb {e : Ex} (h : iB e = true) : (decide (e.o = e.o) && (decide (e.o ≠ 0) || gi e)) = true := by
 rw [decide_eq_true rfl,Bool.true_and]
 by_cases h0 : e.o = 0
 · rw [uy h h0]; rfl
 · rw [decide_eq_true h0]; rfl
theorem mayQ_wh {q : QryX} (h : mayQ q = true) : iB q.wh = true := by
 unfold mayQ at h
 simp only [Bool.and_eq_true] at h
 exact h.1.1
theorem fh {s t : StmtX} (hk : s.k = t.k) (hc : s.cols = t.cols ∨ t.cols = []) (hn : s.on = t.on ∨ t.on = []) (hr : s.rows = t.rows ∨ t.rows = []) (hs : s.sets = t.sets ∨ t.sets = []) (hw : (t.wh = s.wh ∧ iB s.wh = true) ∨ t.wh = Ex.zero)
  (hq : (t.q = s.q ∧ iB s.q.wh = true) ∨ t.q = QryX.zero) : restB s t = decide (s = t) := by
 have L : ∀ {α : Type} (a b : List α),(a = b ∨ b = []) → (((a.length : Int) = (b.length : Int)) ↔ a = b) := fun a b h => by
  rcases h with h | h
  · subst h; simp
  · subst h; exact len0 a
 have hW : (decide (s.wh.o = t.wh.o) && (decide (t.wh.o ≠ 0) || gi s.wh)) = true ↔ s.wh = t.wh := by
  rcases hw with ⟨h1,h2⟩ | h1
  · rw [h1]; exact iff_of_true (tb h2) rfl
  · rw [h1]; exact ta _
 have hV : (decide (s.q.wh.o = t.q.wh.o) && (decide (t.q.wh.o ≠ 0) || gi s.q.wh)) = true ↔ s.q.wh = t.q.wh := by
  rcases hq with ⟨h1,h2⟩ | h1
  · rw [h1]; exact iff_of_true (tb h2) rfl
  · rw [h1]; exact ta _
 have hI : s.q.items = t.q.items ∨ t.q.items = [] := by
  rcases hq with ⟨h1,_⟩ | h1
  · exact .inl (by rw [h1])
  · exact .inr (by rw [h1]; rfl)
 have hF : s.q.from_ = t.q.from_ ∨ t.q.from_ = [] := by
  rcases hq with ⟨h1,_⟩ | h1
  · exact .inl (by rw [h1])
  · exact .inr (by rw [h1]; rfl)
 have hO : s.q.ord = t.q.ord ∨ t.q.ord = [] := by
  rcases hq with ⟨h1,_⟩ | h1
  · exact .inl (by rw [h1])
  · exact .inr (by rw [h1]; rfl)
 rw [Bool.eq_iff_iff,decide_eq_true_eq]
 unfold restB
 obtain ⟨bW,hbW⟩ : ∃ b,b = (decide (s.wh.o = t.wh.o) && (decide (t.wh.o ≠ 0) || gi s.wh)) := ⟨_,rfl⟩
 obtain ⟨bV,hbV⟩ : ∃ b,b = (decide (s.q.wh.o = t.q.wh.o) && (decide (t.q.wh.o ≠ 0) || gi s.q.wh)) := ⟨_,rfl⟩
 rw [← hbW] at hW ⊢
 rw [← hbV] at hV ⊢
 simp only [Bool.and_eq_true,decide_eq_true_eq,beq_iff_eq,hW,hV,L _ _ hc,L _ _ hn,L _ _ hr,L _ _ hs,L _ _ hI,L _ _ hF,L _ _ hO]
 obtain ⟨k1,t1,n1,c1,o1,u1,r1,s1,w1,⟨d1,st1,i1,f1,v1,or1,l1,m1⟩⟩ := s
 obtain ⟨k2,t2,n2,c2,o2,u2,r2,s2,w2,⟨d2,st2,i2,f2,v2,or2,l2,m2⟩⟩ := t
 simp only at hk
 simp only [StmtX.mk.injEq,QryX.mk.injEq]
 constructor
 · rintro ⟨⟨⟨⟨⟨⟨⟨⟨⟨⟨⟨⟨⟨⟨⟨a1,a2⟩,a3⟩,a4⟩,a5⟩,a6⟩,a7⟩,a8⟩,a9⟩,b1⟩,b2⟩,b3⟩,b4⟩,b5⟩,b6⟩,b7⟩
   exact ⟨hk,a1,a2,a3,a4,a5,a6,a7,a8,a9,b1,b2,b3,b4,b5,b6,b7⟩
 · rintro ⟨_,a1,a2,a3,a4,a5,a6,a7,a8,a9,b1,b2,b3,b4,b5,b6,b7⟩
   exact ⟨⟨⟨⟨⟨⟨⟨⟨⟨⟨⟨⟨⟨⟨⟨a1,a2⟩,a3⟩,a4⟩,a5⟩,a6⟩,a7⟩,a8⟩,a9⟩,b1⟩,b2⟩,b3⟩,b4⟩,b5⟩,b6⟩,b7⟩
theorem rest_may (s : StmtX) : (dX s && restB s (eH s)) = mU s := by
 unfold mU
 cases hp : dX s with
 | false => rfl
 | true =>
  rw [Bool.true_and,Bool.true_and]
  have hcs : s.k = 1 ∨ s.k = 2 ∨ s.k = 3 ∨ s.k = 4 ∨ s.k = 5 ∨ s.k = 6 ∨ s.k = 7 ∨ s.k = 8 ∨ ¬ (1 ≤ s.k ∧ s.k ≤ 8) := by omega
  rcases hcs with h | h | h | h | h | h | h | h | h
  · rw [keep_1 h]; exact fh h (.inl rfl) (.inr rfl) (.inr rfl) (.inr rfl) (.inr rfl) (.inr rfl)
  · rw [keep_2 h]; exact fh h (.inr rfl) (.inr rfl) (.inr rfl) (.inr rfl) (.inr rfl) (.inr rfl)
  · rw [keep_3 h]; exact fh h (.inr rfl) (.inl rfl) (.inr rfl) (.inr rfl) (.inr rfl) (.inr rfl)
  · rw [keep_4 h]; exact fh h (.inr rfl) (.inr rfl) (.inr rfl) (.inr rfl) (.inr rfl) (.inr rfl)
  · rw [keep_5 h]; exact fh h (.inr rfl) (.inr rfl) (.inl rfl) (.inr rfl) (.inr rfl) (.inr rfl)
  · rw [rY h,Bool.and_eq_true] at hp
    rw [keep_6 h]; exact fh h (.inr rfl) (.inr rfl) (.inr rfl) (.inr rfl) (.inl ⟨rfl,hp.2⟩) (.inr rfl)
  · rw [rZ h] at hp
    simp only [Bool.and_eq_true] at hp
    rw [keep_7 h]; exact fh h (.inr rfl) (.inr rfl) (.inr rfl) (.inl rfl) (.inl ⟨rfl,hp.2.2.1⟩) (.inr rfl)
  · rw [r3 h] at hp
    rw [keep_8 h]; exact fh h (.inr rfl) (.inr rfl) (.inr rfl) (.inr rfl) (.inr rfl) (.inl ⟨rfl,mayQ_wh hp⟩)
  · rw [r4 h]; exact fh rfl (.inr rfl) (.inr rfl) (.inr rfl) (.inr rfl) (.inr rfl) (.inr rfl)
end Go.WK
namespace Go.WK
open Go.RowKit
inductive OT
 | nil
 | fix (i : Nat) (t : OT)
 | op (i : Nat) (t : OT)
 | two (i j : Nat) (s t : OT)
def OT.len : OT → Nat
 | .nil => 0
 | .fix _ t => t.len + 1
 | .op _ t => t.len + 1
 | .two _ _ s _ => s.len + 1
def eI (md : Region.Mode) (ops : Array Oper) : OT → Array Bool → Bool
 | .nil,listed => (Region.ready md ops listed).isEmpty
 | .fix i t,listed => (Region.ready md ops listed).contains i && (Region.free md ops listed i && eI md ops t (listed.setIfInBounds i true))
 | .op i t,listed => Region.ready md ops listed == [i] && eI md ops t (listed.setIfInBounds i true)
 | .two i j s t,listed => Region.ready md ops listed == [i,j] && (s.len == t.len && (eI md ops s (listed.setIfInBounds i true) && eI md ops t (listed.setIfInBounds j true)))
def mixBT (md : Region.Mode) (ops : Array Oper) (t : OT) : Bool := Region.noSelect ops && ((t.len == ops.size) && eI md ops t (Array.replicate ops.size false))
def ef (P : Program) (ops : Array Oper) (C : World → Prop) (Q : Act → World → Prop) : OT → Act → World → Prop
 | .nil,a,w => Q a w
 | .fix i t,a,w => ∃ o v,ops[i]? = some o ∧ YieldsF P ops C o v a ∧ ∀ w',Chg [] w w' → ef P ops C Q t (a.put o.dst v) w'
 | .op i t,a,w => wpOp P ops ia i (fun a' w' => C w' ∧ ∀ w'',Chg [] w' w'' → ef P ops C Q t a' w'') a w
 | .two i j s t,a,w => wpOp P ops ia i (fun a' w' => C w' ∧ ∀ w'',Chg [] w' w'' → ef P ops C Q s a' w'') a w ∧ wpOp P ops ia j (fun a' w' => C w' ∧ ∀ w'',Chg [] w' w'' → ef P ops C Q t a' w'') a w
section
variable {P : Program} {ops : Array Oper} {md : Region.Mode} {C : World → Prop}
theorem cj {Q : Act → World → Prop} (hs : Region.noSelect ops = true) (hext : ∀ w w',C w → Chg [] w w' → C w') : ∀ (t : OT) (listed : Array Bool) (a : Act) (w : World),
  eI md ops t listed = true → Shut md ops listed → C w → ef P ops C Q t a w → dF P md ops C (fun _ => true) Q t.len listed a w
 | .nil,_,_,_,hB,_,_,h => ⟨by simpa [eI] using hB,h⟩
 | .fix i t,listed,a,w,hB,hcl,hC,h => by
  obtain ⟨o,v,hi,hy,hk⟩ := h
  simp only [eI,Bool.and_eq_true] at hB
  obtain ⟨hr,hf,hB'⟩ := hB
  exact eY hi (Region.noSelect_spec hs) hext (fun lst j hs' hi' hji hj => rfl) t.len listed a w hcl (Region.free_spec hi hf) (by simpa using hr) hy hC
   (fun w' hw' => cj hs hext t _ _ w' hB' (hcl.set (by simpa using hr)) (hext _ _ hC hw') (hk w' hw'))
 | .op i t,listed,a,w,hB,hcl,hC,h => by
  simp only [eI,Bool.and_eq_true,beq_iff_eq] at hB
  obtain ⟨hr,hB'⟩ := hB
  show dF P md ops C _ Q (t.len + 1) listed a w
  refine ⟨fun h0 => (by rw [hr] at h0; cases h0),fun j hj => ?_⟩
  rw [hr] at hj
  obtain rfl : j = i := by simpa using hj
  exact wpOp_mono (fun a' w' h' => ⟨fun _ => h'.1,fun w'' hw'' => cj hs hext t _ a' w'' hB' (hcl.set (by rw [hr]; exact List.mem_cons_self)) (hext _ _ h'.1 (cS hw'')) (h'.2 w'' (cS hw''))⟩) h
 | .two i k s t,listed,a,w,hB,hcl,hC,h => by
  simp only [eI,Bool.and_eq_true,beq_iff_eq] at hB
  obtain ⟨hr,hl,hB1,hB2⟩ := hB
  show dF P md ops C _ Q (s.len + 1) listed a w
  refine ⟨fun h0 => (by rw [hr] at h0; cases h0),fun j hj => ?_⟩
  have hj0 := hj
  rw [hr] at hj
  rcases (by simpa using hj : j = i ∨ j = k) with rfl | rfl
  · exact wpOp_mono (fun a' w' h' => ⟨fun _ => h'.1,fun w'' hw'' => cj hs hext s _ a' w'' hB1 (hcl.set hj0) (hext _ _ h'.1 (cS hw'')) (h'.2 w'' (cS hw''))⟩) h.1
  · rw [hl]
    exact wpOp_mono (fun a' w' h' => ⟨fun _ => h'.1,fun w'' hw'' => cj hs hext t _ a' w'' hB2 (hcl.set hj0) (hext _ _ h'.1 (cS hw'')) (h'.2 w'' (cS hw''))⟩) h.2
end
section
variable {cx : Cx} {fs : aV} {H C : List Chunk} {Q : ck} {ops : Array Oper}
def iX (cx : Cx) (C : List Chunk) (ops : Array Oper) (fs : aV) (H : List Chunk) (t : OT) (Q : ck) : Prop :=
 ∀ a w,Has cx.n cx.ds fs a → Sat cx H w → ef cx.P ops (Sat cx C) (fun a w => gA cx Q .normal a w) t a w
theorem mW {id : Nat} {l : List Oper} (C : List Chunk) (t : OT) (hm : cx.P.follows .mixedOrders = true) (hB : mixBT .any l.toArray t = true) (hC : ∀ w,Sat cx H w → Sat cx C w)
  (h : iX cx C l.toArray fs H t Q) : Tri cx fs H (.region id l.toArray true) Q := fun a w ha hw => by
 simp only [mixBT,Bool.and_eq_true,beq_iff_eq] at hB
 have h1 := cj hB.1 (fun w w' h k => h.ext k) t _ a _ hB.2.2 (fun j oj _ hj => by rw [eX] at hj; cases hj) (hC _ hw.drew) (h a _ ha hw.drew)
 rw [hB.2.1] at h1
 exact wp_region_any hm (dG _ _ _ _ h1)
theorem fi (h : Q .normal fs H) : iX cx C ops fs H .nil Q := fun _ _ ha hw => ⟨fs,H,ha,hw,h⟩
theorem fY {i : Nat} {o : Oper} {t : OT} (hi : ops[i]? = some o) (h : TriX true cx ops fs C [o] (fun e fs' _ => e = .normal ∧ iX cx C ops fs' H t Q)) : iX cx C ops fs H (.fix i t) Q := fun a w ha hw => by
 have h1 := h a ha
 unfold eC at h1
 by_cases hw' : Region.wanted o (yielded ops a.tmps) = true
 · rw [if_pos hw'] at h1
   obtain ⟨v,h2,fs',h3,_,h4⟩ := h1
   exact ⟨o,v,hi,.inl ⟨hw',h2⟩,fun w' hc => h4 _ w' h3 (hw.ext hc)⟩
 · rw [if_neg hw'] at h1
   obtain ⟨fs',h3,_,h4⟩ := h1
   exact ⟨o,undef,hi,.inr ⟨by simpa using hw',rfl⟩,fun w' hc => h4 _ w' h3 (hw.ext hc)⟩
theorem mX {i : Nat} {o : Oper} {t : OT} (hi : ops[i]? = some o) (h : TriX false cx ops fs H [o] (fun e fs' H' => e = .normal ∧ (∀ w,Sat cx H' w → Sat cx C w) ∧ iX cx C ops fs' H' t Q)) (a : Act) (w : World) (ha : Has cx.n cx.ds fs a) (hw : Sat cx H w) :
  wpOp cx.P ops ia i (fun a' w' => Sat cx C w' ∧ ∀ w'',Chg [] w' w'' → ef cx.P ops (Sat cx C) (fun a w => gA cx Q .normal a w) t a' w'') a w := by
 have h1 := h a w ha hw
 unfold wpList at h1
 unfold wpOp
 simp only [hi]
 have key : ∀ a' w',wpList cx.P ops (gA cx (fun e fs' H' => e = .normal ∧ (∀ w,Sat cx H' w → Sat cx C w) ∧ iX cx C ops fs' H' t Q)) [] a' w' →
   Sat cx C w' ∧ ∀ w'',Chg [] w' w'' → ef cx.P ops (Sat cx C) (fun a w => gA cx Q .normal a w) t a' w'' := by
  rintro a' w' ⟨fs',H',h2,h3,_,h4,h5⟩
  exact ⟨h4 _ h3,fun w'' hc => h5 _ _ h2 (h3.ext hc)⟩
 split
 · rename_i hw'
   rw [if_pos hw'] at h1
   rcases h1 with h1 | ⟨_,a',w',fs',H',_,_,h2,_⟩
   · exact .inl (ep key (fun _ _ _ ⟨_,_,_,_,h,_⟩ => by cases h) (fun _ _ ⟨_,_,_,_,h,_⟩ => by cases h) _ h1)
   · cases h2
 · rename_i hw'
   rw [if_neg hw'] at h1
   exact key _ _ h1
theorem dc {i : Nat} {o : Oper} {t : OT} (hi : ops[i]? = some o) (h : TriX false cx ops fs H [o] (fun e fs' H' => e = .normal ∧ (∀ w,Sat cx H' w → Sat cx C w) ∧ iX cx C ops fs' H' t Q)) : iX cx C ops fs H (.op i t) Q := fun a w ha hw => mX hi h a w ha hw
theorem gN {i j : Nat} {o p : Oper} {s t : OT} (hi : ops[i]? = some o) (hj : ops[j]? = some p) (h : TriX false cx ops fs H [o] (fun e fs' H' => e = .normal ∧ (∀ w,Sat cx H' w → Sat cx C w) ∧ iX cx C ops fs' H' s Q))
  (k : TriX false cx ops fs H [p] (fun e fs' H' => e = .normal ∧ (∀ w,Sat cx H' w → Sat cx C w) ∧ iX cx C ops fs' H' t Q)) : iX cx C ops fs H (.two i j s t) Q := fun a w ha hw => ⟨mX hi h a w ha hw,mX hj k a w ha hw⟩
end
end Go.WK
namespace Go.WK
open Go.RowKit
section ops
variable {cx : Cx} {fs : aV} {H : List Chunk} {Q : ck} {ops : Array Oper} {rest : List Oper} {g : Option (Nat × Bool)} {d : Nat} {ty : TypeId} {pos : String} {af : Array Edge}
theorem cY {x y : Operand} {t bt b o i z : Nat} {cs vs : List Value} {v : Value} (cs' : List Value) (hz : szB cx.P t = some z) (hn : Nth H i (box b bt cs)) (hok : okW ops fs g = true) (hx : ev fs x = some (.pointer (some ⟨b,o,none⟩))) (hy : ev fs y = some v)
  (hv : v.cells = vs.toArray) (hl : vs.length = z) (hfit : o + z ≤ cs.length) (h1 : allOne vs = true) (he : f5 cs o vs = cs') (k : TriX false cx ops fs (gz H i (box b bt cs')) rest Q) : TriX false cx ops fs H (⟨none,.store t x y,ty,pos,af,g⟩ :: rest) Q :=
 aB hz hn hok hx hy hv hl hfit h1 (by rw [he]; exact k)
end ops
end Go.WK
namespace Go.WK
open Go.RowKit
theorem exC_R {w : World} {e : Ex} {cs : List Value} (h : ExC w e cs) : ∃ y xs,cs = bR e y ∧ e.as.length ≤ y.k ∧ Rd w y.A xs ∧ ExsC w e.as xs := by
 obtain ⟨o,v,t,n,c,as⟩ := e
 obtain ⟨A,k,xs,h1,h2,h3,h4⟩ := h
 exact ⟨⟨A,k⟩,xs,h1,h2,h3,h4⟩
theorem fj {α : Type} {a b : List α} (z : α) (h : a.length = b.length) (hs : ∀ j,j < a.length → a.getD j z = b.getD j z) : a = b := by
 apply List.ext_getElem h
 intro i h1 h2
 have := hs i h1
 simpa [List.getD,h1,h2] using this
theorem ex_eq {a b : Ex} (h : ((((((decide (a.o ≠ b.o) || !decide (a.v = b.v)) || decide (a.t ≠ b.t)) || decide (a.n ≠ b.n)) || decide (a.c ≠ b.c)) || decide ((a.as.length : Int) ≠ b.as.length))) = false) (hs : ∀ j,j < a.as.length → a.as.getD j Ex.zero = b.as.getD j Ex.zero) : a = b := by
 simp only [Bool.or_eq_false_iff,Bool.not_eq_false',decide_eq_true_eq,decide_eq_false_iff_not,Decidable.not_not] at h
 obtain ⟨⟨⟨⟨⟨h1,h2⟩,h3⟩,h4⟩,h5⟩,h6⟩ := h
 rw [Ex.eta a,Ex.eta b,h1,h2,h3,h4,h5,fj Ex.zero (by omega) hs]
theorem ex_len {a b : Ex} (h : ((((((decide (a.o ≠ b.o) || !decide (a.v = b.v)) || decide (a.t ≠ b.t)) || decide (a.n ≠ b.n)) || decide (a.c ≠ b.c)) || decide ((a.as.length : Int) ≠ b.as.length))) = false) : a.as.length = b.as.length := by
 simp only [Bool.or_eq_false_iff,decide_eq_false_iff_not,Decidable.not_not] at h
 omega
theorem ex_ne {a b : Ex} (h : ((((((decide (a.o ≠ b.o) || !decide (a.v = b.v)) || decide (a.t ≠ b.t)) || decide (a.n ≠ b.n)) || decide (a.c ≠ b.c)) || decide ((a.as.length : Int) ≠ b.as.length))) = true) : a ≠ b := fun e => by
 subst e
 simp at h
theorem tc {e : Ex} {i : Nat} (hi : i < e.as.length) : (e.as.getD i Ex.zero).size < e.size := by
 obtain ⟨o,v,t,n,c,as⟩ := e
 exact Ex.size_at hi
theorem as_len {e : Ex} : e.as.length < e.size := by
 obtain ⟨o,v,t,n,c,as⟩ := e
 have := Exs.len_size as
 simp only [Ex.size,Ex.as]; omega
end Go.WK
namespace Go.WK
open Go.RowKit
theorem col_same (a b : ColX) : e6 a.cs b.cs = decide (a = b) := by
 have h1 : e6 a.cs b.cs = (a.n == b.n && (a.k == b.k && (a.b == b.b && true))) := by simp [ColX.cs,e6,ms]
 rw [h1,Bool.eq_iff_iff]
 obtain ⟨n,k,b1⟩ := a
 obtain ⟨n',k',b2⟩ := b
 simp
theorem ord_same (a b : OrdX) : e6 a.cs b.cs = decide (a = b) := by
 have h1 : e6 a.cs b.cs = (a.n == b.n && (a.b == b.b && true)) := by simp [OrdX.cs,e6,ms]
 rw [h1,Bool.eq_iff_iff]
 obtain ⟨n,b1⟩ := a
 obtain ⟨n',b2⟩ := b
 simp
def colKs : List SK := [.str,.int .i64,.bool]
def ordKs : List SK := [.str,.bool]
theorem ql (a : ColX) : eD colKs a.cs = true := by simp [colKs,ColX.cs,eD,SK.fits]
theorem qm (a : OrdX) : eD ordKs a.cs = true := by simp [ordKs,OrdX.cs,eD,SK.fits]
section ops
variable {m : Bool} {cx : Cx} {fs : aV} {H : List Chunk} {Q : ck} {ops : Array Oper} {rest : List Oper} {g : Option (Nat × Bool)} {d : Nat} {ty : TypeId} {pos : String} {af : Array Edge}
theorem o_neqCol {x y : Operand} {t yt : TypeId} {a b : ColX} (hf : gY cx.P t = some colKs) (hok : okS cx.n ops fs d g = true) (hx : ev fs x = some (.agg a.cs.toArray)) (hy : ev fs y = some (.agg b.cs.toArray)) (k : TriX m cx ops ((d,.bool (!decide (a = b))) :: fs) H rest Q) :
  TriX m cx ops fs H (⟨some d,.binOp .neq t x y yt,ty,pos,af,g⟩ :: rest) Q := rh hf hok hx hy (ql a) (ql b) (by rw [col_same]; exact k)
theorem o_neqOrd {x y : Operand} {t yt : TypeId} {a b : OrdX} (hf : gY cx.P t = some ordKs) (hok : okS cx.n ops fs d g = true) (hx : ev fs x = some (.agg a.cs.toArray)) (hy : ev fs y = some (.agg b.cs.toArray)) (k : TriX m cx ops ((d,.bool (!decide (a = b))) :: fs) H rest Q) :
  TriX m cx ops fs H (⟨some d,.binOp .neq t x y yt,ty,pos,af,g⟩ :: rest) Q := rh hf hok hx hy (qm a) (qm b) (by rw [ord_same]; exact k)
end ops
section ops
variable {m : Bool} {cx : Cx} {fs : aV} {H : List Chunk} {Q : ck} {ops : Array Oper} {rest : List Oper} {g : Option (Nat × Bool)} {ty : TypeId} {pos : String} {af : Array Edge}
theorem bG {d : Nat} {op : Op} (hw : gB ops fs g = some false) (hd : Nat.blt d cx.n = true) (k : TriX m cx ops ((d,undef) :: fs) H rest Q) : TriX m cx ops fs H (⟨some d,op,ty,pos,af,g⟩ :: rest) Q := by
 cases m with
 | false =>
  intro a w ha hs
  unfold wpList
  rw [if_neg (by rw [cU ha hw _ rfl]; simp)]
  exact k _ _ (ha.put hd undef) hs
 | true =>
  intro a ha
  unfold eC
  rw [if_neg (by rw [cU ha hw _ rfl]; simp)]
  exact k _ (ha.put hd undef)
end ops
theorem upd {α : Type} {f g : Nat → α} {i : Nat} (h : ∀ j,j < i → f j = g j) (h1 : f i = g i) : ∀ j,j < i + 1 → f j = g j := fun j hj => by
 rcases Nat.lt_or_ge j i with h2 | h2
 · exact h j h2
 · have e : j = i := by omega
   rw [e]; exact h1
theorem r5 {α : Type} {l m : List α} (h : (l.length : Int) ≠ (m.length : Int)) : l ≠ m := fun e => h (by rw [e])
theorem at_ne {α : Type} {l m : List α} {i : Nat} {z : α} (h : l.getD i z ≠ m.getD i z) : l ≠ m := fun e => h (by rw [e])
theorem td {a b : ItemX} (h : a.s ≠ b.s ∨ a.e ≠ b.e) : a ≠ b := fun e => by subst e; rcases h with h | h <;> exact h rfl
theorem mi {a b : ItemX} (h : a.s = b.s) (h1 : a.e = b.e) : a = b := by cases a; cases b; simp_all
theorem r6 {a b : SrcX} (h : a.t ≠ b.t ∨ a.s ≠ b.s ∨ a.e ≠ b.e) : a ≠ b := fun e => by subst e; rcases h with h | h | h <;> exact h rfl
theorem pc {a b : SrcX} (h : a.t = b.t) (h1 : a.s = b.s) (h2 : a.e = b.e) : a = b := by cases a; cases b; simp_all
theorem set_ne {a b : SetX} (h : a.n ≠ b.n ∨ a.e ≠ b.e) : a ≠ b := fun e => by subst e; rcases h with h | h <;> exact h rfl
theorem pd {a b : SetX} (h : a.n = b.n) (h1 : a.e = b.e) : a = b := by cases a; cases b; simp_all
def sqB (a b : QryX) : Bool := (((((((a.di != b.di) || (a.st != b.st)) || (a.li != b.li)) || decide (a.lim ≠ b.lim)) || decide ((a.items.length : Int) ≠ b.items.length)) || decide ((a.from_.length : Int) ≠ b.from_.length)) || decide ((a.ord.length : Int) ≠ b.ord.length)) || !decide (a.wh = b.wh)
theorem sq_ne {a b : QryX} (h : sqB a b = true) : a ≠ b := fun e => by
 subst e
 simp [sqB] at h
theorem sq_no {a b : QryX} (h : sqB a b = false) : (a.di = b.di ∧ a.st = b.st ∧ a.li = b.li ∧ a.lim = b.lim ∧ a.wh = b.wh) ∧ a.items.length = b.items.length ∧ a.from_.length = b.from_.length ∧ a.ord.length = b.ord.length := by
 unfold sqB at h
 simp only [Bool.or_eq_false_iff,bne_eq_false_iff_eq,decide_eq_false_iff_not,Decidable.not_not,Bool.not_eq_false',decide_eq_true_eq] at h
 obtain ⟨⟨⟨⟨⟨⟨⟨h1,h2⟩,h3⟩,h4⟩,h5⟩,h6⟩,h7⟩,h8⟩ := h
 exact ⟨⟨h1,h2,h3,h4,h8⟩,by omega,by omega,by omega⟩
theorem sq_eq {a b : QryX} (h : sqB a b = false) (h1 : ∀ j,j < a.items.length → a.items.getD j ItemX.zero = b.items.getD j ItemX.zero) (h2 : ∀ j,j < a.from_.length → a.from_.getD j SrcX.zero = b.from_.getD j SrcX.zero) (h3 : ∀ j,j < a.ord.length → a.ord.getD j OrdX.zero = b.ord.getD j OrdX.zero) : a = b := by
 obtain ⟨⟨k1,k2,k3,k4,k5⟩,k6,k7,k8⟩ := sq_no h
 have e1 := fj ItemX.zero k6 h1
 have e2 := fj SrcX.zero k7 h2
 have e3 := fj OrdX.zero k8 h3
 cases a; cases b; simp_all
def ssB (a b : StmtX) : Bool := (((((((((decide (a.k ≠ b.k) || decide (a.t ≠ b.t)) || decide (a.n ≠ b.n)) || (a.un != b.un)) || !decide (a.cols = b.cols)) || !decide (a.on = b.on)) || !decide (a.wh = b.wh)) || !decide (a.q = b.q)) || decide ((a.rows.length : Int) ≠ b.rows.length)) || decide ((a.sets.length : Int) ≠ b.sets.length))
theorem ss_ne {a b : StmtX} (h : ssB a b = true) : a ≠ b := fun e => by
 subst e
 simp [ssB] at h
theorem ss_no {a b : StmtX} (h : ssB a b = false) : (a.k = b.k ∧ a.t = b.t ∧ a.n = b.n ∧ a.un = b.un ∧ a.cols = b.cols ∧ a.on = b.on ∧ a.wh = b.wh ∧ a.q = b.q) ∧ a.rows.length = b.rows.length ∧ a.sets.length = b.sets.length := by
 unfold ssB at h
 simp only [Bool.or_eq_false_iff,bne_eq_false_iff_eq,decide_eq_false_iff_not,Decidable.not_not,Bool.not_eq_false',decide_eq_true_eq] at h
 obtain ⟨⟨⟨⟨⟨⟨⟨⟨⟨h1,h2⟩,h3⟩,h4⟩,h5⟩,h6⟩,h7⟩,h8⟩,h9⟩,h10⟩ := h
 exact ⟨⟨h1,h2,h3,h4,h5,h6,h7,h8⟩,by omega,by omega⟩
theorem ss_eq {a b : StmtX} (h : ssB a b = false) (h1 : ∀ j,j < a.rows.length → a.rows.getD j [] = b.rows.getD j []) (h2 : ∀ j,j < a.sets.length → a.sets.getD j SetX.zero = b.sets.getD j SetX.zero) : a = b := by
 obtain ⟨⟨k1,k2,k3,k4,k5,k6,k7,k8⟩,k9,k10⟩ := ss_no h
 have e1 := fj ([] : List Ex) k9 h1
 have e2 := fj SetX.zero k10 h2
 cases a; cases b; simp_all
theorem rows_ne {s t : StmtX} {i : Nat} (h : s.rows.getD i [] ≠ t.rows.getD i []) : s ≠ t := fun e => h (by rw [e])
theorem te {s t : StmtX} {i : Nat} (h : s.sets.getD i SetX.zero ≠ t.sets.getD i SetX.zero) : s ≠ t := fun e => h (by rw [e])
theorem qn {s t : QryX} {i : Nat} (h : s.items.getD i ItemX.zero ≠ t.items.getD i ItemX.zero) : s ≠ t := fun e => h (by rw [e])
theorem pf {s t : QryX} {i : Nat} (h : s.from_.getD i SrcX.zero ≠ t.from_.getD i SrcX.zero) : s ≠ t := fun e => h (by rw [e])
theorem ords_ne {s t : QryX} {i : Nat} (h : s.ord.getD i OrdX.zero ≠ t.ord.getD i OrdX.zero) : s ≠ t := fun e => h (by rw [e])
end Go.WK
namespace Go.WK
open Go.RowKit Lib
def oprs (lv : Nat) : List Opr := if lv = 1 then orO else if lv = 2 then mG else if lv = 5 then lW else lX
section
variable {us ts : List Tok} {e : Ex} {d n : Nat}
end
end Go.WK
namespace Go.WK
open Go.RowKit Lib
theorem map_cons {ts : List Tok} {a : KT} {b : List KT} (h : ts.map kt = a :: b) : ∃ x y,ts = x :: y ∧ kt x = a ∧ y.map kt = b := by
 obtain ⟨x,y,h1,h2,h3⟩ := List.map_eq_cons_iff.1 h
 exact ⟨x,y,h1,h2,h3⟩
def RowR (e : Ex) (k d f n : Nat) (ts us : List Tok) : Prop := (f6 (exP f (k + 1) d) (oprs k) (ts ++ us) = fE (exP f (k + 1) d) (oprs k) us.length e us ∧ d + n ≤ 24) ∨ ((∃ a,f6 (exP f (k + 1) d) (oprs k) (ts ++ us) = .error (191,a)) ∧ 24 < d + n)
end Go.WK
namespace Go.WK
open Go.RowKit
def nmX (s : List UInt8) : Ex := .mk 2 Val.zero [] s 0 []
def fk : StmtX := { StmtX.zero with k := 8,q := { QryX.zero with items := [⟨nmX [97],[]⟩,⟨.mk 2 Val.zero [116] [98] 0 [],[99]⟩],from_ := [⟨[116],[],Ex.zero⟩] } }
def awT1 : List UInt8 := [83,69,76,69,67,84,32,97,44,32,116,46,98,32,65,83,32,99,32,70,82,79,77,32,116]
def awT2 : List UInt8 := [115,101,108,101,99,116,32,97,32,61,32,98,32,61,32,99]
def awT3 : List UInt8 := [115,101,108,101,99,116,32,97,44,32,116,46,98,32,97,115,32,99,32,102,114,111,109,32,116]
def notA : Ex := .mk 5 Val.zero [] [] 0 [nmX [97]]
theorem aw_1 : cu awT1 = .ok fk := by kernel_rfl
theorem aw_2 : cu awT2 = .error (190,13) := by kernel_rfl
theorem aw_3 : prS fk = (awT3,0) := by kernel_rfl
theorem aw_4 : prX notA = ([110,111,116,32,97],0) := by kernel_rfl
theorem aw_5 : mU fk = true := by kernel_rfl
theorem aw_6 : (ew fk).1.length = 25 := by kernel_rfl
theorem aw_7 : (notA.txt 1).1.length = 5 := by kernel_rfl
theorem aw_8 : notA.size = 3 := by kernel_rfl
theorem aw_s1 (ts : List Tok) (h : cQ awT1 = .ok ts) : atT 1 hD ts = true := by
 have e : cQ awT1 = .ok [⟨1,[115,101,108,101,99,116],0⟩,⟨1,[97],7⟩,⟨4,[44],8⟩,⟨1,[116],10⟩,⟨4,[46],11⟩,⟨1,[98],12⟩,⟨1,[97,115],14⟩,⟨1,[99],17⟩,⟨1,[102,114,111,109],19⟩,⟨1,[116],24⟩,⟨5,[],25⟩] := by kernel_rfl
 rw [e] at h; cases h; rfl
theorem aw_s2 (ts : List Tok) (h : cQ awT2 = .ok ts) : atT 1 hD ts = true := by
 have e : cQ awT2 = .ok [⟨1,[115,101,108,101,99,116],0⟩,⟨1,[97],7⟩,⟨4,[61],9⟩,⟨1,[98],11⟩,⟨4,[61],13⟩,⟨1,[99],15⟩,⟨5,[],16⟩] := by kernel_rfl
 rw [e] at h; cases h; rfl
def awY (b c : Nat) : Lay := { Lay.nil with q := ⟨⟨some ⟨b,0,none⟩,2⟩,⟨some ⟨c,0,none⟩,1⟩,SL.nil,SL.nil⟩ }
def awI : List Value := bR (nmX [97]) SL.nil ++ ([.string (B [])] ++ (bR (.mk 2 Val.zero [116] [98] 0 []) SL.nil ++ [.string (B [99])]))
def awF : List Value := [.string (B [116]),.string (B [])] ++ bR Ex.zero SL.nil
theorem oe (bl : List Nat) (w : World) (o : Int) (v : Val) (t n : List UInt8) (c : Int) : ExR bl w (.mk o v t n c []) SL.nil := ⟨none,0,[],rfl,Nat.le_refl _,Rd.nil _ _,(fun _ h => by cases h),rfl⟩
theorem kO {α : Type} (K : Kd α) (bl : List Nat) (w : World) : SlR K bl w [] SL.nil [] := ⟨Nat.le_refl _,Rd.nil _ _,(fun _ h => by cases h),rfl⟩
theorem aw_at {w : World} {b c : Nat} (hI : Rd w (some ⟨b,0,none⟩) awI) (hF : Rd w (some ⟨c,0,none⟩) awF) : SAt [b,c] w fk (awY b c) := by
 refine ⟨[],[],[],[],awI,awF,[],kO _ _ _,kO _ _ _,kO _ _ _,kO _ _ _,oe _ _ _ _ _ _ _,⟨⟨Nat.le_refl _,hI,fun a ha _ => ?_, ?_⟩,⟨Nat.le_refl _,hF,fun a ha _ => ?_, ?_⟩,oe _ _ _ _ _ _ _,kO _ _ _⟩⟩
 · cases ha; simp
 · exact ⟨bR (nmX [97]) SL.nil ++ [.string (B [])],bR (.mk 2 Val.zero [116] [98] 0 []) SL.nil ++ [.string (B [99])],rfl,⟨_,rfl,oe _ _ _ _ _ _ _⟩,_,[],by simp,⟨_,rfl,oe _ _ _ _ _ _ _⟩,rfl⟩
 · cases ha; simp
 · exact ⟨awF,[],by simp,⟨_,rfl,oe _ _ _ _ _ _ _⟩,rfl⟩
theorem nota_at {w : World} {b : Nat} (h : Rd w (some ⟨b,0,none⟩) (bR (nmX [97]) SL.nil)) : ExR [b] w notA ⟨some ⟨b,0,none⟩,1⟩ :=
 ⟨some ⟨b,0,none⟩,1,bR (nmX [97]) SL.nil,rfl,Nat.le_refl _,h,(fun a ha _ => by cases ha; simp),bR (nmX [97]) SL.nil,[],by simp,oe _ _ _ _ _ _ _,rfl⟩
theorem nm_ok (s : List UInt8) : (nmX s).ok := ⟨by omega,by unfold Val.ok Val.zero; simp,by omega,trivial⟩
theorem nota_ok : notA.ok := ⟨by omega,by unfold Val.ok Val.zero; simp,by omega,nm_ok _,trivial⟩
theorem pg : Ex.zero.ok := ⟨by omega,by unfold Val.ok Val.zero; simp,by omega,trivial⟩
theorem aw_ok : SOk fk := by
 refine ⟨⟨by decide,by decide⟩,fun i hi => absurd hi (by simp [fk,StmtX.zero]),fun i hi => absurd hi (by simp [fk,StmtX.zero]),fun i hi => absurd hi (by simp [fk,StmtX.zero]),pg,⟨fun i hi => ?_,fun i hi => ?_,pg,rfl⟩⟩
 · have hi : i < 2 := hi
   rcases (by omega : i = 0 ∨ i = 1) with rfl | rfl
   · exact nm_ok _
   · exact ⟨by omega,by unfold Val.ok Val.zero; simp,by omega,trivial⟩
 · have hi : i < 1 := hi
   obtain rfl : i = 0 := by omega
   exact pg
theorem aw_bd : SBd fk := by
 refine ⟨by decide,by decide,by decide,by decide,by decide,by decide,fun i hi => absurd hi (by simp [fk,StmtX.zero]),fun i hi => absurd hi (by simp [fk,StmtX.zero]),fun i hi => absurd hi (by simp [fk,StmtX.zero]),fun i hi => absurd hi (by simp [fk,StmtX.zero]),by decide,⟨by decide,by decide,by decide,fun i hi => ?_,fun i hi => ?_,fun i hi => absurd hi (by simp [fk,QryX.zero]),by decide⟩⟩
 · have hi : i < 2 := hi
   rcases (by omega : i = 0 ∨ i = 1) with rfl | rfl
   · exact ⟨by decide,by decide⟩
   · exact ⟨by decide,by decide⟩
 · have hi : i < 1 := hi
   obtain rfl : i = 0 := by omega
   exact ⟨by decide,by decide,by decide⟩
theorem stCs_inj {s : StmtX} {y z : Lay} (h : bS s y = bS s z) : y = z := by
 obtain ⟨⟨a1,a2⟩,⟨b1,b2⟩,⟨c1,c2⟩,⟨d1,d2⟩,⟨e1,e2⟩,⟨⟨f1,f2⟩,⟨g1,g2⟩,⟨i1,i2⟩,⟨j1,j2⟩⟩⟩ := y
 obtain ⟨⟨a1',a2'⟩,⟨b1',b2'⟩,⟨c1',c2'⟩,⟨d1',d2'⟩,⟨e1',e2'⟩,⟨⟨f1',f2'⟩,⟨g1',g2'⟩,⟨i1',i2'⟩,⟨j1',j2'⟩⟩⟩ := z
 simp only [bS,List.cons.injEq,Value.slice.injEq,true_and,and_true] at h
 simp only [Lay.mk.injEq,SL.mk.injEq,QLay.mk.injEq]
 obtain ⟨h1,h2,h3,h4,h5,h6,h7,h8,h9⟩ := h
 exact ⟨h1,h2,h3,h4,h5,h6,h7,h8,h9⟩
theorem st_at' {bl : List Nat} {w : World} {s : StmtX} {y : Lay} (h : StK bl w s (bS s y)) : SAt bl w s y := by
 obtain ⟨y',h1,h2⟩ := st_at h
 rw [stCs_inj h1]; exact h2
end Go.WK
namespace Go.WK
open Go.RowKit
def fcS : Except Flt StmtX → Int × Int
 | .ok _ => (0,0)
 | .error x => (x.1,x.2)
section ops
variable {m : Bool} {cx : Cx} {fs : aV} {H : List Chunk} {Q : ck} {ops : Array Oper} {rest : List Oper} {g : Option (Nat × Bool)} {d : Nat} {ty : TypeId} {pos : String} {af : Array Edge}
end ops
end Go.WK
namespace Go.WK
open Go.RowKit
section
variable {ts : List Tok} {x : Flt} {f d : Nat}
theorem eg (h : nmT ts = false) : bj ts = .error (190,(hd ts).a) := by unfold bj; rw [if_neg (by rw [h]; decide)]; rfl
theorem bQ (h : nmT ts = true) : bj ts = .ok ((hd ts).t,ts.drop 1) := by unfold bj; rw [if_pos h]
theorem fm {s : List UInt8} (h : atT 1 s ts = false) : bI s ts = .error (190,(hd ts).a) := by unfold bI; rw [if_neg (by rw [h]; decide)]
theorem cf {s : List UInt8} (h : atT 1 s ts = true) : bI s ts = .ok (ts.drop 1) := by unfold bI; rw [if_pos h]
theorem mY {s : List UInt8} (h : atT 4 s ts = false) : f8 s ts = .error (190,(hd ts).a) := by unfold f8; rw [if_neg (by rw [h]; decide)]
theorem jR {s : List UInt8} (h : atT 4 s ts = true) : f8 s ts = .ok (ts.drop 1) := by unfold f8; rw [if_pos h]
def iY (ts : List Tok) : PT ColX := match bj ts with
 | .error x => .error x
 | .ok (n,us) => if cJ us = 0 then eS us else
  if atT 1 gJ (us.drop 1) = true then (match bI cM ((us.drop 1).drop 1) with | .error x => .error x | .ok vs => .ok (⟨n,cJ us,true⟩,vs)) else .ok (⟨n,cJ us,false⟩,us.drop 1)
theorem r7 (l : List ColX) (ts : List Tok) : jr l ts = match iY ts with | .error x => .error x | .ok (c,us) => .ok (l ++ [c],us) := by
 unfold jr iY
 cases bj ts with
 | error x => rfl
 | ok r =>
  obtain ⟨n,us⟩ := r
  simp only
  split
  · rfl
  · split
    · cases bI cM ((us.drop 1).drop 1) <;> rfl
    · rfl
theorem colP_err {l : List ColX} (h : iY ts = .error x) : jr l ts = .error x := by rw [r7,h]
theorem colP_ok {l : List ColX} {c : ColX} {us : List Tok} (h : iY ts = .ok (c,us)) : jr l ts = .ok (l ++ [c],us) := by rw [r7,h]
theorem colX_bad (h : nmT ts = false) : iY ts = .error (190,(hd ts).a) := by unfold iY; rw [eg h]
theorem uB (h : nmT ts = true) (h1 : atT 1 intB (ts.drop 1) = false) (h2 : atT 1 p5 (ts.drop 1) = false) (h3 : atT 1 boolB (ts.drop 1) = false) : iY ts = .error (190,(hd (ts.drop 1)).a) := by
 unfold iY; rw [bQ h]; simp only
 rw [if_pos (by unfold cJ; rw [h1,h2,h3]; rfl)]; rfl
theorem uC {k : Int} (h : nmT ts = true) (hk : cJ (ts.drop 1) = k) (h0 : k ≠ 0) (h1 : atT 1 gJ ((ts.drop 1).drop 1) = true) (h2 : atT 1 cM (((ts.drop 1).drop 1).drop 1) = false) : iY ts = .error (190,(hd (((ts.drop 1).drop 1).drop 1)).a) := by
 unfold iY; rw [bQ h]; simp only
 rw [hk,if_neg h0,if_pos h1,fm h2]
theorem colX_two {k : Int} (h : nmT ts = true) (hk : cJ (ts.drop 1) = k) (h0 : k ≠ 0) (h1 : atT 1 gJ ((ts.drop 1).drop 1) = true) (h2 : atT 1 cM (((ts.drop 1).drop 1).drop 1) = true) : iY ts = .ok (⟨(hd ts).t,k,true⟩,(((ts.drop 1).drop 1).drop 1).drop 1) := by
 unfold iY; rw [bQ h]; simp only
 rw [hk,if_neg h0,if_pos h1,cf h2]
theorem colX_one {k : Int} (h : nmT ts = true) (hk : cJ (ts.drop 1) = k) (h0 : k ≠ 0) (h1 : atT 1 gJ ((ts.drop 1).drop 1) = false) : iY ts = .ok (⟨(hd ts).t,k,false⟩,(ts.drop 1).drop 1) := by
 unfold iY; rw [bQ h]; simp only
 rw [hk,if_neg h0,if_neg (by rw [h1]; decide)]
theorem kind_1 (h : atT 1 intB ts = true) : cJ ts = 1 := by unfold cJ; rw [if_pos h]
theorem kind_2 (h1 : atT 1 intB ts = false) (h : atT 1 p5 ts = true) : cJ ts = 2 := by unfold cJ; rw [h1,if_neg (by decide),if_pos h]
theorem kind_3 (h1 : atT 1 intB ts = false) (h2 : atT 1 p5 ts = false) (h : atT 1 boolB ts = true) : cJ ts = 3 := by unfold cJ; rw [h1,h2,if_neg (by decide),if_neg (by decide),if_pos h]
theorem uD {c : ColX} {us : List Tok} (hg : Good ts) (h : iY ts = .ok (c,us)) : Cuts ts us := by
 unfold iY at h
 cases h1 : bj ts with
 | error x => simp only [h1] at h; cases h
 | ok r =>
  obtain ⟨n,t1⟩ := r
  simp only [h1] at h
  have c1 := bs hg h1
  split at h
  · cases h
  rename_i hk
  have hat : ∃ s,atT 1 s t1 = true := by
   unfold cJ at hk
   split at hk
   · rename_i h0; exact ⟨_,h0⟩
   split at hk
   · rename_i h0; exact ⟨_,h0⟩
   split at hk
   · rename_i h0; exact ⟨_,h0⟩
   · exact absurd rfl hk
  obtain ⟨s,hs⟩ := hat
  have c2 := aO c1 (by decide) hs
  split at h
  · rename_i h2
    have c3 := aO c2 (by decide) h2
    unfold bI at h
    split at h
    · cases h
    · rename_i vs hv
      split at hv
      · rename_i h4
        cases hv
        simp only [Except.ok.injEq,Prod.mk.injEq] at h
        rw [← h.2]; exact aO c3 (by decide) h4
      · cases hv
  · simp only [Except.ok.injEq,Prod.mk.injEq] at h
    rw [← h.2]; exact c2
theorem jw {l l' : List ColX} {us : List Tok} (hg : Good ts) (h : jr l ts = .ok (l',us)) : Cuts ts us := by
 rw [r7] at h
 cases h1 : iY ts with
 | error x => simp only [h1] at h; cases h
 | ok r =>
  obtain ⟨c,vs⟩ := r
  simp only [h1,Except.ok.injEq,Prod.mk.injEq] at h
  rw [← h.2]; exact uD hg h1
theorem onP_bad {l : List (List UInt8)} (h : nmT ts = false) : onP l ts = .error (190,(hd ts).a) := by unfold onP; rw [eg h]
theorem onP_ok {l : List (List UInt8)} (h : nmT ts = true) : onP l ts = .ok (l ++ [(hd ts).t],ts.drop 1) := by unfold onP; rw [bQ h]
theorem kP {l l' : List (List UInt8)} {us : List Tok} (hg : Good ts) (h : onP l ts = .ok (l',us)) : Cuts ts us := by
 unfold onP at h
 cases h1 : bj ts with
 | error x => simp only [h1] at h; cases h
 | ok r =>
  obtain ⟨n,vs⟩ := r
  simp only [h1,Except.ok.injEq,Prod.mk.injEq] at h
  rw [← h.2]; exact bs hg h1
theorem tf {l : List SetX} (h : nmT ts = false) : gK f d l ts = .error (190,(hd ts).a) := by unfold gK; rw [eg h]
theorem tg {l : List SetX} (h : nmT ts = true) (h2 : atT 4 [61] (ts.drop 1) = false) : gK f d l ts = .error (190,(hd (ts.drop 1)).a) := by unfold gK; rw [bQ h]; simp only [mY h2]
theorem th {l : List SetX} (h : nmT ts = true) (h2 : atT 4 [61] (ts.drop 1) = true) (h3 : exP f 1 d ((ts.drop 1).drop 1) = .error x) : gK f d l ts = .error x := by unfold gK; rw [bQ h]; simp only [jR h2,h3]
theorem tj {l : List SetX} {e : Ex} {us : List Tok} (h : nmT ts = true) (h2 : atT 4 [61] (ts.drop 1) = true) (h3 : exP f 1 d ((ts.drop 1).drop 1) = .ok (e,us)) : gK f d l ts = .ok (l ++ [⟨(hd ts).t,e⟩],us) := by unfold gK; rw [bQ h]; simp only [jR h2,h3]
theorem jx {l l' : List SetX} {us : List Tok} (hg : Good ts) (h : gK f d l ts = .ok (l',us)) : Cuts ts us := by
 cases h1 : nmT ts with
 | false => rw [tf h1] at h; cases h
 | true =>
  have c1 : Cuts ts (ts.drop 1) := ⟨List.drop_suffix 1 ts,hg.name h1⟩
  cases h2 : atT 4 [61] (ts.drop 1) with
  | false => rw [tg h1 h2] at h; cases h
  | true =>
   have c2 := aO c1 (by decide) h2
   cases h3 : exP f 1 d ((ts.drop 1).drop 1) with
   | error x => rw [th h1 h2 h3] at h; cases h
   | ok r =>
    obtain ⟨e,vs⟩ := r
    rw [tj h1 h2 h3] at h
    simp only [Except.ok.injEq,Prod.mk.injEq] at h
    rw [← h.2]; exact c2.trans (cl f 1 d _ c2.2 e vs h3).1
theorem mZ {l : List Ex} (h3 : exP f 1 d ts = .error x) : fT f d l ts = .error x := by unfold fT; rw [h3]
theorem iZ {l : List Ex} {e : Ex} {us : List Tok} (h3 : exP f 1 d ts = .ok (e,us)) : fT f d l ts = .ok (l ++ [e],us) := by unfold fT; rw [h3]
theorem gO {l l' : List Ex} {us : List Tok} (hg : Good ts) (h : fT f d l ts = .ok (l',us)) : Cuts ts us := by
 cases h3 : exP f 1 d ts with
 | error x => rw [mZ h3] at h; cases h
 | ok r =>
  obtain ⟨e,vs⟩ := r
  rw [iZ h3] at h
  simp only [Except.ok.injEq,Prod.mk.injEq] at h
  rw [← h.2]; exact (cl f 1 d _ hg e vs h3).1
section
variable {τ : Type} {can : List Tok → Bool} {one : List τ → List Tok → PT (List τ)} {l : List τ} {us : List Tok}
theorem qo (h : atT 4 [40] ts = false) : inP can one ts = .error (190,(hd ts).a) := by unfold inP; rw [mY h]
theorem qp (h : atT 4 [40] ts = true) (h2 : cz can one 17 0 [] (ts.drop 1) = .error x) : inP can one ts = .error x := by unfold inP; rw [jR h]; simp only [h2]
theorem qq (h : atT 4 [40] ts = true) (h2 : cz can one 17 0 [] (ts.drop 1) = .ok (l,us)) (h3 : atT 4 [41] us = false) : inP can one ts = .error (190,(hd us).a) := by unfold inP; rw [jR h]; simp only [h2,mY h3]
theorem qr (h : atT 4 [40] ts = true) (h2 : cz can one 17 0 [] (ts.drop 1) = .ok (l,us)) (h3 : atT 4 [41] us = true) : inP can one ts = .ok (l,us.drop 1) := by unfold inP; rw [jR h]; simp only [h2,jR h3]
end
theorem ke {k : Nat} {l : List (List Ex)} (h : inP eF (fT f d) ts = .error x) : cN f d (k + 1) l ts = .error x := by rw [cN,h]
theorem m0 {k : Nat} {l : List (List Ex)} {r : List Ex} {us : List Tok} (h : inP eF (fT f d) ts = .ok (r,us)) (h2 : atT 4 [44] us = true) : cN f d (k + 1) l ts = cN f d k (l ++ [r]) (us.drop 1) := by rw [cN,h]; simp only [h2,if_true]
theorem og {k : Nat} {l : List (List Ex)} {r : List Ex} {us : List Tok} (h : inP eF (fT f d) ts = .ok (r,us)) (h2 : atT 4 [44] us = false) : cN f d (k + 1) l ts = .ok (l ++ [r],us) := by rw [cN,h]; simp only [h2,Bool.false_eq_true,if_false]
end
section
variable {ts t1 t2 t3 t4 : List Tok} {x : Flt} {f d : Nat} {r : PT StmtX} {n t : List UInt8} {e : Ex}
theorem cr_t (h : atT 1 ea ts = true) : eK ts = (match bj (ts.drop 1) with | .error x => .error x | .ok (t,us) => match inP nmT jr us with | .error x => .error x | .ok (l,vs) => .ok ({ StmtX.zero with k := 1,t := t,cols := l },vs)) := by unfold eK; rw [if_pos h] <;> rfl
theorem cr_i (h : atT 1 ea ts = false) : eK ts = (match bI eb (if atT 1 cO ts = true then ts.drop 1 else ts) with
    | .error x => .error x
    | .ok us => match bj us with
      | .error x => .error x
      | .ok (n,vs) => match bI onB vs with
        | .error x => .error x
        | .ok zs => match bj zs with
          | .error x => .error x
          | .ok (t,xs) => match inP nmT onP xs with
            | .error x => .error x
            | .ok (l,ys) => .ok ({ StmtX.zero with k := 3,un := atT 1 cO ts,n := n,t := t,on := l },ys)) := by unfold eK; rw [if_neg (by rw [h]; decide)] <;> rfl
end
abbrev lsE {α : Type} (K : Kd α) (sb t e : Nat) (cs : LS α → List Value) (s : LS α) : List Chunk := [box sb t (cs s),row (.slice s.A s.l.length s.c) e K.z s.l.length s.xs,dh K s.bl s.l s.xs]
theorem lsEL {α : Type} (K : Kd α) (sb t e : Nat) (cs : LS α → List Value) (s : LS α) : (∀ c ∈ lsE K sb t e cs s,∀ k,c.fp k → k ∈ lsL sb s) ∧ (∀ k ∈ lsL sb s, ∃ c ∈ lsE K sb t e cs s,c.fp k) := by
 obtain ⟨h1,h2⟩ := jt K sb e cs s
 refine ⟨fun c hc => ?_,fun k hk => ?_⟩
 · simp only [lsE,List.mem_cons,List.not_mem_nil,or_false] at hc
   rcases hc with rfl | rfl | rfl
   · exact h1 (box sb 37 (cs s)) List.mem_cons_self
   · exact h1 _ (List.mem_cons_of_mem _ List.mem_cons_self)
   · exact h1 _ (List.mem_cons_of_mem _ (List.mem_cons_of_mem _ List.mem_cons_self))
 · obtain ⟨c,hc,hf⟩ := h2 k hk
   simp only [lsD,List.mem_cons,List.not_mem_nil,or_false] at hc
   rcases hc with rfl | rfl | rfl
   · exact ⟨_,List.mem_cons_self,hf⟩
   · exact ⟨_,List.mem_cons_of_mem _ List.mem_cons_self,hf⟩
   · exact ⟨_,List.mem_cons_of_mem _ (List.mem_cons_of_mem _ List.mem_cons_self),hf⟩
theorem Sat.moreRow {cx : Cx} {H : List Chunk} {w : World} {A : Option Addr} {n c e : Nat} {xs ys : List Value} {bl bm : List Nat} {l : List (List Ex)} {r : List Ex} (h : Sat cx (dh rowKd bl l xs :: row (.slice A n c) e dI.z n ys :: dh dI bm r ys :: H) w) (hn : n = r.length) :
  Sat cx (dh rowKd (bl ++ (blkA A ++ bm)) (l ++ [r]) (xs ++ [.slice A n c]) :: H) w := by
 refine Sat.fuse (l := [_,_,_]) h _ (fun hh => ?_) (fun j hj => ?_)
 · have k1 := hh _ (Nth.mem .z)
   have k2 := hh _ (Nth.mem (.s .z))
   have k3 := hh _ (Nth.mem (.s (.s .z)))
   refine ⟨rowKd.seq_app (rowKd.seq_mono (fun k hk => List.mem_append_left _ hk) k1.1) ⟨[.slice A n c],[],rfl,⟨_,rfl,dI.sl_mono (fun k hk => List.mem_append_right _ hk) (eP dI k2 hn k3.1)⟩,rfl⟩,fun j hj => ?_⟩
   rcases List.mem_append.1 hj with hj | hj
   · exact k1.2 j hj
   · rcases List.mem_append.1 hj with hj | hj
     · exact (row (.slice A n c) e dI.z n ys).lt w j k2 (dQ hj)
     · exact k3.2 j hj
 · rcases List.mem_append.1 hj with hj | hj
   · exact ⟨_,Nth.mem .z,hj⟩
   · rcases List.mem_append.1 hj with hj | hj
     · exact ⟨_,Nth.mem (.s .z),dQ hj⟩
     · exact ⟨_,Nth.mem (.s (.s .z)),hj⟩
abbrev zEx : List Value := [.int .i64 0,.int .i64 0,.int .i64 0,.string .empty,.string .empty,.string .empty,.int .i64 0,.slice none 0 0]
abbrev zQr : List Value := [.bool false,.bool false,.slice none 0 0,.slice none 0 0,.int .i64 0,.int .i64 0,.int .i64 0,.string .empty,.string .empty,.string .empty,.int .i64 0,.slice none 0 0,.slice none 0 0,.bool false,.int .i64 0]
theorem qs (bl : List Nat) (w : World) : ExK bl w Ex.zero zEx := ⟨none,0,[],rfl,Nat.le_refl _,Rd.nil _ _,(fun _ h => by cases h),rfl⟩
theorem oh (bl : List Nat) (w : World) : QK bl w QryX.zero (.slice none 0 0) (.slice none 0 0) (.slice none 0 0) zEx := ⟨itemKd.sl_nil _ _,srcKd.sl_nil _ _,qs _ _,ordKd.sl_nil _ _⟩
section
variable {cx : Cx} {H : List Chunk} {w : World} {A : Option Addr} {n c e : Nat} {xs cs : List Value} {bl bm : List Nat}
theorem Sat.stPlain (k : Int) (t m : List UInt8) (h : Sat cx H w) : Sat cx (stC [] { StmtX.zero with k := k,t := t,n := m } ([.int .i64 k,.string (B t),.string (B m),.slice none 0 0,.slice none 0 0,.bool false,.slice none 0 0,.slice none 0 0] ++ (zEx ++ zQr)) :: H) w :=
 h.fuse (l := []) _ (fun _ => ⟨⟨_,_,_,_,_,_,_,_,_,rfl,colKd.sl_nil _ _,nameKd.sl_nil _ _,rowKd.sl_nil _ _,setKd.sl_nil _ _,qs _ _,oh _ _⟩,fun k hk => by cases hk⟩) (fun k hk => by cases hk)
theorem Sat.stCols {l : List ColX} (t : List UInt8) (h : Sat cx (row (.slice A n c) e colKd.z n xs :: dh colKd bl l xs :: H) w) (hn : n = l.length) : Sat cx (stC (blkA A ++ bl) { StmtX.zero with k := 1,t := t,cols := l } ([.int .i64 1,.string (B t),.string .empty,.slice A n c,.slice none 0 0,.bool false,.slice none 0 0,.slice none 0 0] ++ (zEx ++ zQr)) :: H) w := by
 refine Sat.fuse (l := [_,_]) h _ (fun hh => ?_) (fun j hj => ?_)
 · have k1 := hh _ (Nth.mem .z)
   have k2 := hh _ (Nth.mem (.s .z))
   refine ⟨⟨_,_,_,_,_,_,_,_,_,rfl,eP colKd k1 hn k2.1,nameKd.sl_nil _ _,rowKd.sl_nil _ _,setKd.sl_nil _ _,qs _ _,oh _ _⟩,fun j hj => ?_⟩
   rcases List.mem_append.1 hj with hj | hj
   · exact (row (.slice A n c) e colKd.z n xs).lt w j k1 (dQ hj)
   · exact k2.2 j hj
 · rcases List.mem_append.1 hj with hj | hj
   · exact ⟨_,Nth.mem .z,dQ hj⟩
   · exact ⟨_,Nth.mem (.s .z),hj⟩
theorem Sat.stOn {l : List (List UInt8)} (t m : List UInt8) (u : Bool) (h : Sat cx (row (.slice A n c) e nameKd.z n xs :: dh nameKd bl l xs :: H) w) (hn : n = l.length) : Sat cx (stC (blkA A ++ bl) { StmtX.zero with k := 3,t := t,n := m,on := l,un := u } ([.int .i64 3,.string (B t),.string (B m),.slice none 0 0,.slice A n c,.bool u,.slice none 0 0,.slice none 0 0] ++ (zEx ++ zQr)) :: H) w := by
 refine Sat.fuse (l := [_,_]) h _ (fun hh => ?_) (fun j hj => ?_)
 · have k1 := hh _ (Nth.mem .z)
   have k2 := hh _ (Nth.mem (.s .z))
   refine ⟨⟨_,_,_,_,_,_,_,_,_,rfl,colKd.sl_nil _ _,eP nameKd k1 hn k2.1,rowKd.sl_nil _ _,setKd.sl_nil _ _,qs _ _,oh _ _⟩,fun j hj => ?_⟩
   rcases List.mem_append.1 hj with hj | hj
   · exact (row (.slice A n c) e nameKd.z n xs).lt w j k1 (dQ hj)
   · exact k2.2 j hj
 · rcases List.mem_append.1 hj with hj | hj
   · exact ⟨_,Nth.mem .z,dQ hj⟩
   · exact ⟨_,Nth.mem (.s .z),hj⟩
theorem Sat.stRows {l : List (List Ex)} (t : List UInt8) (h : Sat cx (row (.slice A n c) e rowKd.z n xs :: dh rowKd bl l xs :: H) w) (hn : n = l.length) : Sat cx (stC (blkA A ++ bl) { StmtX.zero with k := 5,t := t,rows := l } ([.int .i64 5,.string (B t),.string .empty,.slice none 0 0,.slice none 0 0,.bool false,.slice A n c,.slice none 0 0] ++ (zEx ++ zQr)) :: H) w := by
 refine Sat.fuse (l := [_,_]) h _ (fun hh => ?_) (fun j hj => ?_)
 · have k1 := hh _ (Nth.mem .z)
   have k2 := hh _ (Nth.mem (.s .z))
   refine ⟨⟨_,_,_,_,_,_,_,_,_,rfl,colKd.sl_nil _ _,nameKd.sl_nil _ _,eP rowKd k1 hn k2.1,setKd.sl_nil _ _,qs _ _,oh _ _⟩,fun j hj => ?_⟩
   rcases List.mem_append.1 hj with hj | hj
   · exact (row (.slice A n c) e rowKd.z n xs).lt w j k1 (dQ hj)
   · exact k2.2 j hj
 · rcases List.mem_append.1 hj with hj | hj
   · exact ⟨_,Nth.mem .z,dQ hj⟩
   · exact ⟨_,Nth.mem (.s .z),hj⟩
theorem Sat.stWh {ex : Ex} (t : List UInt8) (h : Sat cx (fx bl ex cs :: H) w) : Sat cx (stC bl { StmtX.zero with k := 6,t := t,wh := ex } ([.int .i64 6,.string (B t),.string .empty,.slice none 0 0,.slice none 0 0,.bool false,.slice none 0 0,.slice none 0 0] ++ (cs ++ zQr)) :: H) w := by
 refine Sat.fuse (l := [_]) h _ (fun hh => ?_) (fun j hj => ⟨_,List.mem_cons_self,hj⟩)
 have k1 := hh _ (Nth.mem .z)
 exact ⟨⟨_,_,_,_,_,_,_,_,_,rfl,colKd.sl_nil _ _,nameKd.sl_nil _ _,rowKd.sl_nil _ _,setKd.sl_nil _ _,k1.1,oh _ _⟩,k1.2⟩
theorem Sat.stSets {l : List SetX} {ex : Ex} (t : List UInt8) (h : Sat cx (row (.slice A n c) e setKd.z n xs :: dh setKd bl l xs :: fx bm ex cs :: H) w) (hn : n = l.length) : Sat cx (stC ((blkA A ++ bl) ++ bm) { StmtX.zero with k := 7,t := t,sets := l,wh := ex } ([.int .i64 7,.string (B t),.string .empty,.slice none 0 0,.slice none 0 0,.bool false,.slice none 0 0,.slice A n c] ++ (cs ++ zQr)) :: H) w := by
 refine Sat.fuse (l := [_,_,_]) h _ (fun hh => ?_) (fun j hj => ?_)
 · have k1 := hh _ (Nth.mem .z)
   have k2 := hh _ (Nth.mem (.s .z))
   have k3 := hh _ (Nth.mem (.s (.s .z)))
   refine ⟨⟨_,_,_,_,_,_,_,_,_,rfl,colKd.sl_nil _ _,nameKd.sl_nil _ _,rowKd.sl_nil _ _,setKd.sl_mono (fun k hk => List.mem_append_left _ hk) (eP setKd k1 hn k2.1),ExK.mono (fun k hk => List.mem_append_right _ hk) _ _ k3.1,oh _ _⟩,fun j hj => ?_⟩
   rcases List.mem_append.1 hj with hj | hj
   · rcases List.mem_append.1 hj with hj | hj
     · exact (row (.slice A n c) e setKd.z n xs).lt w j k1 (dQ hj)
     · exact k2.2 j hj
   · exact k3.2 j hj
 · rcases List.mem_append.1 hj with hj | hj
   · rcases List.mem_append.1 hj with hj | hj
     · exact ⟨_,Nth.mem .z,dQ hj⟩
     · exact ⟨_,Nth.mem (.s .z),hj⟩
   · exact ⟨_,Nth.mem (.s (.s .z)),hj⟩
end
def l0 (ts : List Tok) : PT Int := if atT 1 iU ts = true then .ok (9,ts.drop 1) else if atT 1 hG ts = true then .ok (10,ts.drop 1) else if atT 1 fG ts = true then .ok (11,ts.drop 1) else eS ts
theorem oth_1 {ts : List Tok} (h : atT 1 iU ts = true) : l0 ts = .ok (9,ts.drop 1) := by unfold l0; rw [if_pos h]
theorem oth_2 {ts : List Tok} (h0 : atT 1 iU ts = false) (h : atT 1 hG ts = true) : l0 ts = .ok (10,ts.drop 1) := by unfold l0; rw [if_neg (cw h0),if_pos h]
theorem oth_3 {ts : List Tok} (h0 : atT 1 iU ts = false) (h1 : atT 1 hG ts = false) (h : atT 1 fG ts = true) : l0 ts = .ok (11,ts.drop 1) := by unfold l0; rw [if_neg (cw h0),if_neg (cw h1),if_pos h]
theorem oth_4 {ts : List Tok} (h0 : atT 1 iU ts = false) (h1 : atT 1 hG ts = false) (h2 : atT 1 fG ts = false) : l0 ts = .error (190,(hd ts).a) := by unfold l0; rw [if_neg (cw h0),if_neg (cw h1),if_neg (cw h2)]; rfl
theorem iC (xs zs cs : List Value) (h : zs.length = cs.length) : f5 (xs ++ zs) xs.length cs = xs ++ cs := by
 rw [jI cs _ _ (by rw [List.length_append,h]; exact Nat.le_refl _),List.take_left' rfl,List.drop_eq_nil_of_le (by rw [List.length_append,h]; exact Nat.le_refl _),List.append_nil]
section
variable {f d : Nat} {ts us : List Tok} {x : Flt} {s : StmtX}
theorem m6 (h : atT 1 go ts = true) : dC f d ts = eK (ts.drop 1) := by unfold dC; rw [if_pos h]
theorem jy (h0 : atT 1 go ts = false) (h : atT 1 lO ts = true) : dC f d ts = fU (ts.drop 1) := by unfold dC; rw [if_neg (cw h0),if_pos h]
theorem gP (h0 : atT 1 go ts = false) (h1 : atT 1 lO ts = false) (h : atT 1 iT ts = true) : dC f d ts = dt f d (ts.drop 1) := by unfold dC; rw [if_neg (cw h0),if_neg (cw h1),if_pos h]
theorem i6 (h0 : atT 1 go ts = false) (h1 : atT 1 lO ts = false) (h2 : atT 1 iT ts = false) (h : atT 1 jN ts = true) : dC f d ts = dH f d (ts.drop 1) := by unfold dC; rw [if_neg (cw h0),if_neg (cw h1),if_neg (cw h2),if_pos h]
theorem gR (h0 : atT 1 go ts = false) (h1 : atT 1 lO ts = false) (h2 : atT 1 iT ts = false) (h3 : atT 1 jN ts = false) (h : atT 1 kH ts = true) : dC f d ts = du f d (ts.drop 1) := by unfold dC; rw [if_neg (cw h0),if_neg (cw h1),if_neg (cw h2),if_neg (cw h3),if_pos h]
theorem tm (h0 : atT 1 go ts = false) (h1 : atT 1 lO ts = false) (h2 : atT 1 iT ts = false) (h3 : atT 1 jN ts = false) (h4 : atT 1 kH ts = false) (h5 : atT 1 hD ts = false) : dC f d ts = match l0 ts with | .error x => .error x | .ok (k,us) => .ok ({ StmtX.zero with k := k },us) := by
 unfold dC l0; rw [if_neg (cw h0),if_neg (cw h1),if_neg (cw h2),if_neg (cw h3),if_neg (cw h4),if_neg (cw h5)]
 by_cases k1 : atT 1 iU ts = true
 · rw [if_pos k1,if_pos k1]
 rw [if_neg k1,if_neg k1]
 by_cases k2 : atT 1 hG ts = true
 · rw [if_pos k2,if_pos k2]
 rw [if_neg k2,if_neg k2]
 by_cases k3 : atT 1 fG ts = true
 · rw [if_pos k3,if_pos k3]
 · rw [if_neg k3,if_neg k3]; rfl
end
theorem ol {f d m n : Nat} {l : List (List Ex)} {r : List Ex} {V us : List Tok} {F : PT (List (List Ex))} (hk : F = cN f d (m + 1) l V) (h : inP eF (fT f d) V = .ok (r,us)) :
  F = (if n + 1 = 0 ∨ atT 4 [44] us = true then cN f d m (l ++ [r]) (if n + 1 = 0 then us else us.drop 1) else .ok (l ++ [r],us)) := by
 rw [hk]
 cases hc : atT 4 [44] us with
 | true => rw [m0 h hc,if_pos (.inr rfl),if_neg (Nat.succ_ne_zero n)]
 | false => rw [og h hc,if_neg (by rintro (e | e); exact Nat.succ_ne_zero n e; cases e)]
section
variable {f d : Nat} {ts us t1 t2 : List Tok} {x : Flt} {l : List (List Ex)} {m : List SetX} {e : Ex}
theorem drop_t1 (h : atT 1 ea ts = true) (h2 : nmT (ts.drop 1) = false) : fU ts = .error (190,(hd (ts.drop 1)).a) := by unfold fU; rw [if_pos h]; simp only [eg h2]
theorem drop_t2 (h : atT 1 ea ts = true) (h2 : nmT (ts.drop 1) = true) : fU ts = .ok ({ StmtX.zero with k := 2,t := (hd (ts.drop 1)).t },(ts.drop 1).drop 1) := by unfold fU; rw [if_pos h]; simp only [bQ h2]
theorem drop_i1 (h : atT 1 ea ts = false) (h1 : atT 1 eb ts = false) : fU ts = .error (190,(hd ts).a) := by unfold fU; rw [if_neg (cw h)]; simp only [fm h1]
theorem drop_i2 (h : atT 1 ea ts = false) (h1 : atT 1 eb ts = true) (h2 : nmT (ts.drop 1) = false) : fU ts = .error (190,(hd (ts.drop 1)).a) := by unfold fU; rw [if_neg (cw h)]; simp only [cf h1,eg h2]
theorem drop_i3 (h : atT 1 ea ts = false) (h1 : atT 1 eb ts = true) (h2 : nmT (ts.drop 1) = true) : fU ts = .ok ({ StmtX.zero with k := 4,n := (hd (ts.drop 1)).t },(ts.drop 1).drop 1) := by unfold fU; rw [if_neg (cw h)]; simp only [cf h1,bQ h2]
theorem ins_1 (h : atT 1 jq ts = false) : dt f d ts = .error (190,(hd ts).a) := by unfold dt; rw [fm h]
theorem ins_2 (h : atT 1 jq ts = true) (h2 : nmT (ts.drop 1) = false) : dt f d ts = .error (190,(hd (ts.drop 1)).a) := by unfold dt; rw [cf h]; simp only [eg h2]
theorem ins_3 (h : atT 1 jq ts = true) (h2 : nmT (ts.drop 1) = true) (h3 : atT 1 gp ((ts.drop 1).drop 1) = false) : dt f d ts = .error (190,(hd ((ts.drop 1).drop 1)).a) := by unfold dt; rw [cf h]; simp only [bQ h2,fm h3]
theorem ins_4 (h : atT 1 jq ts = true) (h2 : nmT (ts.drop 1) = true) (h3 : atT 1 gp ((ts.drop 1).drop 1) = true) (h4 : cN f d (((ts.drop 1).drop 1).drop 1).length [] (((ts.drop 1).drop 1).drop 1) = .error x) : dt f d ts = .error x := by unfold dt; rw [cf h]; simp only [bQ h2,cf h3,h4]
theorem ins_5 (h : atT 1 jq ts = true) (h2 : nmT (ts.drop 1) = true) (h3 : atT 1 gp ((ts.drop 1).drop 1) = true) (h4 : cN f d (((ts.drop 1).drop 1).drop 1).length [] (((ts.drop 1).drop 1).drop 1) = .ok (l,us)) : dt f d ts = .ok ({ StmtX.zero with k := 5,t := (hd (ts.drop 1)).t,rows := l },us) := by unfold dt; rw [cf h]; simp only [bQ h2,cf h3,h4]
theorem del_1 (h : atT 1 fS ts = false) : dH f d ts = .error (190,(hd ts).a) := by unfold dH; rw [fm h]
theorem del_2 (h : atT 1 fS ts = true) (h2 : nmT (ts.drop 1) = false) : dH f d ts = .error (190,(hd (ts.drop 1)).a) := by unfold dH; rw [cf h]; simp only [eg h2]
theorem del_3 (h : atT 1 fS ts = true) (h2 : nmT (ts.drop 1) = true) (h3 : cF f d ((ts.drop 1).drop 1) = .error x) : dH f d ts = .error x := by unfold dH; rw [cf h]; simp only [bQ h2,h3]
theorem del_4 (h : atT 1 fS ts = true) (h2 : nmT (ts.drop 1) = true) (h3 : cF f d ((ts.drop 1).drop 1) = .ok (e,us)) : dH f d ts = .ok ({ StmtX.zero with k := 6,t := (hd (ts.drop 1)).t,wh := e },us) := by unfold dH; rw [cf h]; simp only [bQ h2,h3]
theorem upd_1 (h : nmT ts = false) : du f d ts = .error (190,(hd ts).a) := by unfold du; rw [eg h]
theorem upd_2 (h : nmT ts = true) (h2 : atT 1 setB (ts.drop 1) = false) : du f d ts = .error (190,(hd (ts.drop 1)).a) := by unfold du; rw [bQ h]; simp only [fm h2]
theorem upd_3 (h : nmT ts = true) (h2 : atT 1 setB (ts.drop 1) = true) (h3 : cz nmT (gK f d) 17 0 [] ((ts.drop 1).drop 1) = .error x) : du f d ts = .error x := by unfold du; rw [bQ h]; simp only [cf h2,h3]
theorem upd_4 (h : nmT ts = true) (h2 : atT 1 setB (ts.drop 1) = true) (h3 : cz nmT (gK f d) 17 0 [] ((ts.drop 1).drop 1) = .ok (m,t1)) (h4 : cF f d t1 = .error x) : du f d ts = .error x := by unfold du; rw [bQ h]; simp only [cf h2,h3,h4]
theorem upd_5 (h : nmT ts = true) (h2 : atT 1 setB (ts.drop 1) = true) (h3 : cz nmT (gK f d) 17 0 [] ((ts.drop 1).drop 1) = .ok (m,t1)) (h4 : cF f d t1 = .ok (e,us)) : du f d ts = .ok ({ StmtX.zero with k := 7,t := (hd ts).t,sets := m,wh := e },us) := by unfold du; rw [bQ h]; simp only [cf h2,h3,h4]
end
section
variable {f d : Nat} {ts us : List Tok}
theorem jS {τ : Type} {can : List Tok → Bool} {one : List τ → List Tok → PT (List τ)} {l : List τ} (ho : ∀ s us s' us',Good us → one s us = .ok (s',us') → Cuts us us') (hg : Good ts) (h : inP can one ts = .ok (l,us)) : Cuts ts us := by
 cases h1 : atT 4 [40] ts with
 | false => rw [qo h1] at h; cases h
 | true =>
  have c1 := aO (Cuts.refl hg) (by decide) h1
  cases h2 : cz can one 17 0 [] (ts.drop 1) with
  | error x => rw [qp h1 h2] at h; cases h
  | ok r =>
   obtain ⟨m,vs⟩ := r
   have c2 := c1.trans (cT ho _ _ _ _ _ _ c1.2 h2)
   cases h3 : atT 4 [41] vs with
   | false => rw [qq h1 h2 h3] at h; cases h
   | true =>
    rw [qr h1 h2 h3] at h
    simp only [Except.ok.injEq,Prod.mk.injEq] at h
    rw [← h.2]; exact aO c2 (by decide) h3
theorem lk : ∀ (k : Nat) (l l' : List (List Ex)) (ts us : List Tok),Good ts → cN f d k l ts = .ok (l',us) → Cuts ts us
 | 0,l,l',ts,us,hg,h => by
  simp only [cN,Except.ok.injEq,Prod.mk.injEq] at h
  rw [← h.2]; exact Cuts.refl hg
 | k + 1,l,l',ts,us,hg,h => by
  cases h1 : inP eF (fT f d) ts with
  | error x => rw [ke h1] at h; cases h
  | ok r =>
   obtain ⟨r,vs⟩ := r
   have c1 := jS (fun _ _ _ _ hg h => gO hg h) hg h1
   cases h2 : atT 4 [44] vs with
   | false =>
    rw [og h1 h2] at h
    simp only [Except.ok.injEq,Prod.mk.injEq] at h
    rw [← h.2]; exact c1
   | true =>
    rw [m0 h1 h2] at h
    have c2 := aO c1 (by decide) h2
    exact c2.trans (lk k _ _ _ _ c2.2 h)
theorem m7 {q : QryX} (hg : Good ts) (h : cI f d ts = .ok (q,us)) : Cuts ts us := by
 unfold cI at h
 have c0 := n7 hg
 cases h1 : e9 f d (cG ts) with
 | error x => simp only [h1] at h; cases h
 | ok r =>
  obtain ⟨its,t1⟩ := r
  simp only [h1] at h
  have c1 := c0.trans (n6 c0.2 h1)
  cases h2 : dW f d t1 with
  | error x => simp only [h2] at h; cases h
  | ok r =>
   obtain ⟨fr,t2⟩ := r
   simp only [h2] at h
   have c2 := c1.trans (n9 c1.2 h2)
   cases h3 : cF f d t2 with
   | error x => simp only [h3] at h; cases h
   | ok r =>
    obtain ⟨wh,t3⟩ := r
    simp only [h3] at h
    have c3 := c2.trans (eL c2.2 h3)
    cases h4 : dx t3 with
    | error x => simp only [h4] at h; cases h
    | ok r =>
     obtain ⟨os,t4⟩ := r
     simp only [h4] at h
     have c4 := c3.trans (mP c3.2 h4)
     cases h5 : ee t4 with
     | error x => simp only [h5] at h; cases h
     | ok r =>
      obtain ⟨⟨li,lim⟩,t5⟩ := r
      simp only [h5,Except.ok.injEq,Prod.mk.injEq] at h
      rw [← h.2]; exact c4.trans (mQ c4.2 h5)
theorem fH {s : List UInt8} (hg : Good ts) (h : bI s ts = .ok us) : Cuts ts us := by
 cases h1 : atT 1 s ts with
 | false => rw [fm h1] at h; cases h
 | true => rw [cf h1] at h; cases h; exact aO (Cuts.refl hg) (by decide) h1
theorem qt {s : StmtX} (hg : Good ts) (h : eK ts = .ok (s,us)) : Cuts ts us := by
 cases h0 : atT 1 ea ts with
 | true =>
  rw [cr_t h0] at h
  have c0 := aO (Cuts.refl hg) (by decide) h0
  cases h1 : bj (ts.drop 1) with
  | error x => simp only [h1] at h; cases h
  | ok r =>
   obtain ⟨t,t1⟩ := r
   simp only [h1] at h
   have c1 := c0.trans (bs c0.2 h1)
   cases h2 : inP nmT jr t1 with
   | error x => simp only [h2] at h; cases h
   | ok r =>
    obtain ⟨l,t2⟩ := r
    simp only [h2,Except.ok.injEq,Prod.mk.injEq] at h
    rw [← h.2]; exact c1.trans (jS (fun _ _ _ _ hg h => jw hg h) c1.2 h2)
 | false =>
  rw [cr_i h0] at h
  have c0 : Cuts ts (if atT 1 cO ts = true then ts.drop 1 else ts) := by
   split
   · rename_i h0; exact aO (Cuts.refl hg) (by decide) h0
   · exact Cuts.refl hg
  cases h1 : bI eb (if atT 1 cO ts = true then ts.drop 1 else ts) with
  | error x => simp only [h1] at h; cases h
  | ok t1 =>
   simp only [h1] at h
   have c1 := c0.trans (fH c0.2 h1)
   cases h2 : bj t1 with
   | error x => simp only [h2] at h; cases h
   | ok r =>
    obtain ⟨n,t2⟩ := r
    simp only [h2] at h
    have c2 := c1.trans (bs c1.2 h2)
    cases h3 : bI onB t2 with
    | error x => simp only [h3] at h; cases h
    | ok t3 =>
     simp only [h3] at h
     have c3 := c2.trans (fH c2.2 h3)
     cases h4 : bj t3 with
     | error x => simp only [h4] at h; cases h
     | ok r =>
      obtain ⟨t,t4⟩ := r
      simp only [h4] at h
      have c4 := c3.trans (bs c3.2 h4)
      cases h5 : inP nmT onP t4 with
      | error x => simp only [h5] at h; cases h
      | ok r =>
       obtain ⟨l,t5⟩ := r
       simp only [h5,Except.ok.injEq,Prod.mk.injEq] at h
       rw [← h.2]; exact c4.trans (jS (fun _ _ _ _ hg h => kP hg h) c4.2 h5)
theorem lm {s : StmtX} (hg : Good ts) (h : dC f d ts = .ok (s,us)) : Cuts ts us := by
 have cut : ∀ {w : List UInt8},atT 1 w ts = true → Cuts ts (ts.drop 1) := fun hw => aO (Cuts.refl hg) (by decide) hw
 unfold dC at h
 split at h
 · rename_i h0; exact (cut h0).trans (qt (cut h0).2 h)
 split at h
 · rename_i h0
   have c0 := cut h0
   unfold fU at h
   split at h
   · rename_i h1
     have c1 := aO c0 (by decide) h1
     cases h2 : bj ((ts.drop 1).drop 1) with
     | error x => simp only [h2] at h; cases h
     | ok r =>
      obtain ⟨t,t1⟩ := r
      simp only [h2,Except.ok.injEq,Prod.mk.injEq] at h
      rw [← h.2]; exact c1.trans (bs c1.2 h2)
   · cases h1 : bI eb (ts.drop 1) with
     | error x => simp only [h1] at h; cases h
     | ok t1 =>
      simp only [h1] at h
      have c1 := c0.trans (fH c0.2 h1)
      cases h2 : bj t1 with
      | error x => simp only [h2] at h; cases h
      | ok r =>
       obtain ⟨t,t2⟩ := r
       simp only [h2,Except.ok.injEq,Prod.mk.injEq] at h
       rw [← h.2]; exact c1.trans (bs c1.2 h2)
 split at h
 · rename_i h0
   have c0 := cut h0
   unfold dt at h
   cases h1 : bI jq (ts.drop 1) with
   | error x => simp only [h1] at h; cases h
   | ok t1 =>
    simp only [h1] at h
    have c1 := c0.trans (fH c0.2 h1)
    cases h2 : bj t1 with
    | error x => simp only [h2] at h; cases h
    | ok r =>
     obtain ⟨t,t2⟩ := r
     simp only [h2] at h
     have c2 := c1.trans (bs c1.2 h2)
     cases h3 : bI gp t2 with
     | error x => simp only [h3] at h; cases h
     | ok t3 =>
      simp only [h3] at h
      have c3 := c2.trans (fH c2.2 h3)
      cases h4 : cN f d t3.length [] t3 with
      | error x => simp only [h4] at h; cases h
      | ok r =>
       obtain ⟨l,t4⟩ := r
       simp only [h4,Except.ok.injEq,Prod.mk.injEq] at h
       rw [← h.2]; exact c3.trans (lk _ _ _ _ _ c3.2 h4)
 split at h
 · rename_i h0
   have c0 := cut h0
   unfold dH at h
   cases h1 : bI fS (ts.drop 1) with
   | error x => simp only [h1] at h; cases h
   | ok t1 =>
    simp only [h1] at h
    have c1 := c0.trans (fH c0.2 h1)
    cases h2 : bj t1 with
    | error x => simp only [h2] at h; cases h
    | ok r =>
     obtain ⟨t,t2⟩ := r
     simp only [h2] at h
     have c2 := c1.trans (bs c1.2 h2)
     cases h3 : cF f d t2 with
     | error x => simp only [h3] at h; cases h
     | ok r =>
      obtain ⟨e,t3⟩ := r
      simp only [h3,Except.ok.injEq,Prod.mk.injEq] at h
      rw [← h.2]; exact c2.trans (eL c2.2 h3)
 split at h
 · rename_i h0
   have c0 := cut h0
   unfold du at h
   cases h2 : bj (ts.drop 1) with
   | error x => simp only [h2] at h; cases h
   | ok r =>
    obtain ⟨t,t2⟩ := r
    simp only [h2] at h
    have c2 := c0.trans (bs c0.2 h2)
    cases h1 : bI setB t2 with
    | error x => simp only [h1] at h; cases h
    | ok t1 =>
     simp only [h1] at h
     have c1 := c2.trans (fH c2.2 h1)
     cases h4 : cz nmT (gK f d) 17 0 [] t1 with
     | error x => simp only [h4] at h; cases h
     | ok r =>
      obtain ⟨l,t4⟩ := r
      simp only [h4] at h
      have c4 := c1.trans (cT (fun _ _ _ _ hg h => jx hg h) _ _ _ _ _ _ c1.2 h4)
      cases h3 : cF f d t4 with
      | error x => simp only [h3] at h; cases h
      | ok r =>
       obtain ⟨e,t3⟩ := r
       simp only [h3,Except.ok.injEq,Prod.mk.injEq] at h
       rw [← h.2]; exact c4.trans (eL c4.2 h3)
 split at h
 · rename_i h0
   have c0 := cut h0
   unfold fa at h
   cases h1 : cI f d (ts.drop 1) with
   | error x => simp only [h1] at h; cases h
   | ok r =>
    obtain ⟨q,t1⟩ := r
    simp only [h1,Except.ok.injEq,Prod.mk.injEq] at h
    rw [← h.2]; exact c0.trans (m7 c0.2 h1)
 split at h
 · rename_i h0; simp only [Except.ok.injEq,Prod.mk.injEq] at h; rw [← h.2]; exact cut h0
 split at h
 · rename_i h0; simp only [Except.ok.injEq,Prod.mk.injEq] at h; rw [← h.2]; exact cut h0
 split at h
 · rename_i h0; simp only [Except.ok.injEq,Prod.mk.injEq] at h; rw [← h.2]; exact cut h0
 · cases h
end
end Go.WK
namespace Go.WK.MP
open Go.RowKit Go.WK
inductive OT where
 | nil
 | fix (i : Nat) (t : OT)
 | op (i : Nat) (t : OT)
 | two (i j : Nat) (s t : OT)
def OT.len : OT → Nat
 | .nil => 0
 | .fix _ t => t.len + 1
 | .op _ t => t.len + 1
 | .two _ _ s _ => s.len + 1
def OT.noFix : OT → Bool
 | .nil => true
 | .fix _ _ => false
 | .op _ t => t.noFix
 | .two _ _ s t => s.noFix && t.noFix
def mixT (md : Region.Mode) (ops : Array Oper) (loose : List Nat) : OT → Array Bool → Bool
 | .nil,listed => (Region.ready md ops listed).isEmpty
 | .fix i l,listed => (Region.ready md ops listed).contains i && (Region.free md ops listed i && (loose.all (fun j => (lE md i ops.toList #[]).getD j false) && mixT md ops loose l (listed.setIfInBounds i true)))
 | .op i l,listed => Region.ready md ops listed == [i] && ((!loose.contains i || l.noFix) && mixT md ops loose l (listed.setIfInBounds i true))
 | .two i j s t,listed => Region.ready md ops listed == [i,j] && ((!loose.contains i || s.noFix) && ((!loose.contains j || t.noFix) && (s.len == t.len && (mixT md ops loose s (listed.setIfInBounds i true) && mixT md ops loose t (listed.setIfInBounds j true)))))
def mixTB (md : Region.Mode) (ops : Array Oper) (loose : List Nat) (l : OT) : Bool := Region.noSelect ops && ((l.len == ops.size) && mixT md ops loose l (Array.replicate ops.size false))
section
variable {P : Program} {ops : Array Oper} {md : Region.Mode} {C : World → Prop} {kp : Nat → Bool} {K : List PanicEntry → Act → World → Prop}
def ef (P : Program) (ops : Array Oper) (C : World → Prop) (loose : List Nat) (K : List PanicEntry → Act → World → Prop) (Q : Act → World → Prop) : OT → Act → World → Prop
 | .nil,a,w => Q a w
 | .fix i l,a,w => ∃ o v,ops[i]? = some o ∧ YieldsF P ops C o v a ∧ ∀ w',Chg [] w w' → ef P ops C loose K Q l (a.put o.dst v) w'
 | .op i l,a,w => wpOp P ops (pEx K) i (fun a' w' => ((!loose.contains i) = true → C w') ∧ ∀ w'',adv (!loose.contains i) w' w'' → ef P ops C loose K Q l a' w'') a w
 | .two i j s t,a,w => wpOp P ops (pEx K) i (fun a' w' => ((!loose.contains i) = true → C w') ∧ ∀ w'',adv (!loose.contains i) w' w'' → ef P ops C loose K Q s a' w'') a w ∧
   wpOp P ops (pEx K) j (fun a' w' => ((!loose.contains j) = true → C w') ∧ ∀ w'',adv (!loose.contains j) w' w'' → ef P ops C loose K Q t a' w'') a w
theorem cj (hK : ∀ ch a i v w,K ch (a.put i v) w → K ch a w) {Q : Act → World → Prop} {loose : List Nat} (hs : Region.noSelect ops = true) (hext : ∀ w w',C w → Chg [] w w' → C w') : ∀ (l : OT) (listed : Array Bool) (a : Act) (w : World),
  mixT md ops loose l listed = true → Shut md ops listed → (l.noFix = false → C w) → ef P ops C loose K Q l a w → dF P md ops C (fun j => !loose.contains j) K Q l.len listed a w
 | .nil,_,_,_,hB,_,_,h => ⟨by simpa [mixT] using hB,h⟩
 | .fix i l,listed,a,w,hB,hcl,hC,h => by
  obtain ⟨o,v,hi,hy,hk⟩ := h
  simp only [mixT,Bool.and_eq_true] at hB
  obtain ⟨hr,hf,hk',hB'⟩ := hB
  have hCw := hC rfl
  refine eY hK hi (Region.noSelect_spec hs) hext (fun lst j hs' hi' hji hj => ?_) l.len listed a w hcl (Region.free_spec hi hf) (by simpa using hr) hy hCw
   (fun w' hw' => cj hK hs hext l _ _ w' hB' (hcl.set (by simpa using hr)) (fun _ => hext _ _ hCw hw') (hk w' hw'))
  cases hc : loose.contains j with
  | false => rfl
  | true => exact absurd hj (la hs' hi' hji (List.all_eq_true.1 hk' j (by simpa using hc)))
 | .op i l,listed,a,w,hB,hcl,hC,h => by
  simp only [mixT,Bool.and_eq_true,beq_iff_eq] at hB
  obtain ⟨hr,hl,hB'⟩ := hB
  show dF P md ops C _ K Q (l.len + 1) listed a w
  refine ⟨fun h0 => (by rw [hr] at h0; cases h0),fun j hj => ?_⟩
  rw [hr] at hj
  obtain rfl : j = i := by simpa using hj
  refine wpOp_mono (fun a' w' h' => ⟨h'.1,fun w'' hw'' => cj hK hs hext l _ a' w'' hB' (hcl.set (by rw [hr]; exact List.mem_cons_self)) (fun hnf => ?_) (h'.2 w'' hw'')⟩) h
  rw [hnf,Bool.or_false] at hl
  exact hext _ _ (h'.1 hl) (cS hw'')
 | .two i j s t,listed,a,w,hB,hcl,hC,h => by
  simp only [mixT,Bool.and_eq_true,beq_iff_eq] at hB
  obtain ⟨hr,hl1,hl2,hlen,hB1,hB2⟩ := hB
  show dF P md ops C _ K Q (s.len + 1) listed a w
  refine ⟨fun h0 => (by rw [hr] at h0; cases h0),fun k hk => ?_⟩
  rw [hr] at hk
  have hk : k = i ∨ k = j := by simpa using hk
  rcases hk with rfl | rfl
  · refine wpOp_mono (fun a' w' h' => ⟨h'.1,fun w'' hw'' => cj hK hs hext s _ a' w'' hB1 (hcl.set (by rw [hr]; exact List.mem_cons_self)) (fun hnf => ?_) (h'.2 w'' hw'')⟩) h.1
    rw [hnf,Bool.or_false] at hl1
    exact hext _ _ (h'.1 hl1) (cS hw'')
  · rw [hlen]
    refine wpOp_mono (fun a' w' h' => ⟨h'.1,fun w'' hw'' => cj hK hs hext t _ a' w'' hB2 (hcl.set (by rw [hr]; exact List.mem_cons_of_mem _ List.mem_cons_self)) (fun hnf => ?_) (h'.2 w'' hw'')⟩) h.2
    rw [hnf,Bool.or_false] at hl2
    exact hext _ _ (h'.1 hl2) (cS hw'')
end
section
variable {cx : Cx} {fs : aV} {H C : List Chunk} {Q : ck} {ops : Array Oper} {loose : List Nat} {ord s t : OT}
def iX (cx : Cx) (C : List Chunk) (ops : Array Oper) (loose : List Nat) (fs : aV) (H : List Chunk) (ord : OT) (Q : ck) : Prop :=
 ∀ a w,Has cx.n cx.ds fs a → Sat cx H w → ef cx.P ops (Sat cx C) loose (pK cx Q) (fun a w => gA cx Q .normal a w) ord a w
theorem mW {id : Nat} {l : List Oper} (C : List Chunk) (ord : OT) (loose : List Nat) (hm : cx.P.follows .mixedOrders = true) (hB : mixTB .any l.toArray loose ord = true) (hC : ∀ w,Sat cx H w → Sat cx C w)
  (h : iX cx C l.toArray loose fs H ord Q) : Tri cx fs H (.region id l.toArray true) Q := fun a w ha hw => by
 simp only [mixTB,Bool.and_eq_true,beq_iff_eq] at hB
 have h1 := cj (K := pK cx Q) (fun ch a i v w => pK_put ch a i v w) hB.1 (fun w w' h k => h.ext k) ord _ a _ hB.2.2 (fun j oj _ hj => by rw [eX] at hj; cases hj) (fun _ => hC _ hw.drew) (h a _ ha hw.drew)
 rw [hB.2.1] at h1
 exact wp_region_any hm (dG (fun ch a w hk => ⟨[],[],⟨hk.1.1,hk.1.2,fun d v hd => by cases hd⟩,hk.2.1,hk.2.2⟩) _ _ _ _ h1)
theorem fi (h : Q .normal fs H) : iX cx C ops loose fs H .nil Q := fun _ _ ha hw => ⟨fs,H,ha,hw,h⟩
theorem fY {i : Nat} {o : Oper} (hi : ops[i]? = some o) (h : TriX true cx ops fs C [o] (fun e fs' _ => e = .normal ∧ iX cx C ops loose fs' H ord Q)) : iX cx C ops loose fs H (.fix i ord) Q := fun a w ha hw => by
 have h1 := h a ha
 unfold eC at h1
 by_cases hw' : Region.wanted o (yielded ops a.tmps) = true
 · rw [if_pos hw'] at h1
   obtain ⟨v,h2,fs',h3,_,h4⟩ := h1
   exact ⟨o,v,hi,.inl ⟨hw',h2⟩,fun w' hc => h4 _ w' h3 (hw.ext hc)⟩
 · rw [if_neg hw'] at h1
   obtain ⟨fs',h3,_,h4⟩ := h1
   exact ⟨o,undef,hi,.inr ⟨by simpa using hw',rfl⟩,fun w' hc => h4 _ w' h3 (hw.ext hc)⟩
abbrev mqT (cx : Cx) (C : List Chunk) (ops : Array Oper) (loose : List Nat) (i : Nat) (ord : OT) (Q : ck) : ck := mq Q fun fs' H' => ((!loose.contains i) = true → ∀ w,Sat cx H' w → Sat cx C w) ∧ iX cx C ops loose fs' H' ord Q
theorem r8 {i : Nat} {o : Oper} (hi : ops[i]? = some o) (h : TriX false cx ops fs H [o] (mqT cx C ops loose i ord Q)) {a : Act} {w : World} (ha : Has cx.n cx.ds fs a) (hw : Sat cx H w) :
  wpOp cx.P ops (pEx (pK cx Q)) i (fun a' w' => ((!loose.contains i) = true → Sat cx C w') ∧ ∀ w'',adv (!loose.contains i) w' w'' → ef cx.P ops (Sat cx C) loose (pK cx Q) (fun a w => gA cx Q .normal a w) ord a' w'') a w := by
 have h1 := h a w ha hw
 unfold wpList at h1
 unfold wpOp
 simp only [hi]
 have key : ∀ a' w',wpList cx.P ops (gA cx (mqT cx C ops loose i ord Q)) [] a' w' →
   ((!loose.contains i) = true → Sat cx C w') ∧ ∀ w'',adv (!loose.contains i) w' w'' → ef cx.P ops (Sat cx C) loose (pK cx Q) (fun a w => gA cx Q .normal a w) ord a' w'' := by
  rintro a' w' ⟨fs',H',h2,h3,h4,h5⟩
  exact ⟨fun hk => h4 hk _ h3,fun w'' hc => h5 _ _ h2 (h3.ext (cS hc))⟩
 split
 · rename_i hw'
   rw [if_pos hw'] at h1
   rcases h1 with h1 | ⟨_,a',w',fs',H',_,_,h2⟩
   · refine .inl (ep key (fun ch a w ⟨fs',H',h2,h3,h4⟩ => ⟨⟨h2.ds,h2.size⟩,h3.sublist (List.nil_sublist _),h4⟩) (fun _ _ ⟨_,_,_,_,h⟩ => h.elim) _ h1)
   · exact h2.elim
 · rename_i hw'
   rw [if_neg hw'] at h1
   exact key _ _ h1
theorem dc {i : Nat} {o : Oper} (hi : ops[i]? = some o) (h : TriX false cx ops fs H [o] (mqT cx C ops loose i ord Q)) : iX cx C ops loose fs H (.op i ord) Q := fun _ _ ha hw => r8 hi h ha hw
theorem gN {i j : Nat} {o p : Oper} (hi : ops[i]? = some o) (hj : ops[j]? = some p) (h : TriX false cx ops fs H [o] (mqT cx C ops loose i s Q)) (k : TriX false cx ops fs H [p] (mqT cx C ops loose j t Q)) : iX cx C ops loose fs H (.two i j s t) Q := fun _ _ ha hw =>
 ⟨r8 hi h ha hw,r8 hj k ha hw⟩
end
end Go.WK.MP
namespace Go.WK
open Go.RowKit Lib
theorem kQ : ∀ (b : Bool) (q : List UInt8),bU b (q.take (bU b q)) = bU b q
 | _,[] => by simp [bU]
 | true,c :: l => by
  by_cases h : c = 10
  · have e : bU true (c :: l) = 1 + bU false l := by rw [bU,if_pos h]
    rw [e,Nat.add_comm,List.take_succ_cons,bU,if_pos h,kQ false l,Nat.add_comm]
  · have e : bU true (c :: l) = 1 + bU true l := by rw [bU,if_neg h]
    rw [e,Nat.add_comm,List.take_succ_cons,bU,if_neg h,kQ true l,Nat.add_comm]
 | false,c :: l => by
  by_cases h : isBl c = true
  · have e : bU false (c :: l) = 1 + bU false l := by rw [bU,if_pos h]
    rw [e,Nat.add_comm,List.take_succ_cons,bU,if_pos h,kQ false l,Nat.add_comm]
  · by_cases h2 : c = 45 ∧ l.head? = some 45
    · have e : bU false (c :: l) = 1 + bU true l := by rw [bU,if_neg h,if_pos h2]
      have hh : (l.take (bU true l)).head? = some 45 := by
       cases l with
       | nil => cases h2.2
       | cons d l =>
        have : ∃ k,bU true (d :: l) = k + 1 := by
         rw [bU]; split
         · exact ⟨_,Nat.add_comm _ _⟩
         · exact ⟨_,Nat.add_comm _ _⟩
        obtain ⟨k,hk⟩ := this
        rw [hk,List.take_succ_cons]; exact h2.2
      rw [e,Nat.add_comm,List.take_succ_cons,bU,if_neg h,if_pos ⟨h2.1,hh⟩,kQ true l,Nat.add_comm]
    · have e : bU false (c :: l) = 0 := by rw [bU,if_neg h,if_neg h2]
      rw [e]; rfl
theorem lexP_cut (k : Nat) : ∀ (f f' o : Nat) (q : List UInt8) (ts : List Tok),fw f o q = .ok ts → k < ts.length → q.length < f → q.length < f' →
    ∃ j : Nat,(ts.getD k ⟨0,[],0⟩).a = ((o + j : Nat) : Int) ∧ j ≤ q.length ∧ fw f' o (q.take j) = .ok (ts.take k ++ [⟨5,[],((o + j : Nat) : Int)⟩]) := by
  induction k with
  | zero =>
    intro f f' o q ts h hk hf hf'
    obtain ⟨f,rfl⟩ : ∃ k,f = k + 1 := ⟨f - 1,by omega⟩
    obtain ⟨f',rfl⟩ : ∃ k,f' = k + 1 := ⟨f' - 1,by omega⟩
    refine ⟨gap q, ?_,gl _ _, ?_⟩
    · cases hq : q.drop (gap q) with
      | nil => rw [iw hq] at h; cases h; rfl
      | cons c l =>
        rw [eN hq] at h
        split at h
        · cases h
        · cases hx : fw f (o + gap q + (aU (c :: l)).n) ((c :: l).drop (aU (c :: l)).n) with
          | error p => rw [hx] at h; cases h
          | ok ts' => rw [hx] at h; cases h; rfl
    · have hg : gap (q.take (gap q)) = gap q := kQ false q
      have hd : (q.take (gap q)).drop (gap (q.take (gap q))) = [] := by rw [hg]; exact List.drop_eq_nil_of_le (by rw [List.length_take]; exact Nat.min_le_left _ _)
      rw [iw hd,hg]; rfl
  | succ k ih =>
    intro f f' o q ts h hk hf hf'
    obtain ⟨f,rfl⟩ : ∃ k,f = k + 1 := ⟨f - 1,by omega⟩
    obtain ⟨f',rfl⟩ : ∃ k,f' = k + 1 := ⟨f' - 1,by omega⟩
    cases hq : q.drop (gap q) with
    | nil => rw [iw hq] at h; cases h; simp at hk
    | cons c l =>
      rw [eN hq] at h
      split at h
      · cases h
      · rename_i he
        have he : (aU (c :: l)).e = 0 := Decidable.not_not.1 he
        have hn := e8 he
        cases hx : fw f (o + gap q + (aU (c :: l)).n) ((c :: l).drop (aU (c :: l)).n) with
        | error p => rw [hx] at h; cases h
        | ok ts' =>
          rw [hx] at h
          cases h
          have hqs : q = q.take (gap q) ++ c :: l := by rw [← hq]; exact (List.take_append_drop _ _).symm
          have hgl : (q.take (gap q)).length = gap q := by rw [List.length_take]; exact Nat.min_eq_left (gl _ _)
          have hql : q.length = gap q + (l.length + 1) := by
            have := congrArg List.length hq
            simp only [List.length_drop,List.length_cons] at this
            have := gl false q
            omega
          have hlen : ((c :: l).drop (aU (c :: l)).n).length = l.length + 1 - (aU (c :: l)).n := by simp only [List.length_drop,List.length_cons]
          obtain ⟨j,hj1,hj2,hj3⟩ := ih f f' _ _ ts' hx (by simpa using hk) (by omega) (by omega)
          refine ⟨gap q + ((aU (c :: l)).n + j), ?_,by omega, ?_⟩
          · show (ts'.getD k ⟨0,[],0⟩).a = _
            rw [hj1]; omega
          · have hp : (c :: l).take (aU (c :: l)).n ≠ [] := by
              intro e
              have := congrArg List.length e
              simp only [List.length_take,List.length_cons,List.length_nil] at this; omega
            have hpl : ((c :: l).take (aU (c :: l)).n).length = (aU (c :: l)).n := by rw [List.length_take,List.length_cons]; omega
            -- the cut text's rest behind its gap
            have hcl : (c :: l).take ((aU (c :: l)).n + j) = (c :: l).take (aU (c :: l)).n ++ ((c :: l).drop (aU (c :: l)).n).take j := by rw [← List.take_add]
            have hqt : q.take (gap q + ((aU (c :: l)).n + j)) = q.take (gap q) ++ (c :: l).take ((aU (c :: l)).n + j) := by rw [List.take_add,hq]
            obtain ⟨n,hnn⟩ : ∃ n,(aU (c :: l)).n + j = n + 1 := ⟨(aU (c :: l)).n + j - 1,by omega⟩
            have hc2 : (c :: l).take ((aU (c :: l)).n + j) = c :: l.take n := by rw [hnn]; rfl
            have hg : gap (q.take (gap q + ((aU (c :: l)).n + j))) = gap q := by
              rw [hqt,hc2]
              have h1 : bU false (q.take (gap q) ++ c :: l) = (q.take (gap q)).length := by rw [← hqs,hgl]
              have := pS false _ c l (l.take n) h1 (by
                cases n with
                | zero => right; simp
                | succ n => left; cases l <;> rfl)
              rw [hgl] at this; exact this
            have hd : (q.take (gap q + ((aU (c :: l)).n + j))).drop (gap (q.take (gap q + ((aU (c :: l)).n + j)))) = c :: l.take n := by rw [hg,hqt,hc2]; exact List.drop_left' hgl
            have ht : aU (c :: l.take n) = aU (c :: l) := by
              rw [← hc2,hcl]
              have h0 : (c :: l).take (aU (c :: l)).n ++ (c :: l).drop (aU (c :: l)).n = c :: l := List.take_append_drop _ _
              have := pV (p := (c :: l).take (aU (c :: l)).n) (r := (c :: l).drop (aU (c :: l)).n) (r' := ((c :: l).drop (aU (c :: l)).n).take j) hp (by rw [h0]; exact he) (by rw [h0,hpl]) (by
                cases j with
                | zero => right; right; right; rfl
                | succ j => left; cases (c :: l).drop (aU (c :: l)).n <;> rfl)
              rw [this,h0]
            rw [eN hd,ht,if_neg (by rw [he]; decide),hg]
            have hdr : (c :: l.take n).drop (aU (c :: l)).n = ((c :: l).drop (aU (c :: l)).n).take j := by
              rw [← hc2,hcl]; exact List.drop_left' hpl
            rw [hdr,hj3]
            show Except.ok _ = Except.ok _
            rw [show o + gap q + (aU (c :: l)).n + j = o + (gap q + ((aU (c :: l)).n + j)) by omega]; rfl
theorem lex_cut {s : List UInt8} {ts : List Tok} {k : Nat} (e : cQ s = .ok ts) (hk : k < ts.length) : ∃ j : Nat,(ts.getD k Tok.zero).a = (j : Int) ∧ j ≤ s.length ∧ cQ (s.take j) = .ok (ts.take k ++ [⟨5,[],(j : Int)⟩]) := by
 obtain ⟨hl,h⟩ := iO e
 obtain ⟨j,h1,h2,h3⟩ := lexP_cut k (s.length + 1) ((s.take (ts.getD k Tok.zero).a.toNat).length + 1 + s.length) 0 s ts h hk (by omega) (by omega)
 refine ⟨j,by rw [show Tok.zero = ⟨0,[],0⟩ from rfl,h1]; omega,h2, ?_⟩
 have hlt : (s.take j).length ≤ s.length := by rw [List.length_take]; omega
 rw [sM (by omega), ← jK (f := (s.take (ts.getD k Tok.zero).a.toNat).length + 1 + s.length) (o := 0) (q := s.take j) (by omega) (by omega),h3,Nat.zero_add]
theorem uE (f : Nat) : ∀ (a : Nat) (r : List UInt8) (ts : List Tok),e7 f a r = .ok ts → ts.Pairwise (fun x y => x.a < y.a) := by
 induction f with
 | zero => intro a r ts h; cases h
 | succ f ih =>
  intro a r ts h
  cases r with
  | nil => cases h; exact List.pairwise_singleton _ _
  | cons c l =>
   unfold e7 at h
   split at h
   · cases h
   · rename_i he
     have hn := e8 (Decidable.not_not.1 he)
     cases hx : e7 f (a + (aU (c :: l)).n + gap ((c :: l).drop (aU (c :: l)).n)) (((c :: l).drop (aU (c :: l)).n).drop (gap ((c :: l).drop (aU (c :: l)).n))) with
     | error e => rw [hx] at h; cases h
     | ok ts' =>
      rw [hx] at h
      cases h
      refine List.Pairwise.cons (fun t ht => ?_) (ih _ _ _ hx)
      have := (lexR_at f _ _ _ hx t ht).1
      simp only
      omega
theorem qu {s : List UInt8} {ts : List Tok} (h : cQ s = .ok ts) : ts.Pairwise (fun x y => x.a < y.a) := uE _ _ _ _ (iO h).2
end Go.WK
namespace Go.WK.FL
open Go.RowKit Lib
abbrev PA (α : Type) := List Tok → PT α
def bg {α β : Type} (r : PT α) (f : α → PA β) : PT β := match r with
 | .error x => .error x
 | .ok (a,us) => f a us
section
variable {α β : Type}
def LocR (R : List Tok → PT α → Prop) (ts : List Tok) : PT α → Prop
 | .ok (a,us) => ∃ pre u post,ts = pre ++ u :: post ∧ us = u :: post ∧ ∀ post',R (pre ++ u :: post') (.ok (a,u :: post'))
 | .error x => ∃ pre u post,ts = pre ++ u :: post ∧ (x.2 = u.a ∧ 0 ≤ x.1) ∧ ∀ post',R (pre ++ u :: post') (.error x)
abbrev Loc (P P' : PA α) (ts : List Tok) : Prop := LocR (fun ts' r => P' ts' = r) ts (P ts)
theorem LocR.mono {R R' : List Tok → PT α → Prop} {ts : List Tok} {r : PT α} (h : LocR R ts r) (k : ∀ ts' r',R ts' r' → R' ts' r') : LocR R' ts r := by
 cases r with
 | error x => obtain ⟨pre,u,post,h1,h2,h3⟩ := h; exact ⟨pre,u,post,h1,h2,fun p => k _ _ (h3 p)⟩
 | ok r => obtain ⟨a,us⟩ := r; obtain ⟨pre,u,post,h1,h2,h3⟩ := h; exact ⟨pre,u,post,h1,h2,fun p => k _ _ (h3 p)⟩
theorem LocR.bind {R1 : List Tok → PT α → Prop} {R2 : α → List Tok → PT β → Prop} {R : List Tok → PT β → Prop} {ts : List Tok} {r1 : PT α} {f : α → PA β} (h : LocR R1 ts r1) (k : ∀ a us,r1 = .ok (a,us) → LocR (R2 a) us (f a us))
  (hok : ∀ a ts' us' r,R1 ts' (.ok (a,us')) → R2 a us' r → R ts' r) (herr : ∀ ts' x,R1 ts' (.error x) → R ts' (.error x)) : LocR R ts (bg r1 f) := by
 cases r1 with
 | error x => obtain ⟨pre,u,post,h1,h2,h3⟩ := h; exact ⟨pre,u,post,h1,h2,fun p => herr _ _ (h3 p)⟩
 | ok r =>
  obtain ⟨a,us⟩ := r
  obtain ⟨pre,u,post,h1,h2,h3⟩ := h
  have k1 := k a us rfl
  show LocR R ts (f a us)
  have key : ∀ pre2 u2 post2,us = pre2 ++ u2 :: post2 → ∀ post', ∃ p1,pre ++ u :: p1 = (pre ++ pre2) ++ u2 :: post' ∧ u :: p1 = pre2 ++ u2 :: post' := fun pre2 u2 post2 e post' => by
   cases pre2 with
   | nil =>
    have e : u :: post = u2 :: post2 := h2.symm.trans e
    refine ⟨post', ?_, ?_⟩
    · rw [List.append_nil,(List.cons.inj e).1]
    · rw [(List.cons.inj e).1]; rfl
   | cons v pre2 =>
    have e : u :: post = v :: (pre2 ++ u2 :: post2) := h2.symm.trans e
    obtain ⟨rfl,_⟩ := List.cons.inj e
    exact ⟨pre2 ++ u2 :: post',by simp,rfl⟩
  cases hr : f a us with
  | error x =>
   rw [hr] at k1
   obtain ⟨pre2,u2,post2,g1,g2,g3⟩ := k1
   refine ⟨pre ++ pre2,u2,post2,by rw [h1,List.append_assoc, ← g1,h2],g2,fun post' => ?_⟩
   obtain ⟨p1,e1,e2⟩ := key pre2 u2 post2 g1 post'
   rw [← e1]
   exact hok a _ _ _ (h3 p1) (by rw [e2]; exact g3 post')
  | ok r =>
   obtain ⟨b,vs⟩ := r
   rw [hr] at k1
   obtain ⟨pre2,u2,post2,g1,g2,g3⟩ := k1
   refine ⟨pre ++ pre2,u2,post2,by rw [h1,List.append_assoc, ← g1,h2],g2,fun post' => ?_⟩
   obtain ⟨p1,e1,e2⟩ := key pre2 u2 post2 g1 post'
   rw [← e1]
   exact hok a _ _ _ (h3 p1) (by rw [e2]; exact g3 post')
theorem Loc.seq {P P' : PA α} {Q Q' : α → PA β} {ts : List Tok} (hP : Loc P P' ts) (hQ : ∀ a us,P ts = .ok (a,us) → Loc (Q a) (Q' a) us) : Loc (fun ts => bg (P ts) Q) (fun ts => bg (P' ts) Q') ts :=
 LocR.bind hP hQ (fun a ts' us' r h1 h2 => by show bg (P' ts') Q' = r; rw [h1]; exact h2) (fun ts' x h => by show bg (P' ts') Q' = _; rw [h]; rfl)
theorem m8 {ts : List Tok} (h : Good ts) : ∃ t l,ts = t :: l := by
 cases ts with
 | nil => exact h.elim
 | cons t l => exact ⟨t,l,rfl⟩
theorem hd_app (pre : List Tok) (u : Tok) (p q : List Tok) : hd (pre ++ u :: p) = hd (pre ++ u :: q) := by cases pre <;> rfl
theorem Loc.iff {P P' Q Q' : PA α} {ts : List Tok} (h : Loc P P' ts) (h1 : Q ts = P ts) (h2 : ∀ ts',hd ts' = hd ts → Q' ts' = P' ts') : Loc Q Q' ts := by
 show LocR _ ts (Q ts)
 rw [h1]
 have h : LocR (fun ts' r => P' ts' = r) ts (P ts) := h
 cases hr : P ts with
 | error x =>
  rw [hr] at h
  obtain ⟨pre,u,post,g1,g2,g3⟩ := h
  exact ⟨pre,u,post,g1,g2,fun p => (h2 _ (by rw [g1]; exact hd_app _ _ _ _)).trans (g3 p)⟩
 | ok r =>
  obtain ⟨a,us⟩ := r
  rw [hr] at h
  obtain ⟨pre,u,post,g1,g2,g3⟩ := h
  exact ⟨pre,u,post,g1,g2,fun p => (h2 _ (by rw [g1]; exact hd_app _ _ _ _)).trans (g3 p)⟩
theorem Loc.eq {P P' Q Q' : PA α} {ts : List Tok} (h : Loc P P' ts) (h1 : ∀ ts,Q ts = P ts) (h2 : ∀ ts,Q' ts = P' ts) : Loc Q Q' ts := h.iff (h1 ts) (fun ts' _ => h2 ts')
theorem Loc.ite {A A' B B' : PA α} {ts : List Tok} {c : List Tok → Prop} [∀ ts,Decidable (c ts)] (hc : ∀ a b,hd a = hd b → (c a ↔ c b)) (hA : c ts → Loc A A' ts) (hB : ¬ c ts → Loc B B' ts) : Loc (fun ts => if c ts then A ts else B ts) (fun ts => if c ts then A' ts else B' ts) ts := by
 by_cases h : c ts
 · exact (hA h).iff (if_pos h) (fun ts' e => if_pos ((hc _ _ e).2 h))
 · exact (hB h).iff (if_neg h) (fun ts' e => if_neg (fun k => h ((hc _ _ e).1 k)))
theorem at_hd (k : Int) (s : List UInt8) : ∀ a b,hd a = hd b → (atT k s a = true ↔ atT k s b = true) := fun a b e => by unfold atT; rw [e]
theorem om : ∀ a b,hd a = hd b → (nmT a = true ↔ nmT b = true) := fun a b e => by unfold nmT; rw [e]
theorem k_hd (n : Int) : ∀ a b,hd a = hd b → ((hd a).k = n ↔ (hd b).k = n) := fun a b e => by rw [e]
theorem beg_hd : ∀ a b,hd a = hd b → (eF a = true ↔ eF b = true) := fun a b e => by rw [eF,eF,e,show nmT a = nmT b by unfold nmT; rw [e]]
theorem Loc.atI {A A' B B' : PA α} {ts : List Tok} (k : Int) (s : List UInt8) (hA : atT k s ts = true → Loc A A' ts) (hB : atT k s ts = false → Loc B B' ts) : Loc (fun ts => if atT k s ts = true then A ts else B ts) (fun ts => if atT k s ts = true then A' ts else B' ts) ts :=
 Loc.ite (at_hd k s) hA (fun h => hB (Bool.eq_false_iff.2 h))
theorem Loc.drop {A A' : PA α} {ts : List Tok} (hg : Good ts) (h : Loc A A' (ts.drop 1)) : Loc (fun ts => A (ts.drop 1)) (fun ts => A' (ts.drop 1)) ts := by
 obtain ⟨t,l,rfl⟩ := m8 hg
 have h : LocR (fun ts' r => A' ts' = r) l (A l) := h
 show LocR _ (t :: l) (A l)
 cases hr : A l with
 | error x =>
  rw [hr] at h
  obtain ⟨pre,u,post,g1,g2,g3⟩ := h
  exact ⟨t :: pre,u,post,by rw [g1]; rfl,g2,fun p => g3 p⟩
 | ok r =>
  obtain ⟨a,us⟩ := r
  rw [hr] at h
  obtain ⟨pre,u,post,g1,g2,g3⟩ := h
  exact ⟨t :: pre,u,post,by rw [g1]; rfl,g2,fun p => g3 p⟩
theorem Loc.head {A A' : Tok → PA α} {ts : List Tok} (h : Loc (A (hd ts)) (A' (hd ts)) ts) : Loc (fun ts => A (hd ts) ts) (fun ts => A' (hd ts) ts) ts := h.iff rfl (fun ts' e => by rw [e])
theorem Loc.pure {ts : List Tok} (hg : Good ts) (a : α) : Loc (fun ts => .ok (a,ts)) (fun ts => .ok (a,ts)) ts := by
 obtain ⟨t,l,rfl⟩ := m8 hg
 exact ⟨[],t,l,rfl,rfl,fun p => rfl⟩
theorem Loc.fail {ts : List Tok} (hg : Good ts) (c : Int) (hc : 0 ≤ c := by decide) : Loc (α := α) (fun ts => .error (c,(hd ts).a)) (fun ts => .error (c,(hd ts).a)) ts := by
 obtain ⟨t,l,rfl⟩ := m8 hg
 exact ⟨[],t,l,rfl,⟨rfl,hc⟩,fun p => rfl⟩
theorem Loc.bad {ts : List Tok} (hg : Good ts) : Loc (α := α) eS eS ts := Loc.fail hg 190
theorem Loc.takes {ts : List Tok} (hg : Good ts) (hd_ : Good (ts.drop 1)) (g : Tok → α) : Loc (fun ts => .ok (g (hd ts),ts.drop 1)) (fun ts => .ok (g (hd ts),ts.drop 1)) ts :=
 Loc.head (A := fun t ts => .ok (g t,ts.drop 1)) (A' := fun t ts => .ok (g t,ts.drop 1)) (Loc.drop hg (A := fun us => .ok (g (hd ts),us)) (A' := fun us => .ok (g (hd ts),us)) (Loc.pure hd_ _))
def dD {α : Type} (s : List UInt8) (ts : List Tok) (A : PA α) : PT α := match bI s ts with
 | .error x => .error x
 | .ok us => A us
def kR {α : Type} (s : List UInt8) (ts : List Tok) (A : PA α) : PT α := match f8 s ts with
 | .error x => .error x
 | .ok us => A us
theorem qv (s : List UInt8) (ts : List Tok) (A : PA α) : dD s ts A = if atT 1 s ts = true then A (ts.drop 1) else .error (190,(hd ts).a) := by
 unfold dD bI
 by_cases h : atT 1 s ts = true
 · rw [if_pos h,if_pos h]
 · rw [if_neg h,if_neg h]
theorem qw (s : List UInt8) (ts : List Tok) (A : PA α) : kR s ts A = if atT 4 s ts = true then A (ts.drop 1) else .error (190,(hd ts).a) := by
 unfold kR f8
 by_cases h : atT 4 s ts = true
 · rw [if_pos h,if_pos h]
 · rw [if_neg h,if_neg h]
theorem Loc.word {A A' : PA α} {ts : List Tok} (hg : Good ts) (s : List UInt8) (h : Good (ts.drop 1) → Loc A A' (ts.drop 1)) : Loc (fun ts => dD s ts A) (fun ts => dD s ts A') ts :=
 Loc.eq (Loc.atI 1 s (fun h1 => Loc.drop hg (h (aO (Cuts.refl hg) (by decide) h1).2)) (fun _ => Loc.fail hg 190)) (fun ts => qv s ts A) (fun ts => qv s ts A')
theorem Loc.sign {A A' : PA α} {ts : List Tok} (hg : Good ts) (s : List UInt8) (h : Good (ts.drop 1) → Loc A A' (ts.drop 1)) : Loc (fun ts => kR s ts A) (fun ts => kR s ts A') ts :=
 Loc.eq (Loc.atI 4 s (fun h1 => Loc.drop hg (h (aO (Cuts.refl hg) (by decide) h1).2)) (fun _ => Loc.fail hg 190)) (fun ts => qw s ts A) (fun ts => qw s ts A')
theorem Loc.opt {A A' B B' : PA α} {ts : List Tok} (hg : Good ts) (k : Int) (hk : k ≠ 5) (s : List UInt8) (hA : Good (ts.drop 1) → Loc A A' (ts.drop 1)) (hB : Loc B B' ts) : Loc (fun ts => if atT k s ts = true then A (ts.drop 1) else B ts) (fun ts => if atT k s ts = true then A' (ts.drop 1) else B' ts) ts :=
 Loc.atI k s (fun h1 => Loc.drop hg (hA (hg.next hk h1))) (fun _ => hB)
end
theorem cZ {ts : List Tok} (hg : Good ts) : Loc bj bj ts :=
 Loc.eq (P := fun ts => if nmT ts = true then .ok ((hd ts).t,ts.drop 1) else eS ts) (P' := fun ts => if nmT ts = true then .ok ((hd ts).t,ts.drop 1) else eS ts)
  (Loc.ite om (fun h => Loc.takes hg (hg.name h) (fun t => t.t)) (fun _ => Loc.bad hg)) (fun _ => rfl) (fun _ => rfl)
theorem loc_as {ts : List Tok} (hg : Good ts) : Loc asP asP ts :=
 Loc.eq (P := fun ts => if atT 1 asB ts = true then bj (ts.drop 1) else .ok ([],ts)) (P' := fun ts => if atT 1 asB ts = true then bj (ts.drop 1) else .ok ([],ts))
  (Loc.opt hg 1 (by decide) asB (fun h => cZ h) (Loc.pure hg [])) (fun _ => rfl) (fun _ => rfl)
def ref2 (n : List UInt8) : PA Ex := fun us => if atT 4 [46] us = true then bg (bj (us.drop 1)) (fun m vs => .ok (.mk 2 Val.zero n m 0 [],vs)) else .ok (.mk 2 Val.zero [] n 0 [],us)
theorem ref_eq (ts : List Tok) : jY ts = bg (bj ts) ref2 := by
 unfold jY bg ref2
 cases bj ts with
 | error x => rfl
 | ok r =>
  obtain ⟨n,us⟩ := r
  simp only
  split
  · unfold bg; cases bj (us.drop 1) <;> rfl
  · rfl
theorem loc_ref2 {us : List Tok} (n : List UInt8) (hg : Good us) : Loc (ref2 n) (ref2 n) us :=
 Loc.opt hg 4 (by decide) [46] (A := fun us => bg (bj us) (fun m vs => .ok (Ex.mk 2 Val.zero n m 0 [],vs))) (A' := fun us => bg (bj us) (fun m vs => .ok (Ex.mk 2 Val.zero n m 0 [],vs)))
  (fun h => Loc.seq (cZ h) (fun m vs hm => Loc.pure (bs h hm).2 _)) (Loc.pure hg _)
theorem loc_ref {ts : List Tok} (hg : Good ts) : Loc jY jY ts :=
 Loc.eq (Loc.seq (cZ hg) (fun n _ hn => loc_ref2 n (bs hg hn).2)) ref_eq ref_eq
def oo (l : List Opr) (t : Tok) : Option Int := cC l [t]
theorem jT (l : List Opr) (ts : List Tok) : cC l ts = oo l (hd ts) := by
 unfold oo
 induction l with
 | nil => rfl
 | cons o l ih => unfold cC; rw [ih]; rfl
def RowR (one' : PA Ex) (l : List Opr) (e : Ex) (ts : List Tok) (r : PX Ex) : Prop := ∀ k,ts.length ≤ k → fE one' l k e ts = r
theorem ln {one : PA Ex} {l : List Opr} {k : Nat} {e : Ex} {ts : List Tok} {o : Int} (h : cC l ts = some o) : fE one l (k + 1) e ts = bg (one (ts.drop 1)) (fun g us => fE one l k (bin o e g) us) := by
 rw [fE,h]; unfold bg; simp only; cases one (ts.drop 1) <;> rfl
theorem qx {one one' : PA Ex} {l : List Opr} (hl : ∀ o ∈ l,o.k ≠ 5) : ∀ (k : Nat) (e : Ex) (ts : List Tok),Good ts → ts.length ≤ k → (∀ us,Good us → us.length < ts.length → fy us (one us) ∧ Loc one one' us) → LocR (RowR one' l e) ts (fE one l k e ts)
 | 0,e,ts,hg,hk,ho => by have := hg.ne; omega
 | k + 1,e,ts,hg,hk,ho => by
  have hlt := hg.lt
  obtain ⟨t,tl,rfl⟩ := m8 hg
  cases hf : cC l (t :: tl) with
  | none =>
   have e1 : fE one l (k + 1) e (t :: tl) = .ok (e,t :: tl) := by rw [fE,hf]
   rw [e1]
   refine ⟨[],t,tl,rfl,rfl,fun p j hj => ?_⟩
   obtain ⟨j,rfl⟩ : ∃ i,j = i + 1 := ⟨j - 1,by simp at hj; omega⟩
   have e2 : cC l ([] ++ t :: p) = none := by rw [jT, ← hf,jT]; rfl
   rw [fE,e2]; rfl
  | some o =>
   have g1 : Good tl := dZ hl hg hf
   have hone := ho tl g1 hlt
   rw [ln hf]
   show LocR _ (t :: tl) (bg (one tl) _)
   have hd1 : LocR (fun ts' r => ∃ us',ts' = t :: us' ∧ one' us' = r ∧ ∀ g vs',r = .ok (g,vs') → vs'.length ≤ us'.length) (t :: tl) (one tl) := by
    have h := hone.2
    have h : LocR (fun ts' r => one' ts' = r) tl (one tl) := h
    cases hr : one tl with
    | error x =>
     rw [hr] at h
     obtain ⟨pre,u,post,q1,q2,q3⟩ := h
     exact ⟨t :: pre,u,post,by rw [q1]; rfl,q2,fun p => ⟨_,rfl,q3 p,fun g vs' e => by cases e⟩⟩
    | ok r =>
     obtain ⟨a,us⟩ := r
     rw [hr] at h
     obtain ⟨pre,u,post,q1,q2,q3⟩ := h
     exact ⟨t :: pre,u,post,by rw [q1]; rfl,q2,fun p => ⟨_,rfl,q3 p,fun g vs' e => by cases e; show (u :: p).length ≤ (pre ++ u :: p).length; rw [List.length_append]; omega⟩⟩
   have hpos : ∀ (us' : List Tok) (j : Nat),(t :: us').length ≤ j → ∃ i,j = i + 1 ∧ us'.length ≤ i := fun us' j hj => ⟨j - 1,by simp at hj; omega,by simp at hj; omega⟩
   have hfs : ∀ us',cC l (t :: us') = some o := fun us' => by rw [jT, ← hf,jT]; rfl
   refine LocR.bind (R2 := fun g us' r => ∀ i,us'.length ≤ i → fE one' l i (bin o e g) us' = r) hd1 (fun g us hgu => ?_) (fun g ts' us' r ⟨vs,q1,q2,q4⟩ q3 j hj => ?_) (fun ts' x ⟨vs,q1,q2,_⟩ j hj => ?_)
   · obtain ⟨c1,l1⟩ := hone.1 g us hgu
     simp only [List.length_cons] at hk
     exact qx hl k (bin o e g) us c1.2 (by omega) (fun vs hv hvl => ho vs hv (by simp only [List.length_cons]; omega))
   · subst q1
     obtain ⟨i,rfl,hi⟩ := hpos vs j hj
     rw [ln (hfs vs)]
     show bg (one' vs) _ = r
     rw [q2]
     exact q3 i (Nat.le_trans (q4 g us' rfl) hi)
   · subst q1
     obtain ⟨i,rfl,hi⟩ := hpos vs j hj
     rw [ln (hfs vs)]
     show bg (one' vs) _ = _
     rw [q2]; rfl
end Go.WK.FL
namespace Go.WK.FL
open Go.RowKit Lib
theorem ph (one : PA Ex) (l : List Opr) (ts : List Tok) : f6 one l ts = bg (one ts) (fun e us => fE one l us.length e us) := by
 unfold f6 bg; cases one ts <;> rfl
theorem loc_rowP {one one' : PA Ex} {l : List Opr} {ts : List Tok} (hl : ∀ o ∈ l,o.k ≠ 5) (hg : Good ts) (h1 : Loc one one' ts) (ht : ∀ us,Good us → us.length ≤ ts.length → fy us (one us)) (ho : ∀ us,Good us → us.length < ts.length → Loc one one' us) : Loc (f6 one l) (f6 one' l) ts := by
 show LocR _ ts (f6 one l ts)
 rw [ph]
 refine LocR.bind (R2 := fun e us' r => RowR one' l e us' r) h1 (fun e us he => ?_) (fun e ts' us' r q1 q2 => ?_) (fun ts' x q1 => ?_)
 · obtain ⟨c1,l1⟩ := ht ts hg (Nat.le_refl _) e us he
   exact qx hl us.length e us c1.2 (Nat.le_refl _) (fun vs hv hvl => ⟨ht vs hv (by omega),ho vs hv (by omega)⟩)
 · show f6 one' l ts' = r
   rw [ph]
   show bg (one' ts') _ = r
   rw [q1]; exact q2 _ (Nat.le_refl _)
 · show f6 one' l ts' = _
   rw [ph]
   show bg (one' ts') _ = _
   rw [q1]; rfl
theorem unP_eq (o : Int) (r : PX Ex) : unP o r = bg r (fun e us => .ok (un o e,us)) := by cases r <;> rfl
theorem oq (r : PX Ex) : iR r = bg r (fun e us => if atT 4 [41] us = true then .ok (e,us.drop 1) else eS us) := by cases r <;> rfl
theorem Loc.ofBind {α β : Type} {P P' : PA α} {Q Q' : α → PA β} {F F' : PA β} {ts : List Tok} (hP : Loc P P' ts) (hQ : ∀ a us,P ts = .ok (a,us) → Loc (Q a) (Q' a) us) (h1 : ∀ ts,F ts = bg (P ts) Q) (h2 : ∀ ts,F' ts = bg (P' ts) Q') : Loc F F' ts := Loc.eq (Loc.seq hP hQ) h1 h2
theorem loc_un {o : Int} {P P' : PA Ex} {us : List Tok} (hP : Loc P P' us) (hc : ∀ e vs,P us = .ok (e,vs) → Good vs) : Loc (fun ts => unP o (P ts)) (fun ts => unP o (P' ts)) us :=
 Loc.ofBind hP (fun e vs he => Loc.pure (hc e vs he) _) (fun _ => unP_eq o _) (fun _ => unP_eq o _)
theorem uF {P P' : PA Ex} {us : List Tok} (hP : Loc P P' us) (hc : ∀ e vs,P us = .ok (e,vs) → Good vs) : Loc (fun ts => iR (P ts)) (fun ts => iR (P' ts)) us :=
 Loc.ofBind hP (fun e vs he => Loc.opt (hc e vs he) 4 (by decide) [41] (A := fun us => .ok (e,us)) (A' := fun us => .ok (e,us)) (fun h => Loc.pure h _) (Loc.bad (hc e vs he))) (fun ts => oq _) (fun ts => oq _)
def cmpN (e : Ex) : PA Ex := fun us => if atT 1 gJ us = true then (if atT 1 cM (us.drop 1) = true then .ok (un 7 e,(us.drop 1).drop 1) else eS (us.drop 1)) else (if atT 1 cM us = true then .ok (un 6 e,us.drop 1) else eS us)
def cmpF (one : PA Ex) (e : Ex) (o : Option Int) : PA Ex := match o with
 | some o => fun ts => bg (one (ts.drop 1)) (fun g us => .ok (bin o e g,us))
 | none => fun ts => if atT 1 isB ts = true then cmpN e (ts.drop 1) else .ok (e,ts)
theorem cmp_eq (one : PA Ex) (e : Ex) (ts : List Tok) : gU one e ts = cmpF one e (oo eE (hd ts)) ts := by
 unfold gU cmpF
 rw [← jT]
 cases cC eE ts with
 | some o => simp only; cases one (ts.drop 1) <;> rfl
 | none => simp only [cmpN,List.drop_drop]
theorem loc_cmpN {e : Ex} {us : List Tok} (hg : Good us) : Loc (cmpN e) (cmpN e) us :=
 Loc.opt hg 1 (by decide) gJ (A := fun us => if atT 1 cM us = true then .ok (un 7 e,us.drop 1) else eS us) (A' := fun us => if atT 1 cM us = true then .ok (un 7 e,us.drop 1) else eS us)
  (fun h => Loc.opt h 1 (by decide) cM (A := fun us => .ok (un 7 e,us)) (A' := fun us => .ok (un 7 e,us)) (fun h2 => Loc.pure h2 _) (Loc.bad h))
  (B := fun us => if atT 1 cM us = true then .ok (un 6 e,us.drop 1) else eS us) (B' := fun us => if atT 1 cM us = true then .ok (un 6 e,us.drop 1) else eS us)
  (Loc.opt hg 1 (by decide) cM (A := fun us => .ok (un 6 e,us)) (A' := fun us => .ok (un 6 e,us)) (fun h2 => Loc.pure h2 _) (Loc.bad hg))
theorem loc_cmp {one one' : PA Ex} {e : Ex} {ts : List Tok} (hg : Good ts) (ho : ∀ us,Good us → us.length < ts.length → fy us (one us) ∧ Loc one one' us) : Loc (gU one e) (gU one' e) ts := by
 refine Loc.eq (Loc.head (A := fun t => cmpF one e (oo eE t)) (A' := fun t => cmpF one' e (oo eE t)) ?_) (cmp_eq one e) (cmp_eq one' e)
 cases hf : oo eE (hd ts) with
 | some o =>
  have g1 : Good (ts.drop 1) := dZ (fF eE (by simp)) hg (by rw [jT]; exact hf)
  obtain ⟨q1,q2⟩ := ho _ g1 hg.lt
  exact Loc.drop hg (A := fun ts => bg (one ts) (fun g us => .ok (bin o e g,us))) (A' := fun ts => bg (one' ts) (fun g us => .ok (bin o e g,us))) (Loc.seq q2 (fun g us hgu => Loc.pure (q1 g us hgu).1.2 _))
 | none => exact Loc.opt hg 1 (by decide) isB (fun h => loc_cmpN h) (Loc.pure hg e)
def thingK_ (op : PA Ex) (d : Nat) (t : Tok) : PA Ex := fun ts =>
 if atT 1 cM ts = true then .ok (cst Val.zero,ts.drop 1)
 else if atT 1 kG ts = true then .ok (cst ⟨3,1,[]⟩,ts.drop 1)
 else if atT 1 iQ ts = true then .ok (cst ⟨3,0,[]⟩,ts.drop 1)
 else if atT 4 [40] ts = true then (if 24 < d + 1 then .error (191,t.a) else iR (op (ts.drop 1)))
 else jY ts
def thingT (op : PA Ex) (d : Nat) (t : Tok) : PA Ex := fun ts =>
 if t.k = 2 then .ok (cst ⟨1,iz t.t,[]⟩,ts.drop 1) else if t.k = 3 then .ok (cst ⟨2,0,t.t⟩,ts.drop 1) else thingK_ op d t ts
theorem Loc.const {α : Type} {P P' : PA α} {ts : List Tok} {c : Prop} [Decidable c] {Q Q' : PA α} (hP : c → Loc P P' ts) (hQ : ¬ c → Loc Q Q' ts) : Loc (fun ts => if c then P ts else Q ts) (fun ts => if c then P' ts else Q' ts) ts :=
 Loc.ite (c := fun _ => c) (fun _ _ _ => Iff.rfl) hP hQ
theorem Loc.takeC {α : Type} {ts : List Tok} (hg : Good ts) (h : Good (ts.drop 1)) (a : α) : Loc (fun ts => .ok (a,ts.drop 1)) (fun ts => .ok (a,ts.drop 1)) ts := Loc.drop hg (A := fun us => .ok (a,us)) (A' := fun us => .ok (a,us)) (Loc.pure h a)
theorem Loc.failH {α : Type} {ts : List Tok} (hg : Good ts) (c : Int) (hc : 0 ≤ c := by decide) : Loc (α := α) (fun _ => .error (c,(hd ts).a)) (fun _ => .error (c,(hd ts).a)) ts := by
 obtain ⟨t,l,rfl⟩ := m8 hg
 exact ⟨[],t,l,rfl,⟨rfl,hc⟩,fun p => rfl⟩
theorem uG {op op' : PA Ex} {d : Nat} {ts : List Tok} (hg : Good ts) (ho : d + 1 ≤ 24 → ∀ us,Good us → us.length < ts.length → fy us (op us) ∧ Loc op op' us) : Loc (dP op d) (dP op' d) ts := by
 refine Loc.eq (Loc.head (A := thingT op d) (A' := thingT op' d) ?_) (fun _ => rfl) (fun _ => rfl)
 refine Loc.const (fun h => Loc.takeC hg (hg.drop (by rw [h]; decide)) _) (fun h0 => ?_)
 refine Loc.const (fun h => Loc.takeC hg (hg.drop (by rw [h]; decide)) _) (fun h1 => ?_)
 have nx : ∀ {k : Int} {s : List UInt8},k ≠ 5 → atT k s ts = true → Good (ts.drop 1) := fun hk h => hg.next hk h
 refine Loc.atI 1 cM (fun h => Loc.takeC hg (nx (by decide) h) _) (fun _ => ?_)
 refine Loc.atI 1 kG (fun h => Loc.takeC hg (nx (by decide) h) _) (fun _ => ?_)
 refine Loc.atI 1 iQ (fun h => Loc.takeC hg (nx (by decide) h) _) (fun _ => ?_)
 refine Loc.atI 4 [40] (fun h => ?_) (fun _ => loc_ref hg)
 refine Loc.const (fun h => Loc.failH hg 191) (fun hd1 => ?_)
 have g1 := nx (by decide) h
 obtain ⟨q1,q2⟩ := ho (by omega) _ g1 hg.lt
 exact Loc.drop hg (A := fun us => iR (op us)) (A' := fun us => iR (op' us)) (uF q2 (fun e vs he => (q1 e vs he).1.2))
theorem tn (P : PA Ex) (ts : List Tok) : (match P ts with | .error x => .error x | .ok (e,us) => gU P e us : PX Ex) = bg (P ts) (fun e us => gU P e us) := by unfold bg; cases P ts <;> rfl
theorem m9 : ∀ (f f' lv d : Nat) (ts : List Tok),Good ts → f ≤ f' → 1 ≤ lv → lv ≤ 8 → 8 * ts.length + (9 - lv) ≤ f → Loc (exP f lv d) (exP f' lv d) ts := by
 intro f
 induction f with
 | zero => intro f' lv d ts hg _ _ _ hf; have := hg.ne; omega
 | succ f ih =>
  intro f' lv d ts hg hff h1 h8 hf
  obtain ⟨g,rfl⟩ : ∃ g,f' = g + 1 := ⟨f' - 1,by omega⟩
  have tk : ∀ lv d us,Good us → fy us (exP f lv d us) := fun lv d us hu => cl f lv d us hu
  have row : ∀ (lv' : Nat) (l : List Opr),lv' = lv + 1 → lv' ≤ 8 → (l = orO ∨ l = mG ∨ l = eE ∨ l = lW ∨ l = lX) → Loc (f6 (exP f lv' d) l) (f6 (exP g lv' d) l) ts := fun lv' l e h hl =>
   loc_rowP (fF l hl) hg (ih g lv' d ts hg (by omega) (by omega) h (by omega)) (fun us hu _ => tk _ _ us hu) (fun us hu hul => ih g lv' d us hu (by omega) (by omega) h (by omega))
  by_cases l1 : lv = 1
  · subst l1; exact Loc.eq (row 2 orO rfl (by omega) (by simp)) (fun ts => exP1 f d ts) (fun ts => exP1 g d ts)
  by_cases l2 : lv = 2
  · subst l2; exact Loc.eq (row 3 mG rfl (by omega) (by simp)) (fun ts => exP2 f d ts) (fun ts => exP2 g d ts)
  by_cases l3 : lv = 3
  · subst l3
    refine Loc.eq (Loc.atI 1 gJ (fun h => ?_) (fun _ => ih g 4 d ts hg (by omega) (by omega) (by omega) (by omega))) (fun ts => exP3 f d ts) (fun ts => exP3 g d ts)
    have g1 := hg.next (by decide) h
    have hlt := hg.lt
    refine Loc.ite (c := fun _ => 24 < d + 1) (fun _ _ _ => Iff.rfl) (fun _ => Loc.fail hg 191) (fun _ => ?_)
    exact Loc.drop hg (A := fun us => unP 5 (exP f 3 (d + 1) us)) (A' := fun us => unP 5 (exP g 3 (d + 1) us)) (loc_un (ih g 3 (d + 1) _ g1 (by omega) (by omega) (by omega) (by omega)) (fun e vs he => (tk _ _ _ g1 e vs he).1.2))
  by_cases l4 : lv = 4
  · subst l4
    refine Loc.ofBind (ih g 5 d ts hg (by omega) (by omega) (by omega) (by omega)) (fun e us he => ?_) (fun ts => (exP4 f d ts).trans (tn _ ts)) (fun ts => (exP4 g d ts).trans (tn _ ts))
    obtain ⟨c1,hl⟩ := tk _ _ _ hg e us he
    exact loc_cmp c1.2 (fun vs hv hvl => ⟨tk _ _ vs hv,ih g 5 d vs hv (by omega) (by omega) (by omega) (by omega)⟩)
  by_cases l5 : lv = 5
  · subst l5; exact Loc.eq (row 6 lW rfl (by omega) (by simp)) (fun ts => exP5 f d ts) (fun ts => exP5 g d ts)
  by_cases l6 : lv = 6
  · subst l6; exact Loc.eq (row 7 lX rfl (by omega) (by simp)) (fun ts => exP6 f d ts) (fun ts => exP6 g d ts)
  by_cases l7 : lv = 7
  · subst l7
    refine Loc.eq (Loc.atI 4 [45] (fun h => ?_) (fun _ => ih g 8 d ts hg (by omega) (by omega) (by omega) (by omega))) (fun ts => exP7 f d ts) (fun ts => exP7 g d ts)
    have g1 := hg.next (by decide) h
    have hlt := hg.lt
    refine Loc.ite (c := fun _ => 24 < d + 1) (fun _ _ _ => Iff.rfl) (fun _ => Loc.fail hg 191) (fun _ => ?_)
    exact Loc.drop hg (A := fun us => unP 4 (exP f 7 (d + 1) us)) (A' := fun us => unP 4 (exP g 7 (d + 1) us)) (loc_un (ih g 7 (d + 1) _ g1 (by omega) (by omega) (by omega) (by omega)) (fun e vs he => (tk _ _ _ g1 e vs he).1.2))
  · have l8 : lv = 8 := by omega
    subst l8
    refine Loc.eq (uG hg (fun _ us hu hul => ⟨tk _ _ us hu,ih g 1 (d + 1) us hu (by omega) (by omega) (by omega) (by omega)⟩)) (fun ts => exP8 f d ts) (fun ts => exP8 g d ts)
section
variable {f f' d : Nat} {ts : List Tok}
theorem lq (hg : Good ts) (hff : f ≤ f') (hf : 8 * ts.length ≤ f) : Loc (cF f d) (cF f' d) ts :=
 Loc.opt hg 1 (by decide) rH (A := exP f 1 d) (A' := exP f' 1 d) (fun h => m9 f f' 1 d _ h hff (by omega) (by omega) (by have := hg.lt; omega)) (Loc.pure hg Ex.zero)
theorem pc (ts : List Tok) : eu ts = bg (bj ts) (fun t us => bg (asP us) (fun n vs => .ok ((t,n),vs))) := by
 unfold eu bg
 cases bj ts with
 | error x => rfl
 | ok r => obtain ⟨t,us⟩ := r; simp only; cases asP us <;> rfl
theorem tq (hg : Good ts) : Loc eu eu ts :=
 Loc.ofBind (cZ hg) (fun _ _ h1 => Loc.seq (loc_as (bs hg h1).2) (fun _ _ h2 => Loc.pure (kI (bs hg h1).2 h2).2 _)) pc pc
theorem mi (f : Nat) (l : List ItemX) (ts : List Tok) : fz f d l ts = bg (exP f 1 d ts) (fun e us => bg (asP us) (fun n vs => .ok (l ++ [⟨e,n⟩],vs))) := by
 unfold fz bg
 cases exP f 1 d ts with
 | error x => rfl
 | ok r => obtain ⟨t,us⟩ := r; simp only; cases asP us <;> rfl
theorem loc_item (l : List ItemX) (hg : Good ts) (hff : f ≤ f') (hf : 8 * ts.length + 8 ≤ f) : Loc (fz f d l) (fz f' d l) ts :=
 Loc.ofBind (m9 f f' 1 d ts hg hff (by omega) (by omega) hf) (fun e us h1 => Loc.seq (loc_as (cl f 1 d ts hg e us h1).1.2) (fun n vs h2 => Loc.pure (kI (cl f 1 d ts hg e us h1).1.2 h2).2 _)) (mi f l) (mi f' l)
def ordQ (l : List OrdX) (n : List UInt8) : PA (List OrdX) := fun us => if atT 1 iA us = true then .ok (l ++ [⟨n,true⟩],us.drop 1) else .ok (l ++ [⟨n,false⟩],us)
theorem ord_eq (l : List OrdX) (ts : List Tok) : jh l ts = bg (bj ts) (ordQ l) := by
 unfold jh bg ordQ
 cases bj ts with
 | error x => rfl
 | ok r =>
  obtain ⟨t,us⟩ := r
  simp only
  cases h : atT 1 iA us with
  | true => rfl
  | false => rfl
theorem loc_ord (l : List OrdX) (hg : Good ts) : Loc (jh l) (jh l) ts :=
 Loc.ofBind (cZ hg) (fun t us h1 => Loc.opt (bs hg h1).2 1 (by decide) iA (A := fun us => .ok (l ++ [⟨t,true⟩],us)) (A' := fun us => .ok (l ++ [⟨t,true⟩],us)) (fun h => Loc.pure h _) (Loc.pure (bs hg h1).2 _)) (ord_eq l) (ord_eq l)
def colW (l : List ColX) (n : List UInt8) (k : Int) : PA (List ColX) := fun us => if atT 1 gJ us = true then dD cM (us.drop 1) (fun vs => .ok (l ++ [⟨n,k,true⟩],vs)) else .ok (l ++ [⟨n,k,false⟩],us)
def colQ (l : List ColX) (n : List UInt8) (k : Int) : PA (List ColX) := fun us => if k = 0 then eS us else colW l n k (us.drop 1)
def ot (t : Tok) : Int := cJ [t]
theorem tr (ts : List Tok) : cJ ts = ot (hd ts) := by unfold ot cJ atT; rfl
theorem col_eq (l : List ColX) (ts : List Tok) : jr l ts = bg (bj ts) (fun n us => colQ l n (ot (hd us)) us) := by
  unfold jr bg colQ colW dD
  cases bj ts with
  | error x => rfl
  | ok r =>
    obtain ⟨n,us⟩ := r
    simp only [tr]
    all_goals
      split
      · rfl
      · split
        · cases bI cM ((us.drop 1).drop 1) <;> rfl
        · rfl
theorem uH {us : List Tok} (hg : Good us) (h : ¬ ot (hd us) = 0) : Good (us.drop 1) := by
 rw [← tr] at h
 unfold cJ at h
 split at h
 · rename_i h0; exact hg.next (by decide) h0
 split at h
 · rename_i h0; exact hg.next (by decide) h0
 split at h
 · rename_i h0; exact hg.next (by decide) h0
 · exact absurd rfl h
theorem loc_colW (l : List ColX) (n : List UInt8) (k : Int) {us : List Tok} (g2 : Good us) : Loc (colW l n k) (colW l n k) us :=
 Loc.opt g2 1 (by decide) gJ (A := fun us => dD cM us (fun vs => .ok (l ++ [⟨n,k,true⟩],vs))) (A' := fun us => dD cM us (fun vs => .ok (l ++ [⟨n,k,true⟩],vs))) (fun g3 => Loc.word g3 cM (fun g4 => Loc.pure g4 _)) (Loc.pure g2 _)
theorem loc_col (l : List ColX) (hg : Good ts) : Loc (jr l) (jr l) ts :=
 Loc.ofBind (cZ hg) (fun n _ h1 => Loc.head (A := fun t => colQ l n (ot t)) (A' := fun t => colQ l n (ot t)) (
  Loc.const (fun _ => Loc.bad (bs hg h1).2) (fun hk => Loc.drop (bs hg h1).2 (loc_colW l n _ (uH (bs hg h1).2 hk))))) (col_eq l) (col_eq l)
end
end Go.WK.FL
namespace Go.WK.FL
open Go.RowKit Lib
theorem Loc.len {α : Type} {P P' : PA α} {ts : List Tok} (h : Loc P P' ts) : LocR (fun ts' r => P' ts' = r ∧ ∀ a us',r = .ok (a,us') → us'.length ≤ ts'.length) ts (P ts) := by
 have h : LocR (fun ts' r => P' ts' = r) ts (P ts) := h
 cases hr : P ts with
 | error x =>
  rw [hr] at h
  obtain ⟨pre,u,post,q1,q2,q3⟩ := h
  exact ⟨pre,u,post,q1,q2,fun p => ⟨q3 p,fun a us' e => by cases e⟩⟩
 | ok r =>
  obtain ⟨a,us⟩ := r
  rw [hr] at h
  obtain ⟨pre,u,post,q1,q2,q3⟩ := h
  exact ⟨pre,u,post,q1,q2,fun p => ⟨q3 p,fun a us' e => by cases e; show (u :: p).length ≤ (pre ++ u :: p).length; rw [List.length_append]; omega⟩⟩
section
variable {f f' d : Nat} {ts : List Tok}
theorem on_eq (l : List (List UInt8)) (ts : List Tok) : onP l ts = bg (bj ts) (fun n us => .ok (l ++ [n],us)) := by unfold onP bg; cases bj ts <;> rfl
theorem loc_on (l : List (List UInt8)) (hg : Good ts) : Loc (onP l) (onP l) ts := Loc.ofBind (cZ hg) (fun _ _ h1 => Loc.pure (bs hg h1).2 _) (on_eq l) (on_eq l)
theorem exs_eq (f : Nat) (l : List Ex) (ts : List Tok) : fT f d l ts = bg (exP f 1 d ts) (fun e us => .ok (l ++ [e],us)) := by unfold fT bg; cases exP f 1 d ts <;> rfl
theorem loc_exs (l : List Ex) (hg : Good ts) (hff : f ≤ f') (hf : 8 * ts.length + 8 ≤ f) : Loc (fT f d l) (fT f' d l) ts :=
 Loc.ofBind (m9 f f' 1 d ts hg hff (by omega) (by omega) hf) (fun e us h1 => Loc.pure (cl f 1 d ts hg e us h1).1.2 _) (exs_eq f l) (exs_eq f' l)
theorem pd (f : Nat) (l : List SetX) (ts : List Tok) : gK f d l ts = bg (bj ts) (fun n us => kR [61] us (fun vs => bg (exP f 1 d vs) (fun e zs => .ok (l ++ [⟨n,e⟩],zs)))) := by
 unfold gK bg kR
 cases bj ts with
 | error x => rfl
 | ok r =>
  obtain ⟨n,us⟩ := r
  simp only
  cases f8 [61] us with
  | error x => rfl
  | ok vs => simp only; cases exP f 1 d vs <;> rfl
theorem loc_set (l : List SetX) (hg : Good ts) (hff : f ≤ f') (hf : 8 * ts.length + 8 ≤ f) : Loc (gK f d l) (gK f' d l) ts :=
 Loc.ofBind (cZ hg) (fun n us h1 =>
  Loc.sign (bs hg h1).2 [61] (fun g => Loc.seq (m9 f f' 1 d _ g hff (by omega) (by omega) (by have := (bs hg h1).1.length_le; rw [List.length_drop]; omega)) (fun e zs h2 => Loc.pure (cl f 1 d _ g e zs h2).1.2 _))) (pd f l) (pd f' l)
section
variable {τ : Type} {can : List Tok → Bool} {one one' : τ → PA τ}
theorem tt (k n : Nat) (s : τ) (us : List Tok) : fV can one k n s us = if can us = true then (if n = 16 then .error (3,(hd us).a) else bg (one s us) (fun s' vs => cz can one k (n + 1) s' vs)) else eS us := by
 unfold fV bg
 split
 · split
   · rfl
   · cases one s us <;> rfl
 · rfl
theorem qy (k n : Nat) (hn : n ≠ 0) (s : τ) (ts : List Tok) : cz can one (k + 1) n s ts = if atT 4 [44] ts = true then fV can one k n s (ts.drop 1) else .ok (s,ts) := by
 by_cases h : atT 4 [44] ts = true
 · rw [if_pos h,sY _ _ _ _ _ _ hn h]
 · rw [if_neg h,sZ _ _ _ _ _ _ hn (Bool.eq_false_iff.2 h)]
theorem jz {N : Nat} (hc : ∀ a b,hd a = hd b → (can a = true ↔ can b = true)) (ho : ∀ s us,Good us → us.length ≤ N → Loc (one s) (one' s) us) (hk : ∀ s us s' us',Good us → one s us = .ok (s',us') → Cuts us us') : ∀ (k n : Nat) (s : τ) (ts : List Tok),Good ts → ts.length ≤ N → Loc (cz can one k n s) (cz can one' k n s) ts
 | 0,n,s,ts,hg,hN => Loc.pure hg s
 | k + 1,n,s,ts,hg,hN => by
  have body : ∀ us,Good us → us.length ≤ N → Loc (fV can one k n s) (fV can one' k n s) us := fun us hu hul => by
   refine Loc.eq (Loc.ite hc (fun _ => ?_) (fun _ => Loc.bad hu)) (tt k n s) (tt k n s)
   refine Loc.const (fun _ => Loc.fail hu 3) (fun _ => ?_)
   exact Loc.seq (ho s us hu hul) (fun s' vs h => jz hc ho hk k (n + 1) s' vs (hk _ _ _ _ hu h).2 (Nat.le_trans (hk _ _ _ _ hu h).1.length_le hul))
  by_cases hn : n = 0
  · subst hn
    exact Loc.eq (body ts hg hN) (fun ts => o3 can one k s ts) (fun ts => o3 can one' k s ts)
  · exact Loc.eq (Loc.opt hg 4 (by decide) [44] (fun g => body _ g (by rw [List.length_drop]; omega)) (Loc.pure hg s)) (qy k n hn s) (qy k n hn s)
end
section
variable {τ : Type} {can : List Tok → Bool} {one one' : List τ → PA (List τ)}
theorem in_eq (one : List τ → PA (List τ)) (ts : List Tok) : inP can one ts = kR [40] ts (fun us => bg (cz can one 17 0 [] us) (fun l vs => kR [41] vs (fun zs => .ok (l,zs)))) := by
  unfold inP kR bg
  cases f8 [40] ts with
  | error x => rfl
  | ok us =>
    simp only
    cases cz can one 17 0 [] us with
    | error x => rfl
    | ok r => obtain ⟨l,vs⟩ := r; simp only; all_goals (cases f8 [41] vs <;> rfl)
theorem r9 {N : Nat} (hc : ∀ a b,hd a = hd b → (can a = true ↔ can b = true)) (ho : ∀ s us,Good us → us.length ≤ N → Loc (one s) (one' s) us) (hk : ∀ s us s' us',Good us → one s us = .ok (s',us') → Cuts us us') (hg : Good ts) (hN : ts.length ≤ N) : Loc (inP can one) (inP can one') ts :=
 Loc.eq (Loc.sign hg [40] (fun g => Loc.seq (jz hc ho hk 17 0 [] _ g (by rw [List.length_drop]; omega)) (fun l vs h => Loc.sign (cT hk _ _ _ _ _ _ g h).2 [41] (fun g2 => Loc.pure g2 _)))) (in_eq one) (in_eq one')
end
theorem tu (f : Nat) (l : List SrcX) (ts : List Tok) : dV f d l ts = if nmT ts = true ∧ l.length = 4 then .error (3,(hd ts).a) else bg (eu ts) (fun r us => dD onB us (fun vs => bg (exP f 1 d vs) (fun e zs => .ok (l ++ [⟨r.1,r.2,e⟩],zs)))) := by
 unfold dV bg dD
 split
 · rfl
 · cases eu ts with
   | error x => rfl
   | ok r =>
    obtain ⟨⟨t,s⟩,us⟩ := r
    simp only
    cases bI onB us with
    | error x => rfl
    | ok vs => simp only; cases exP f 1 d vs <;> rfl
theorem loc_join (l : List SrcX) (hg : Good ts) (hff : f ≤ f') (hf : 8 * ts.length + 8 ≤ f) : Loc (dV f d l) (dV f' d l) ts :=
 Loc.eq (Loc.ite (c := fun ts => nmT ts = true ∧ l.length = 4) (fun a b e => and_congr_left' (om a b e)) (fun _ => Loc.fail hg 3) (fun _ => Loc.seq (tq hg) (fun r us h1 =>
  Loc.word (fW hg h1).2 onB (fun g => Loc.seq (m9 f f' 1 d _ g hff (by omega) (by omega) (by have := (fW hg h1).1.length_le; rw [List.length_drop]; omega)) (fun e zs h2 => Loc.pure (cl f 1 d _ g e zs h2).1.2 _))))) (tu f l) (tu f' l)
theorem qA (f k : Nat) (l : List SrcX) (ts : List Tok) : db f d (k + 1) l ts = if atT 1 mN ts = true then bg (dV f d l (ts.drop 1)) (fun l' us => db f d k l' us) else .ok (l,ts) := by
 rw [db]; unfold bg
 split
 · cases dV f d l (ts.drop 1) <;> rfl
 · rfl
theorem ou (hff : f ≤ f') : ∀ (k : Nat) (l : List SrcX) (ts : List Tok),Good ts → 8 * ts.length ≤ f → Loc (db f d k l) (db f' d k l) ts
 | 0,l,ts,hg,hf => Loc.pure hg l
 | k + 1,l,ts,hg,hf =>
  Loc.eq (Loc.opt hg 1 (by decide) mN (A := fun us => bg (dV f d l us) (fun l' us => db f d k l' us)) (A' := fun us => bg (dV f' d l us) (fun l' us => db f' d k l' us))
   (fun g => Loc.seq (loc_join l g hff (by have := hg.lt; omega)) (fun l' us h => ou hff k l' us (lg g h).2 (by have := (lg g h).1.length_le; have := hg.lt; omega))) (Loc.pure hg l)) (qA f k l) (qA f' k l)
theorem tv (f : Nat) (ts : List Tok) : dW f d ts = if atT 1 fS ts = true then bg (eu (ts.drop 1)) (fun r us => db f d 5 [⟨r.1,r.2,Ex.zero⟩] us) else .ok ([],ts) := by
 unfold dW bg
 split
 · cases eu (ts.drop 1) with
   | error x => rfl
   | ok r => obtain ⟨⟨t,s⟩,us⟩ := r; rfl
 · rfl
theorem loc_from (hg : Good ts) (hff : f ≤ f') (hf : 8 * ts.length ≤ f) : Loc (dW f d) (dW f' d) ts :=
 Loc.eq (Loc.opt hg 1 (by decide) fS (A := fun us => bg (eu us) (fun r us => db f d 5 [⟨r.1,r.2,Ex.zero⟩] us)) (A' := fun us => bg (eu us) (fun r us => db f' d 5 [⟨r.1,r.2,Ex.zero⟩] us))
  (fun g => Loc.seq (tq g) (fun r us h => ou hff 5 _ us (fW g h).2 (by have := (fW g h).1.length_le; have := hg.lt; omega))) (Loc.pure hg [])) (tv f) (tv f')
theorem loc_star (hg : Good ts) (hff : f ≤ f') (hf : 8 * ts.length + 8 ≤ f) : Loc (e9 f d) (e9 f' d) ts :=
 Loc.opt hg 4 (by decide) [42] (A := fun us => .ok ([],us)) (A' := fun us => .ok ([],us)) (fun g => Loc.pure g []) (jz (N := ts.length) beg_hd (fun s us hu hul => loc_item s hu hff (by omega)) (fun _ _ _ _ hu h => jO hu h) 17 0 [] ts hg (Nat.le_refl _))
theorem qB (ts : List Tok) : dx ts = if atT 1 kc ts = true then dD byB (ts.drop 1) (fun us => cz nmT jh 17 0 [] us) else .ok ([],ts) := by
 unfold dx dD
 split
 · cases bI byB (ts.drop 1) <;> rfl
 · rfl
theorem uI (hg : Good ts) : Loc dx dx ts :=
 Loc.eq (Loc.opt hg 1 (by decide) kc (A := fun us => dD byB us (fun us => cz nmT jh 17 0 [] us)) (A' := fun us => dD byB us (fun us => cz nmT jh 17 0 [] us))
  (fun g => Loc.word g byB (fun g2 => jz (N := ((ts.drop 1).drop 1).length) om (fun s us hu _ => loc_ord s hu) (fun _ _ _ _ hu h => kJ hu h) 17 0 [] _ g2 (Nat.le_refl _))) (Loc.pure hg [])) qB qB
theorem uJ (hg : Good ts) : Loc ee ee ts :=
 Loc.opt hg 1 (by decide) lf (A := fun us => if (hd us).k = 2 then .ok ((true,iz (hd us).t),us.drop 1) else eS us) (A' := fun us => if (hd us).k = 2 then .ok ((true,iz (hd us).t),us.drop 1) else eS us)
  (fun g => Loc.ite (k_hd 2) (fun h => Loc.takes g (g.drop (by rw [h]; decide)) (fun t => (true,iz t.t))) (fun _ => Loc.bad g)) (Loc.pure hg (false,0))
def hJ (f d : Nat) (di st : Bool) : PA QryX := fun ts => bg (e9 f d ts) (fun its t1 => bg (dW f d t1) (fun fr t2 => bg (cF f d t2) (fun wh t3 => bg (dx t3) (fun os t4 => bg (ee t4) (fun ll t5 => .ok (⟨di,st,its,fr,wh,os,ll.1,ll.2⟩,t5))))))
def jA (t : Tok) : Bool := atT 4 [42] [t]
theorem qry_eq (f : Nat) (ts : List Tok) : cI f d ts = if atT 1 bA ts = true then hJ f d true (jA (hd (ts.drop 1))) (ts.drop 1) else hJ f d false (jA (hd ts)) ts := by
 have key : ∀ di V,(match e9 f d V with
  | .error x => .error x
  | .ok (its,t1) => match dW f d t1 with
   | .error x => .error x
   | .ok (fr,t2) => match cF f d t2 with
    | .error x => .error x
    | .ok (wh,t3) => match dx t3 with
     | .error x => .error x
     | .ok (os,t4) => match ee t4 with
      | .error x => .error x
      | .ok ((li,lim),t5) => .ok (⟨di,atT 4 [42] V,its,fr,wh,os,li,lim⟩,t5) : PT QryX) = hJ f d di (jA (hd V)) V := fun di V => by
  unfold hJ bg
  cases e9 f d V with
  | error x => rfl
  | ok r =>
   obtain ⟨its,t1⟩ := r
   simp only
   cases dW f d t1 with
   | error x => rfl
   | ok r =>
    obtain ⟨fr,t2⟩ := r
    simp only
    cases cF f d t2 with
    | error x => rfl
    | ok r =>
     obtain ⟨wh,t3⟩ := r
     simp only
     cases dx t3 with
     | error x => rfl
     | ok r =>
      obtain ⟨os,t4⟩ := r
      simp only
      cases ee t4 with
      | error x => rfl
      | ok r => obtain ⟨⟨li,lim⟩,t5⟩ := r; rfl
 unfold cI
 refine (key (atT 1 bA ts) (cG ts)).trans ?_
 unfold cG
 by_cases h : atT 1 bA ts = true
 · rw [if_pos h,if_pos h,h]
 · rw [if_neg h,if_neg h,Bool.eq_false_iff.2 h]
theorem qC (di st : Bool) (hg : Good ts) (hff : f ≤ f') (hf : 8 * ts.length + 8 ≤ f) : Loc (hJ f d di st) (hJ f' d di st) ts :=
 Loc.seq (loc_star hg hff hf) (fun its t1 h1 =>
  have c1 := n6 hg h1
  have l1 := c1.1.length_le
  Loc.seq (loc_from c1.2 hff (by omega)) (fun fr t2 h2 =>
   have c2 := n9 c1.2 h2
   have l2 := c2.1.length_le
   Loc.seq (lq c2.2 hff (by omega)) (fun wh t3 h3 =>
    have c3 := eL c2.2 h3
    Loc.seq (uI c3.2) (fun os t4 h4 =>
     have c4 := mP c3.2 h4
     Loc.seq (uJ c4.2) (fun ll t5 h5 => Loc.pure (mQ c4.2 (li := ll.1) (lim := ll.2) h5).2 _)))))
theorem uK (hg : Good ts) (hff : f ≤ f') (hf : 8 * ts.length + 8 ≤ f) : Loc (cI f d) (cI f' d) ts :=
 Loc.eq (Loc.opt hg 1 (by decide) bA (A := fun us => hJ f d true (jA (hd us)) us) (A' := fun us => hJ f' d true (jA (hd us)) us)
  (fun g => Loc.head (A := fun t => hJ f d true (jA t)) (A' := fun t => hJ f' d true (jA t)) (qC _ _ g hff (by have := hg.lt; omega)))
  (B := fun us => hJ f d false (jA (hd us)) us) (B' := fun us => hJ f' d false (jA (hd us)) us) (Loc.head (A := fun t => hJ f d false (jA t)) (A' := fun t => hJ f' d false (jA t)) (qC _ _ hg hff hf))) (qry_eq f) (qry_eq f')
theorem na (f k : Nat) (l : List (List Ex)) (ts : List Tok) : cN f d (k + 1) l ts = bg (inP eF (fT f d) ts) (fun r us => if atT 4 [44] us = true then cN f d k (l ++ [r]) (us.drop 1) else .ok (l ++ [r],us)) := by
 rw [cN]; unfold bg
 cases inP eF (fT f d) ts <;> rfl
theorem qD (hff : f ≤ f') : ∀ (k : Nat) (l : List (List Ex)) (ts : List Tok),Good ts → ts.length ≤ k → 8 * ts.length + 8 ≤ f → LocR (fun ts' r => ∀ j,ts'.length ≤ j → cN f' d j l ts' = r) ts (cN f d k l ts)
 | 0,l,ts,hg,hk,hf => by have := hg.ne; omega
 | k + 1,l,ts,hg,hk,hf => by
  have hin : Loc (inP eF (fT f d)) (inP eF (fT f' d)) ts := r9 (N := ts.length) beg_hd (fun s us hu hul => loc_exs s hu hff (by omega)) (fun _ _ _ _ hu h => gO hu h) hg (Nat.le_refl _)
  have hne : ∀ (P : PA (List Ex)) (ts' : List Tok) (j : Nat),ts'.length ≤ j → (∃ i,j = i + 1) ∨ ts' = [] := fun _ ts' j hj => by
   cases j with
   | zero => exact .inr (List.length_eq_zero_iff.1 (by omega))
   | succ i => exact .inl ⟨i,rfl⟩
  rw [na]
  have h0 : LocR (fun ts' r => ts' ≠ [] ∧ inP eF (fT f' d) ts' = r ∧ ∀ a us',r = .ok (a,us') → us'.length ≤ ts'.length) ts (inP eF (fT f d) ts) := by
   have h := hin.len
   cases hr : inP eF (fT f d) ts with
   | error x =>
    rw [hr] at h
    obtain ⟨pre,u,post,q1,q2,q3⟩ := h
    exact ⟨pre,u,post,q1,q2,fun p => ⟨by simp,q3 p⟩⟩
   | ok r =>
    obtain ⟨a,us⟩ := r
    rw [hr] at h
    obtain ⟨pre,u,post,q1,q2,q3⟩ := h
    exact ⟨pre,u,post,q1,q2,fun p => ⟨by simp,q3 p⟩⟩
  refine LocR.bind (R2 := fun r us' q => ∀ i,us'.length ≤ i + 1 → (if atT 4 [44] us' = true then cN f' d i (l ++ [r]) (us'.drop 1) else .ok (l ++ [r],us')) = q) h0 (fun r us hr => ?_) (fun r ts' us' q ⟨q0,q1,q2⟩ q3 j hj => ?_) (fun ts' x ⟨q0,q1,_⟩ j hj => ?_)
  · have c1 := jS (fun _ _ _ _ hu h => gO hu h) hg hr
    have hl1 := c1.1.length_le
    by_cases hc : atT 4 [44] us = true
    · have g2 := c1.2.next (by decide) hc
      obtain ⟨u,ul,rfl⟩ := m8 c1.2
      simp only [List.length_cons] at hl1
      have ihr := qD hff k (l ++ [r]) ul g2 (by omega) (by omega)
      rw [if_pos hc]
      show LocR _ (u :: ul) (cN f d k (l ++ [r]) ul)
      have hat : ∀ p,atT 4 [44] (u :: p) = true := fun p => hc
      cases hq : cN f d k (l ++ [r]) ul with
      | error x =>
       rw [hq] at ihr
       obtain ⟨pre,v,post,z1,z2,z3⟩ := ihr
       exact ⟨u :: pre,v,post,by rw [z1]; rfl,z2,fun p i hi => by
        show (if atT 4 [44] (u :: (pre ++ v :: p)) = true then cN f' d i (l ++ [r]) (pre ++ v :: p) else _) = _
        rw [if_pos (hat _)]; exact z3 p i (by simpa using hi)⟩
      | ok q =>
       obtain ⟨b,zs⟩ := q
       rw [hq] at ihr
       obtain ⟨pre,v,post,z1,z2,z3⟩ := ihr
       exact ⟨u :: pre,v,post,by rw [z1]; rfl,z2,fun p i hi => by
        show (if atT 4 [44] (u :: (pre ++ v :: p)) = true then cN f' d i (l ++ [r]) (pre ++ v :: p) else _) = _
        rw [if_pos (hat _)]; exact z3 p i (by simpa using hi)⟩
    · obtain ⟨u,ul,rfl⟩ := m8 c1.2
      rw [if_neg hc]
      have hat : ∀ p,¬ atT 4 [44] (u :: p) = true := fun p => hc
      exact ⟨[],u,ul,rfl,rfl,fun p i _ => if_neg (hat p)⟩
  · rcases hne (fun _ => .error (0,0)) ts' j hj with ⟨i,rfl⟩ | h
    · rw [na,q1]
      exact q3 i (Nat.le_trans (q2 r us' rfl) hj)
    · exact absurd h q0
  · rcases hne (fun _ => .error (0,0)) ts' j hj with ⟨i,rfl⟩ | h
    · rw [na,q1]; rfl
    · exact absurd h q0
theorem uL (hg : Good ts) (hff : f ≤ f') (hf : 8 * ts.length + 8 ≤ f) : Loc (fun ts => cN f d ts.length [] ts) (fun ts => cN f' d ts.length [] ts) ts :=
 (qD hff ts.length [] ts hg (Nat.le_refl _) hf).mono (fun _ _ h => h _ (Nat.le_refl _))
def crT : PA StmtX := fun us => bg (bj us) (fun t us => bg (inP nmT jr us) (fun l vs => .ok ({ StmtX.zero with k := 1,t := t,cols := l },vs)))
def crI (u : Bool) : PA StmtX := fun us => dD eb us (fun us => bg (bj us) (fun n vs => dD onB vs (fun zs => bg (bj zs) (fun t xs => bg (inP nmT onP xs) (fun l ys => .ok ({ StmtX.zero with k := 3,un := u,n := n,t := t,on := l },ys))))))
def crU : PA StmtX := fun ts => if atT 1 cO ts = true then crI true (ts.drop 1) else crI false ts
theorem ov (ts : List Tok) : eK ts = if atT 1 ea ts = true then crT (ts.drop 1) else crU ts := by
 have key : ∀ u V,(match bI eb V with
  | .error x => .error x
  | .ok us => match bj us with
   | .error x => .error x
   | .ok (n,vs) => match bI onB vs with
    | .error x => .error x
    | .ok zs => match bj zs with
     | .error x => .error x
     | .ok (t,xs) => match inP nmT onP xs with
      | .error x => .error x
      | .ok (l,ys) => .ok ({ StmtX.zero with k := 3,un := u,n := n,t := t,on := l },ys) : PT StmtX) = crI u V := fun u V => by
  unfold crI dD bg
  cases bI eb V with
  | error x => rfl
  | ok us =>
   simp only
   cases bj us with
   | error x => rfl
   | ok r =>
    obtain ⟨n,vs⟩ := r
    simp only
    cases bI onB vs with
    | error x => rfl
    | ok zs =>
     simp only
     cases bj zs with
     | error x => rfl
     | ok r => obtain ⟨t,xs⟩ := r; simp only; cases inP nmT onP xs <;> rfl
 by_cases h : atT 1 ea ts = true
 · rw [cr_t h,if_pos h]
   unfold crT bg
   cases bj (ts.drop 1) with
   | error x => rfl
   | ok r => obtain ⟨t,us⟩ := r; simp only; cases inP nmT jr us <;> rfl
 · rw [cr_i (Bool.eq_false_iff.2 h),if_neg h]
   refine (key _ _).trans ?_
   unfold crU
   by_cases hu : atT 1 cO ts = true
   · rw [if_pos hu,if_pos hu,hu]
   · rw [if_neg hu,if_neg hu,Bool.eq_false_iff.2 hu]
theorem tw (u : Bool) (hg : Good ts) : Loc (crI u) (crI u) ts :=
 Loc.word hg eb (fun g1 => Loc.seq (cZ g1) (fun _ _ h1 => Loc.word (bs g1 h1).2 onB (fun g2 => Loc.seq (cZ g2) (fun _ xs h2 =>
  have g3 := (bs g2 h2).2
  Loc.seq (r9 (N := xs.length) om (fun s _ hu _ => loc_on s hu) (fun _ _ _ _ hu h => kP hu h) g3 (Nat.le_refl _)) (fun _ _ h3 => Loc.pure (jS (fun _ _ _ _ hu h => kP hu h) g3 h3).2 _)))))
theorem sa (hg : Good ts) : Loc eK eK ts :=
 Loc.eq (Loc.opt hg 1 (by decide) ea (A := crT) (A' := crT) (fun g1 => Loc.seq (cZ g1) (fun t us h1 =>
   have g2 := (bs g1 h1).2
   Loc.seq (r9 (N := us.length) om (fun s us hu _ => loc_col s hu) (fun _ _ _ _ hu h => jw hu h) g2 (Nat.le_refl _)) (fun l vs h2 => Loc.pure (jS (fun _ _ _ _ hu h => jw hu h) g2 h2).2 _)))
  (Loc.opt hg 1 (by decide) cO (A := crI true) (A' := crI true) (fun g => tw true g) (tw false hg))) ov ov
theorem qE (ts : List Tok) : fU ts = if atT 1 ea ts = true then bg (bj (ts.drop 1)) (fun t us => .ok ({ StmtX.zero with k := 2,t := t },us)) else dD eb ts (fun us => bg (bj us) (fun n vs => .ok ({ StmtX.zero with k := 4,n := n },vs))) := by
 unfold fU bg dD
 split
 · cases bj (ts.drop 1) <;> rfl
 · cases bI eb ts with
   | error x => rfl
   | ok us => simp only; cases bj us <;> rfl
theorem loc_drop (hg : Good ts) : Loc fU fU ts :=
 Loc.eq (Loc.opt hg 1 (by decide) ea (A := fun us => bg (bj us) (fun t us => .ok ({ StmtX.zero with k := 2,t := t },us))) (A' := fun us => bg (bj us) (fun t us => .ok ({ StmtX.zero with k := 2,t := t },us)))
   (fun g => Loc.seq (cZ g) (fun t us h => Loc.pure (bs g h).2 _))
  (Loc.word hg eb (fun g => Loc.seq (cZ g) (fun t us h => Loc.pure (bs g h).2 _)))) qE qE
theorem ow (f : Nat) (ts : List Tok) : dt f d ts = dD jq ts (fun us => bg (bj us) (fun t vs => dD gp vs (fun zs => bg (cN f d zs.length [] zs) (fun l xs => .ok ({ StmtX.zero with k := 5,t := t,rows := l },xs))))) := by
 unfold dt bg dD
 cases bI jq ts with
 | error x => rfl
 | ok us =>
  simp only
  cases bj us with
  | error x => rfl
  | ok r =>
   obtain ⟨t,vs⟩ := r
   simp only
   cases bI gp vs with
   | error x => rfl
   | ok zs => simp only; cases cN f d zs.length [] zs <;> rfl
theorem sc (hg : Good ts) (hff : f ≤ f') (hf : 8 * ts.length + 8 ≤ f) : Loc (dt f d) (dt f' d) ts :=
 Loc.eq (Loc.word hg jq (fun g1 => Loc.seq (cZ g1) (fun t vs h1 =>
  have c1 := bs g1 h1
  Loc.word c1.2 gp (fun g2 => Loc.seq (P := fun zs => cN f d zs.length [] zs) (P' := fun zs => cN f' d zs.length [] zs) (uL g2 hff (by have := c1.1.length_le; rw [List.length_drop] at this ⊢; omega)) (fun l xs h2 => Loc.pure (lk _ _ _ _ _ g2 h2).2 _))))) (ow f) (ow f')
theorem ox (f : Nat) (ts : List Tok) : dH f d ts = dD fS ts (fun us => bg (bj us) (fun t vs => bg (cF f d vs) (fun e zs => .ok ({ StmtX.zero with k := 6,t := t,wh := e },zs)))) := by
 unfold dH bg dD
 cases bI fS ts with
 | error x => rfl
 | ok us =>
  simp only
  cases bj us with
  | error x => rfl
  | ok r => obtain ⟨t,vs⟩ := r; simp only; cases cF f d vs <;> rfl
theorem sd (hg : Good ts) (hff : f ≤ f') (hf : 8 * ts.length + 8 ≤ f) : Loc (dH f d) (dH f' d) ts :=
 Loc.eq (Loc.word hg fS (fun g1 => Loc.seq (cZ g1) (fun t vs h1 =>
  have c1 := bs g1 h1
  Loc.seq (lq c1.2 hff (by have := c1.1.length_le; rw [List.length_drop] at this; omega)) (fun e zs h2 => Loc.pure (eL c1.2 h2).2 _)))) (ox f) (ox f')
theorem oy (f : Nat) (ts : List Tok) : du f d ts = bg (bj ts) (fun t us => dD setB us (fun vs => bg (cz nmT (gK f d) 17 0 [] vs) (fun l zs => bg (cF f d zs) (fun e xs => .ok ({ StmtX.zero with k := 7,t := t,sets := l,wh := e },xs))))) := by
 unfold du bg dD
 cases bj ts with
 | error x => rfl
 | ok r =>
  obtain ⟨t,us⟩ := r
  simp only
  cases bI setB us with
  | error x => rfl
  | ok vs =>
   simp only
   cases cz nmT (gK f d) 17 0 [] vs with
   | error x => rfl
   | ok r => obtain ⟨l,zs⟩ := r; simp only; cases cF f d zs <;> rfl
theorem se (hg : Good ts) (hff : f ≤ f') (hf : 8 * ts.length + 8 ≤ f) : Loc (du f d) (du f' d) ts :=
 Loc.eq (Loc.seq (cZ hg) (fun t us h1 =>
  have c1 := bs hg h1
  have l1 := c1.1.length_le
  Loc.word c1.2 setB (fun g1 =>
   have l2 : (us.drop 1).length ≤ us.length := by rw [List.length_drop]; omega
   Loc.seq (jz (N := (us.drop 1).length) om (fun s vs hu hul => loc_set s hu hff (by omega)) (fun _ _ _ _ hu h => jx hu h) 17 0 [] _ g1 (Nat.le_refl _)) (fun l zs h2 =>
    have c2 := cT (fun _ _ _ _ hu h => jx hu h) _ _ _ _ _ _ g1 h2
    Loc.seq (lq c2.2 hff (by have := c2.1.length_le; omega)) (fun e xs h3 => Loc.pure (eL c2.2 h3).2 _))))) (oy f) (oy f')
theorem oz (f : Nat) (ts : List Tok) : fa f d ts = bg (cI f d ts) (fun q us => .ok ({ StmtX.zero with k := 8,q := q },us)) := by unfold fa bg; cases cI f d ts <;> rfl
theorem sf (hg : Good ts) (hff : f ≤ f') (hf : 8 * ts.length + 8 ≤ f) : Loc (fa f d) (fa f' d) ts :=
 Loc.ofBind (uK hg hff hf) (fun _ _ h => Loc.pure (m7 hg h).2 _) (oz f) (oz f')
theorem loc_stmt (hg : Good ts) (hff : f ≤ f') (hf : 8 * ts.length ≤ f) : Loc (dC f d) (dC f' d) ts :=
 have hl := hg.lt
 have tk : ∀ k : Int,∀ (P P' : PA StmtX),Loc P P' ts → ∀ w : List UInt8,Loc (fun ts => if atT 1 w ts = true then .ok ({ StmtX.zero with k := k },ts.drop 1) else P ts) (fun ts => if atT 1 w ts = true then .ok ({ StmtX.zero with k := k },ts.drop 1) else P' ts) ts := fun k P P' h w =>
  Loc.opt hg 1 (by decide) w (A := fun us => .ok ({ StmtX.zero with k := k },us)) (A' := fun us => .ok ({ StmtX.zero with k := k },us)) (fun g => Loc.pure g _) h
 Loc.opt hg 1 (by decide) go (fun g => sa g) (Loc.opt hg 1 (by decide) lO (fun g => loc_drop g) (Loc.opt hg 1 (by decide) iT (fun g => sc g hff (by omega)) (Loc.opt hg 1 (by decide) jN (fun g => sd g hff (by omega))
  (Loc.opt hg 1 (by decide) kH (fun g => se g hff (by omega)) (Loc.opt hg 1 (by decide) hD (fun g => sf g hff (by omega)) (tk 9 _ _ (tk 10 _ _ (tk 11 eS eS (Loc.bad hg) fG) hG) iU))))))
end
def endC (s : StmtX) : PA StmtX := fun us => if (hd us).k = 5 then .ok (s,us) else eS us
def endS (s : StmtX) : PA StmtX := fun us => if atT 4 [59] us = true then endC s (us.drop 1) else endC s us
def l9 (f : Nat) : PA StmtX := fun ts => bg (dC f 0 ts) endS
theorem qF {f : Nat} {ts : List Tok} {x : Flt} : js f ts = .error x ↔ l9 f ts = .error x := by
 have e1 : ∀ s us,(if (hd (if atT 4 [59] us = true then us.drop 1 else us)).k = 5 then (.ok s : Except Flt StmtX) else .error (190,(hd (if atT 4 [59] us = true then us.drop 1 else us)).a)) = .error x ↔ endS s us = .error x := fun s us => by
  unfold endS endC eS
  by_cases h : atT 4 [59] us = true
  · rw [if_pos h,if_pos h]
    by_cases h2 : (hd (us.drop 1)).k = 5
    · rw [if_pos h2,if_pos h2]; exact ⟨fun h => (by cases h),fun h => (by cases h)⟩
    · rw [if_neg h2,if_neg h2]; exact ⟨fun h => (by cases h; rfl),fun h => (by cases h; rfl)⟩
  · rw [if_neg h,if_neg h]
    by_cases h2 : (hd us).k = 5
    · rw [if_pos h2,if_pos h2]; exact ⟨fun h => (by cases h),fun h => (by cases h)⟩
    · rw [if_neg h2,if_neg h2]; exact ⟨fun h => (by cases h; rfl),fun h => (by cases h; rfl)⟩
 unfold js l9 bg
 cases dC f 0 ts with
 | error y => exact ⟨fun h => (by cases h; rfl),fun h => (by cases h; rfl)⟩
 | ok r => obtain ⟨s,us⟩ := r; exact e1 s us
theorem qG {us : List Tok} (s : StmtX) (hg : Good us) : Loc (endC s) (endC s) us := Loc.ite (k_hd 5) (fun _ => Loc.pure hg s) (fun _ => Loc.bad hg)
theorem qH {f f' : Nat} {ts : List Tok} (hg : Good ts) (hff : f ≤ f') (hf : 8 * ts.length ≤ f) : Loc (l9 f) (l9 f') ts :=
 Loc.seq (loc_stmt hg hff hf) (fun s us h => Loc.opt (lm hg h).2 4 (by decide) [59] (fun g => qG s g) (qG s (lm hg h).2))
theorem uM {f f' : Nat} {ts : List Tok} (hg : Good ts) (hff : f ≤ f') (hf : 8 * ts.length ≤ f) {x : Flt} (h : l9 f' ts = .error x) : l9 f ts = .error x := by
 have k : LocR (fun ts' r => l9 f' ts' = r) ts (l9 f ts) := qH hg hff hf
 cases hr : l9 f ts with
 | error y =>
  rw [hr] at k
  obtain ⟨pre,u,post,q1,q2,q3⟩ := k
  have := q3 post
  rw [← q1,h] at this; exact this.symm
 | ok r =>
  obtain ⟨a,us⟩ := r
  rw [hr] at k
  obtain ⟨pre,u,post,q1,q2,q3⟩ := k
  have := q3 post
  rw [← q1,h] at this; cases this
theorem tz : ∀ {pre pre2 : List Tok} {u u2 : Tok} {post post2 : List Tok},(pre ++ u :: post).Pairwise (fun x y => x.a < y.a) → pre ++ u :: post = pre2 ++ u2 :: post2 → u.a = u2.a → pre = pre2 ∧ u = u2
 | [],[],u,u2,post,post2,hp,e,ha => ⟨rfl,(List.cons.inj e).1⟩
 | [],v :: pre2,u,u2,post,post2,hp,e,ha => by
  obtain ⟨rfl,e3⟩ := List.cons.inj e
  have e3 : post = pre2 ++ u2 :: post2 := e3
  have := (List.pairwise_cons.1 hp).1 u2 (by rw [e3]; exact List.mem_append_right _ List.mem_cons_self)
  omega
 | v :: pre,[],u,u2,post,post2,hp,e,ha => by
  obtain ⟨rfl,e3⟩ := List.cons.inj e
  have := (List.pairwise_cons.1 hp).1 u (List.mem_append_right _ List.mem_cons_self)
  omega
 | v :: pre,v2 :: pre2,u,u2,post,post2,hp,e,ha => by
  obtain ⟨rfl,e3⟩ := List.cons.inj e
  have e3 : pre ++ u :: post = pre2 ++ u2 :: post2 := e3
  obtain ⟨h1,h2⟩ := tz (List.pairwise_cons.1 hp).2 e3 ha
  exact ⟨by rw [h1],h2⟩
theorem lP {ts : List Tok} {x : Flt} (hg : Good ts) (hi : ts.Pairwise (fun x y => x.a < y.a)) (h : js (8 * ts.length + 8) ts = .error x) : 0 ≤ x.1 ∧ ∃ pre u post,ts = pre ++ u :: post ∧ x.2 = u.a ∧ ∀ post',Good (pre ++ u :: post') → js (8 * (pre ++ u :: post').length + 8) (pre ++ u :: post') = .error x := by
 have h1 := qF.1 h
 have key : ∀ F,8 * ts.length + 8 ≤ F → LocR (fun ts' r => l9 F ts' = r) ts (.error x) := fun F hF => by
  have k : LocR (fun ts' r => l9 F ts' = r) ts (l9 (8 * ts.length + 8) ts) := qH hg hF (by omega)
  rwa [h1] at k
 obtain ⟨pre,u,post,q1,q2,_⟩ := key _ (Nat.le_refl _)
 refine ⟨q2.2,pre,u,post,q1,q2.1,fun post' hg' => ?_⟩
 have hF := key (max (8 * ts.length + 8) (8 * (pre ++ u :: post').length + 8)) (Nat.le_max_left _ _)
 refine qF.2 (uM hg' (Nat.le_max_right (8 * ts.length + 8) _) (by omega) ?_)
 obtain ⟨pre2,u2,post2,z1,z2,z3⟩ := hF
 obtain ⟨rfl,rfl⟩ := tz (q1 ▸ hi) (q1.symm.trans z1) (q2.1.symm.trans z2.1)
 exact z3 post'
def toT (l : List Tok) (p : Int) : Nat → Int
 | 0 => -1
 | i + 1 => if (l.getD i Tok.zero).a = p then (l.getD (i + 1) Tok.zero).a else toT l p i
theorem toT_no {l : List Tok} {p : Int} : ∀ {n : Nat},(∀ i,i < n → (l.getD i Tok.zero).a ≠ p) → toT l p n = -1
 | 0,_ => rfl
 | n + 1,h => by rw [toT,if_neg (h n (by omega))]; exact toT_no (fun i hi => h i (by omega))
theorem toT_at {l : List Tok} {p : Int} {k : Nat} (hk : (l.getD k Tok.zero).a = p) (hu : ∀ i,i < l.length → (l.getD i Tok.zero).a = p → i = k) : ∀ {n : Nat},k < n → n ≤ l.length → toT l p n = (l.getD (k + 1) Tok.zero).a
 | 0,h,_ => absurd h (Nat.not_lt_zero _)
 | n + 1,h,hn => by
  rw [toT]
  by_cases e : (l.getD n Tok.zero).a = p
  · rw [if_pos e,hu n (by omega) e]
  · rw [if_neg e]
    have : k ≠ n := fun h => e (by rw [← h]; exact hk)
    exact toT_at hk hu (by omega) (by omega)
theorem Pairwise.at {l : List Tok} (hp : l.Pairwise (fun x y => x.a < y.a)) {i j : Nat} (hij : i < j) (hj : j < l.length) : (l.getD i Tok.zero).a < (l.getD j Tok.zero).a := by
 have := List.pairwise_iff_getElem.1 hp i j (by omega) hj hij
 rwa [show l.getD i Tok.zero = l[i] by simp [List.getD,show i < l.length by omega],show l.getD j Tok.zero = l[j] by simp [List.getD,hj]]
theorem Pairwise.one {l : List Tok} (hp : l.Pairwise (fun x y => x.a < y.a)) {i j : Nat} (hi : i < l.length) (hj : j < l.length) (h : (l.getD i Tok.zero).a = (l.getD j Tok.zero).a) : i = j := by
 rcases Nat.lt_trichotomy i j with k | k | k
 · have := Pairwise.at hp k hj; omega
 · exact k
 · have := Pairwise.at hp k hi; omega
theorem qI {s t : List UInt8} {l m : List Tok} {x : Flt} (hs : s.length ≤ 2000) (ht : t.length ≤ 2000) (e1 : cQ s = .ok l) (e2 : cQ t = .ok m) (h : cu s = .error x) :
  (toT l x.2 (l.length - 1) < 0 → (l.getD (l.length - 1) Tok.zero).a = x.2) ∧ (¬ toT l x.2 (l.length - 1) < 0 → ∃ j : Nat,toT l x.2 (l.length - 1) = (j : Int) ∧ j ≤ s.length ∧ cu (s.take j ++ [10] ++ t) = .error x) := by
 have hg := (kK e1).1
 have hi := qu e1
 have h0 : js (8 * l.length + 8) l = .error x := by
  unfold cu at h; rw [e1] at h; exact h
 obtain ⟨_,pre,u,post,q1,q2,q3⟩ := lP hg hi h0
 have hl : l.length = pre.length + 1 + post.length := by rw [q1]; simp only [List.length_append,List.length_cons]; omega
 have hu : l.getD pre.length Tok.zero = u := by rw [q1]; simp [List.getD]
 have huq : ∀ i,i < l.length → (l.getD i Tok.zero).a = x.2 → i = pre.length := fun i hil he => Pairwise.one hi hil (by omega) (by rw [he,hu,q2])
 cases post with
 | nil =>
  have hn : l.length - 1 = pre.length := by rw [hl]; simp
  refine ⟨fun _ => by rw [hn,hu,q2],fun hh => absurd ?_ hh⟩
  rw [toT_no (fun i hi2 he => by have := huq i (by omega) he; omega)]; decide
 | cons v post =>
  have hlt : pre.length < l.length - 1 := by rw [hl]; simp only [List.length_cons]; omega
  have hto := toT_at (l := l) (p := x.2) (k := pre.length) (by rw [hu,q2]) huq hlt (by omega)
  obtain ⟨j,j1,j2,j3⟩ := lex_cut e1 (k := pre.length + 1) (by omega)
  rw [j1] at hto
  refine ⟨fun hh => absurd hh (by rw [hto]; omega),fun _ => ⟨j,hto,j2, ?_⟩⟩
  have hp := uf (s := s.take j) (by rw [List.length_take]; omega) ht j3 e2
  have htk : l.take (pre.length + 1) = pre ++ [u] := by
   rw [q1,show pre ++ u :: v :: post = (pre ++ [u]) ++ v :: post by simp]
   exact List.take_left' (by simp)
  have hdl : (l.take (pre.length + 1) ++ [(⟨5,[],(j : Int)⟩ : Tok)]).dropLast = pre ++ [u] := by rw [List.dropLast_concat,htk]
  rw [hdl,show pre ++ [u] ++ m.map (shT (((s.take j).length : Int) + 1)) = pre ++ u :: m.map (shT (((s.take j).length : Int) + 1)) by simp] at hp
  unfold cu
  rw [hp]
  exact q3 _ (by
   have := (kK hp).1
   exact this)
theorem lexR_neq (f : Nat) : ∀ (a : Nat) (r : List UInt8) (e : Int × Int),r.length < f → e7 f a r = .error e → e.1 ≠ 0 := by
 induction f with
 | zero => intro a r e h; omega
 | succ f ih =>
  intro a r e hf h
  cases r with
  | nil => cases h
  | cons c l =>
   unfold e7 at h
   split at h
   · rename_i he; cases h; exact he
   · rename_i he
     have hn := e8 (Decidable.not_not.1 he)
     cases hx : e7 f (a + (aU (c :: l)).n + gap ((c :: l).drop (aU (c :: l)).n)) (((c :: l).drop (aU (c :: l)).n).drop (gap ((c :: l).drop (aU (c :: l)).n))) with
     | error e' =>
      rw [hx] at h
      cases h
      exact ih _ _ _ (by simp only [List.length_drop,List.length_cons] at hf ⊢; omega) hx
     | ok ts' => rw [hx] at h; cases h
theorem qJ {s : List UInt8} (h : (fc (cQ s)).1 = 0) : ∃ ts,cQ s = .ok ts := by
 cases hx : cQ s with
 | ok ts => exact ⟨ts,rfl⟩
 | error e =>
  rw [hx] at h
  have h : e.1 = 0 := h
  unfold cQ at hx
  split at hx
  · cases hx; cases h
  · exact absurd h (lexR_neq _ _ _ _ (by rw [List.length_drop]; omega) hx)
def okP : Except Flt StmtX → Bool
 | .ok _ => true
 | .error _ => false
theorem errSIs (r : Except Flt StmtX) : nR (okP r) (errS r) := by
 cases r with
 | ok s => exact .inl ⟨rfl,rfl⟩
 | error x => exact .inr ⟨rfl,_,_,rfl⟩
theorem sg (s : List UInt8) : 0 ≤ (fcS (cu s)).1 := by
 cases hx : cu s with
 | ok st => exact Int.le_refl 0
 | error x =>
  show 0 ≤ x.1
  cases hl : cQ s with
  | error e =>
   unfold cu at hx; rw [hl] at hx
   have := lex_code s
   rw [hl] at this
   cases hx; exact this
  | ok l =>
   unfold cu at hx; rw [hl] at hx
   exact (lP (kK hl).1 (qu hl) hx).1
theorem qK {s t : List UInt8} (h : ((okP (cu s) || decide ((fc (cQ s)).1 ≠ 0)) || decide ((fc (cQ t)).1 ≠ 0)) = false) : ∃ x l m,cu s = .error x ∧ cQ s = .ok l ∧ cQ t = .ok m := by
 simp only [Bool.or_eq_false_iff,decide_eq_false_iff_not,Decidable.not_not] at h
 obtain ⟨l,hl⟩ := qJ h.1.2
 obtain ⟨m,hm⟩ := qJ h.2
 cases hx : cu s with
 | ok st => rw [hx] at h; cases h.1.1
 | error x => exact ⟨x,l,m,rfl,hl,hm⟩
end Go.WK.FL
namespace Go.WK
open Go.RowKit Go.ChangeShapes Go.WideShapes Go.ChangeAt Go.ChangeMaps
variable {H : Type} {enc : TypeId × Value → H}
theorem pi {a : Assume} {C : Checked} {os : Os} {f : FuncId} {fn : Func} {s : ChangeSpec} {conds : List PathCond} {apart fresh handsOn again : Bool} {X : World → Array Value → Prop}
  (hX : ∀ (w w' : World) (args : Array Value),w.heap = w'.heap → X w args → X w' args)
  (own : ownKnob C.prog.godebug = none) (started : os.Started) (noInit : C.prog.inits.idxOf? f = none) (hfn : C.prog.funcs[f]? = some fn)
  (witness : ∃ (w : World) (tape : Tape) (i : Input),w.os = os ∧ (w.forCall tape i).Shaped C.prog ∧ i.vars = [] ∧ Input.okWide C.prog (w.forCall tape i) .any w.heap.size f i ∧
   ((s.pre enc C.prog fn conds apart (w.forCall tape i).memory i.args ∧ X (w.forCall tape i).memory i.args) ∧ sizedMet enc C.prog fn (OpenSpec.ofChange s) apart (w.forCall tape i).memory i.args) ∧ a.holds C.prog (lone (Frame.enter C.prog f i.args .normal) [] (w.forCall tape i)))
  (contract : ∀ (W : World) (base : Nat) (args : Array Value) (ds gs : List (DataW H)) (before : List MemPlace),
   (∀ (j : Nat) t v,fn.params[j]? = some t → args[j]? = some v → Value.okWide C.prog W .any base t v) →
   DataW.Whole enc C.prog fn.params.toList s.vars apart W args.toList ds gs before →
   (DataW.weightsEach C.prog (fn.params.toList ++ s.plain.varTypes C.prog) (ds ++ gs)).all (· ≤ reachBytes) = true → X W args → W.ShapedOpen C.prog →
   Calls C.prog f args W fun e W' => ∃ v,e = .returned v ∧ s.post enc C.prog fn apart fresh handsOn again W args v W') :
  ReturnsInHanded a C os f .any (fun w args => (s.pre enc C.prog fn conds apart w args ∧ X w args) ∧ sizedMet enc C.prog fn (OpenSpec.ofChange s) apart w args) (s.post enc C.prog fn apart fresh handsOn again) := by
 refine returnsInHanded_of_calls own started noInit witness ?_
 intro w tape i _ hsh _ hok hpre _
 obtain ⟨_,_,_,fn',hfn',_,_,_,_,hval⟩ := hok
 have e : fn' = fn := Option.some.inj (hfn'.symm.trans hfn)
 subst e
 obtain ⟨⟨⟨ds,gs,before,hw,hc⟩,hx⟩,hz⟩ := hpre
 have hw' := DataW.Whole.of_heap (w' := w.forCall tape i) (by rfl) hw
 refine (contract (w.forCall tape i) w.heap.size i.args ds gs before hval hw' (hz.weights hw) (hX _ _ _ (by rfl) hx) hsh).mono fun e W' ⟨v,he,hp⟩ => ?_
 subst he
 exact ChangeSpec.post_blind hp
theorem nG {P : Program} {w0 : World} {laid : List (String × DataW Unit)} (args : Array Value) (hf : w0.layFits P laid [] = true) (hi : w0.layIfaces P laid (w0.layVars P laid) = true) : laidMet P laid ((w0.layVars P laid).forCall (fun _ _ => 0) ⟨#[],args,[]⟩).memory := by
 have e1 : (laid.filter fun x => (laid.map (·.1)).contains x.1) = laid := List.filter_eq_self.2 fun x hx => List.contains_iff_mem.2 (List.mem_map.2 ⟨x,hx,rfl⟩)
 have e2 : (laid.filter fun x => !(laid.map (·.1)).contains x.1) = [] := List.filter_eq_nil_iff.2 fun x hx => by rw [List.contains_iff_mem.2 (List.mem_map.2 ⟨x,hx,rfl⟩)]; simp
 have h : laidMet P laid (w0.layVars P laid) := laidMet_layVars (w0 := w0) (laid.map (·.1)) [] (by rw [e1]) (by rw [e1]; exact hf) (by rw [e1]; exact hi) (by rw [e2]; exact LaidIn.none)
 exact h.of_heap (by simp [World.memory,World.forCall,Input.heap])
theorem nb {P : Program} {laid : List (String × DataW Unit)} {w : World} {x : String × DataW Unit} (h : laidMetH P laid w) (e : (laid.filter fun x => x.2.handleName?.isSome) = [x]) : laidMet P (laid.filter fun x => x.2.handleName?.isNone) w ∧ handlesMet P [x] w := by
 unfold laidMetH at h
 rw [e] at h
 exact h
theorem nH {P : Program} {laid l2 : List (String × DataW Unit)} {w : World} {x : String × DataW Unit} (e : (laid.filter fun x => x.2.handleName?.isSome) = [x]) (e2 : (laid.filter fun x => x.2.handleName?.isNone) = l2) (h1 : laidMet P l2 w) (h2 : handlesMet P [x] w) : laidMetH P laid w := by
 unfold laidMetH
 rw [e,e2]
 exact ⟨h1,h2⟩
end Go.WK
