/- Parts of the proof, joined and made shorter by a program: Tree5, Tree6, Par3, Par4, Par5, Prn1, Prn2, Value5, Prn3, Back1, Back2, Prn4, Prn5, Prn6, Prn7, Wk13, Prn8, Prn9, Prn10, Back3, Back4, Back5, Prn11, Prn12, PLaid, PCard. -/
import Derived.Test.YtjbpkcbefmpfgaaGreatDoorZ1
import Derived.Recover
import Derived.Lib.AppendStr
import Derived.Laws.Entries
import Derived.WideLaws
import Derived.KernelRfl
import Derived.LaidMore
import Derived.LaidHandle
import Derived.Lay
import Derived.HandedShaped
import Derived.Stop.LaidErr
import Derived.Lib.LaidTab
import Derived.Deep.DeepHandedRow
namespace Go.WK
open Go.RowKit
structure ColX where
 n : List UInt8
 k : Int
 b : Bool
structure ItemX where
 e : Ex
 s : List UInt8
structure SrcX where
 t : List UInt8
 s : List UInt8
 e : Ex
structure OrdX where
 n : List UInt8
 b : Bool
structure SetX where
 n : List UInt8
 e : Ex
structure QryX where
 di : Bool
 st : Bool
 items : List ItemX
 from_ : List SrcX
 wh : Ex
 ord : List OrdX
 li : Bool
 lim : Int
structure StmtX where
 k : Int
 t : List UInt8
 n : List UInt8
 cols : List ColX
 on : List (List UInt8)
 un : Bool
 rows : List (List Ex)
 sets : List SetX
 wh : Ex
 q : QryX
def QryX.zero : QryX := ⟨false,false,[],[],Ex.zero,[],false,0⟩
def StmtX.zero : StmtX := ⟨0,[],[],[],[],false,[],[],Ex.zero,QryX.zero⟩
abbrev PT (α : Type) := Except Flt (α × List Tok)
def W (s : List UInt8) (ts : List Tok) : Bool := atT 1 s ts
def pL : List UInt8 := [119,104,101,114,101]
def asB : List UInt8 := [97,115]
def lC : List UInt8 := [102,114,111,109]
def oG : List UInt8 := [106,111,105,110]
def onB : List UInt8 := [111,110]
def j3 : List UInt8 := [111,114,100,101,114]
def byB : List UInt8 := [98,121]
def i6 : List UInt8 := [100,101,115,99]
def j4 : List UInt8 := [108,105,109,105,116]
def bu : List UInt8 := [100,105,115,116,105,110,99,116]
def du : List UInt8 := [115,101,108,101,99,116]
def nu : List UInt8 := [99,114,101,97,116,101]
def tableB : List UInt8 := [116,97,98,108,101]
def dropB : List UInt8 := [100,114,111,112]
def indexB : List UInt8 := [105,110,100,101,120]
def nv : List UInt8 := [105,110,115,101,114,116]
def intoB : List UInt8 := [105,110,116,111]
def valuesB : List UInt8 := [118,97,108,117,101,115]
def nw : List UInt8 := [100,101,108,101,116,101]
def ny : List UInt8 := [117,112,100,97,116,101]
def setB : List UInt8 := [115,101,116]
def qW : List UInt8 := [117,110,105,113,117,101]
def beginB : List UInt8 := [98,101,103,105,110]
def commitB : List UInt8 := [99,111,109,109,105,116]
def sa : List UInt8 := [114,111,108,108,98,97,99,107]
def intB : List UInt8 := [105,110,116]
def textB : List UInt8 := [116,101,120,116]
def boolB : List UInt8 := [98,111,111,108]
def dZ (f d : Nat) (ts : List Tok) : PX Ex := if atT 1 pL ts = true then exP f 1 d (ts.drop 1) else .ok (Ex.zero,ts)
def it (ts : List Tok) : Bool :=
 if (hd ts).k = 2 ∨ (hd ts).k = 3 then true
 else if (hd ts).k = 4 then decide ((hd ts).t = [40]) || decide ((hd ts).t = [45])
 else if (hd ts).k = 1 then (if (hd ts).t = dl ∨ (hd ts).t = iZ ∨ (hd ts).t = gf ∨ (hd ts).t = fa then true else nmT ts)
 else false
def dm {τ : Type} (can : List Tok → Bool) (one : τ → List Tok → PT τ) : Nat → Nat → τ → List Tok → PT τ
 | 0,_,s,ts => .ok (s,ts)
 | f + 1,n,s,ts =>
  if n = 0 ∨ atT 4 [44] ts = true then
   (if can (if n = 0 then ts else ts.drop 1) = true then
    (if n = 16 then .error (3,(hd (if n = 0 then ts else ts.drop 1)).a) else match one s (if n = 0 then ts else ts.drop 1) with
     | .error x => .error x
     | .ok (s',us) => dm can one f (n + 1) s' us)
   else badT (if n = 0 then ts else ts.drop 1))
  else .ok (s,ts)
def asP (ts : List Tok) : PT (List UInt8) := if atT 1 asB ts = true then ct (ts.drop 1) else .ok ([],ts)
def fI (f d : Nat) (l : List ItemX) (ts : List Tok) : PT (List ItemX) := match exP f 1 d ts with
 | .error x => .error x
 | .ok (e,us) => match asP us with
  | .error x => .error x
  | .ok (n,vs) => .ok (l ++ [⟨e,n⟩],vs)
def fJ (ts : List Tok) : PT (List UInt8 × List UInt8) := match ct ts with
 | .error x => .error x
 | .ok (t,us) => match asP us with
  | .error x => .error x
  | .ok (n,vs) => .ok ((t,n),vs)
def lD (l : List OrdX) (ts : List Tok) : PT (List OrdX) := match ct ts with
 | .error x => .error x
 | .ok (n,us) => .ok (l ++ [⟨n,atT 1 i6 us⟩],if atT 1 i6 us = true then us.drop 1 else us)
def df (s : List UInt8) (ts : List Tok) : Except Flt (List Tok) := if atT 1 s ts = true then .ok (ts.drop 1) else .error (190,(hd ts).a)
def pN (s : List UInt8) (ts : List Tok) : Except Flt (List Tok) := if atT 4 s ts = true then .ok (ts.drop 1) else .error (190,(hd ts).a)
def fj (f d : Nat) (l : List SrcX) (ts : List Tok) : PT (List SrcX) :=
 if nmT ts = true ∧ l.length = 4 then .error (3,(hd ts).a) else match fJ ts with
 | .error x => .error x
 | .ok ((t,s),us) => match df onB us with
  | .error x => .error x
  | .ok vs => match exP f 1 d vs with
   | .error x => .error x
   | .ok (e,zs) => .ok (l ++ [⟨t,s,e⟩],zs)
def eu (f d : Nat) : Nat → List SrcX → List Tok → PT (List SrcX)
 | 0,l,ts => .ok (l,ts)
 | k + 1,l,ts => if atT 1 oG ts = true then (match fj f d l (ts.drop 1) with | .error x => .error x | .ok (l',us) => eu f d k l' us) else .ok (l,ts)
def eH (f d : Nat) (ts : List Tok) : PT (List SrcX) := if atT 1 lC ts = true then (match fJ (ts.drop 1) with | .error x => .error x | .ok ((t,s),us) => eu f d 5 [⟨t,s,Ex.zero⟩] us) else .ok ([],ts)
def fK (f d : Nat) (ts : List Tok) : PT (List ItemX) := if atT 4 [42] ts = true then .ok ([],ts.drop 1) else dm it (fI f d) 17 0 [] ts
def ea (ts : List Tok) : PT (List OrdX) := if atT 1 j3 ts = true then (match df byB (ts.drop 1) with | .error x => .error x | .ok us => dm nmT lD 17 0 [] us) else .ok ([],ts)
def eM (ts : List Tok) : PT (Bool × Int) := if atT 1 j4 ts = true then (if (hd (ts.drop 1)).k = 2 then .ok ((true,hZ (hd (ts.drop 1)).t),(ts.drop 1).drop 1) else badT (ts.drop 1)) else .ok ((false,0),ts)
def co (ts : List Tok) : List Tok := if atT 1 bu ts = true then ts.drop 1 else ts
def cP (f d : Nat) (ts : List Tok) : PT QryX := match fK f d (co ts) with
 | .error x => .error x
 | .ok (its,t1) => match eH f d t1 with
  | .error x => .error x
  | .ok (fr,t2) => match dZ f d t2 with
   | .error x => .error x
   | .ok (wh,t3) => match ea t3 with
    | .error x => .error x
    | .ok (os,t4) => match eM t4 with
     | .error x => .error x
     | .ok ((li,lim),t5) => .ok (⟨atT 1 bu ts,atT 4 [42] (co ts),its,fr,wh,os,li,lim⟩,t5)
def nz (ts : List Tok) : Int := if atT 1 intB ts = true then 1 else if atT 1 textB ts = true then 2 else if atT 1 boolB ts = true then 3 else 0
def colP (l : List ColX) (ts : List Tok) : PT (List ColX) := match ct ts with
 | .error x => .error x
 | .ok (n,us) => if nz us = 0 then badT us else
  if atT 1 fa (us.drop 1) = true then (match df dl ((us.drop 1).drop 1) with | .error x => .error x | .ok vs => .ok (l ++ [⟨n,nz us,true⟩],vs)) else .ok (l ++ [⟨n,nz us,false⟩],us.drop 1)
def onP (l : List (List UInt8)) (ts : List Tok) : PT (List (List UInt8)) := match ct ts with
 | .error x => .error x
 | .ok (n,us) => .ok (l ++ [n],us)
def setP (f d : Nat) (l : List SetX) (ts : List Tok) : PT (List SetX) := match ct ts with
 | .error x => .error x
 | .ok (n,us) => match pN [61] us with
  | .error x => .error x
  | .ok vs => match exP f 1 d vs with
   | .error x => .error x
   | .ok (e,zs) => .ok (l ++ [⟨n,e⟩],zs)
def exsP (f d : Nat) (l : List Ex) (ts : List Tok) : PT (List Ex) := match exP f 1 d ts with
 | .error x => .error x
 | .ok (e,us) => .ok (l ++ [e],us)
def inP {τ : Type} (can : List Tok → Bool) (one : List τ → List Tok → PT (List τ)) (ts : List Tok) : PT (List τ) := match pN [40] ts with
 | .error x => .error x
 | .ok us => match dm can one 17 0 [] us with
  | .error x => .error x
  | .ok (l,vs) => match pN [41] vs with
   | .error x => .error x
   | .ok zs => .ok (l,zs)
def rowsP (f d : Nat) : Nat → List (List Ex) → List Tok → PT (List (List Ex))
 | 0,l,ts => .ok (l,ts)
 | k + 1,l,ts => match inP it (exsP f d) ts with
  | .error x => .error x
  | .ok (r,us) => if atT 4 [44] us = true then rowsP f d k (l ++ [r]) (us.drop 1) else .ok (l ++ [r],us)
def createP (ts : List Tok) : PT StmtX :=
 if atT 1 tableB ts = true then (match ct (ts.drop 1) with
  | .error x => .error x
  | .ok (t,us) => match inP nmT colP us with
   | .error x => .error x
   | .ok (l,vs) => .ok ({ StmtX.zero with k := 1,t := t,cols := l },vs))
 else match df indexB (if atT 1 qW ts = true then ts.drop 1 else ts) with
  | .error x => .error x
  | .ok us => match ct us with
   | .error x => .error x
   | .ok (n,vs) => match df onB vs with
    | .error x => .error x
    | .ok zs => match ct zs with
     | .error x => .error x
     | .ok (t,xs) => match inP nmT onP xs with
      | .error x => .error x
      | .ok (l,ys) => .ok ({ StmtX.zero with k := 3,un := atT 1 qW ts,n := n,t := t,on := l },ys)
def dropP (ts : List Tok) : PT StmtX :=
 if atT 1 tableB ts = true then (match ct (ts.drop 1) with | .error x => .error x | .ok (t,us) => .ok ({ StmtX.zero with k := 2,t := t },us))
 else match df indexB ts with
  | .error x => .error x
  | .ok us => match ct us with | .error x => .error x | .ok (n,vs) => .ok ({ StmtX.zero with k := 4,n := n },vs)
def insertP (f d : Nat) (ts : List Tok) : PT StmtX := match df intoB ts with
 | .error x => .error x
 | .ok us => match ct us with
  | .error x => .error x
  | .ok (t,vs) => match df valuesB vs with
   | .error x => .error x
   | .ok zs => match rowsP f d zs.length [] zs with
    | .error x => .error x
    | .ok (l,xs) => .ok ({ StmtX.zero with k := 5,t := t,rows := l },xs)
def deleteP (f d : Nat) (ts : List Tok) : PT StmtX := match df lC ts with
 | .error x => .error x
 | .ok us => match ct us with
  | .error x => .error x
  | .ok (t,vs) => match dZ f d vs with
   | .error x => .error x
   | .ok (e,zs) => .ok ({ StmtX.zero with k := 6,t := t,wh := e },zs)
def updateP (f d : Nat) (ts : List Tok) : PT StmtX := match ct ts with
 | .error x => .error x
 | .ok (t,us) => match df setB us with
  | .error x => .error x
  | .ok vs => match dm nmT (setP f d) 17 0 [] vs with
   | .error x => .error x
   | .ok (l,zs) => match dZ f d zs with
    | .error x => .error x
    | .ok (e,xs) => .ok ({ StmtX.zero with k := 7,t := t,sets := l,wh := e },xs)
def fY (f d : Nat) (ts : List Tok) : PT StmtX := match cP f d ts with
 | .error x => .error x
 | .ok (q,us) => .ok ({ StmtX.zero with k := 8,q := q },us)
def jC (f d : Nat) (ts : List Tok) : PT StmtX :=
 if atT 1 nu ts = true then createP (ts.drop 1)
 else if atT 1 dropB ts = true then dropP (ts.drop 1)
 else if atT 1 nv ts = true then insertP f d (ts.drop 1)
 else if atT 1 nw ts = true then deleteP f d (ts.drop 1)
 else if atT 1 ny ts = true then updateP f d (ts.drop 1)
 else if atT 1 du ts = true then fY f d (ts.drop 1)
 else if atT 1 beginB ts = true then .ok ({ StmtX.zero with k := 9 },ts.drop 1)
 else if atT 1 commitB ts = true then .ok ({ StmtX.zero with k := 10 },ts.drop 1)
 else if atT 1 sa ts = true then .ok ({ StmtX.zero with k := 11 },ts.drop 1)
 else badT ts
def j5 (f : Nat) (ts : List Tok) : Except Flt StmtX := match jC f 0 ts with
 | .error x => .error x
 | .ok (s,us) => if (hd (if atT 4 [59] us = true then us.drop 1 else us)).k = 5 then .ok s else .error (190,(hd (if atT 4 [59] us = true then us.drop 1 else us)).a)
def cy (s : List UInt8) : Except Flt StmtX := match eK s with
 | .error x => .error x
 | .ok ts => j5 (8 * ts.length + 8) ts
end Go.WK
namespace Go.WK
open Go.RowKit
structure Kd (α : Type) where
 z : Nat
 pos : 0 < z
 rel : List Nat → World → α → List Value → Prop
 len : ∀ {bl w a cs},rel bl w a cs → cs.length = z
 one : ∀ {bl w a cs},rel bl w a cs → allOne cs = true
 stab : ∀ {bl w w' a cs},(∀ k ∈ bl,w'.heap[k]? = w.heap[k]?) → rel bl w a cs → rel bl w' a cs
 mono : ∀ {bl bl' w a cs},(∀ k ∈ bl,k ∈ bl') → rel bl w a cs → rel bl' w a cs
section
variable {α : Type} (K : Kd α)
def Kd.seq (bl : List Nat) (w : World) : List α → List Value → Prop
 | [],xs => xs = []
 | a :: l,xs => ∃ y ys,xs = y ++ ys ∧ K.rel bl w a y ∧ Kd.seq bl w l ys
theorem Kd.seq_len {bl : List Nat} {w : World} : ∀ {l : List α} {xs : List Value},K.seq bl w l xs → xs.length = l.length * K.z
 | [],_,h => by have h : _ = [] := h; rw [h]; simp
 | a :: l,_,h => by
  obtain ⟨y,ys,rfl,h1,h2⟩ := h
  rw [List.length_append,K.len h1,Kd.seq_len h2,List.length_cons,Nat.add_mul,Nat.one_mul,Nat.add_comm]
theorem dQ (a b : List Value) : allOne (a ++ b) = (allOne a && allOne b) := by
 induction a with
 | nil => rfl
 | cons x a ih => simp [allOne,ih,Bool.and_assoc]
theorem Kd.seq_stab {bl : List Nat} {w w' : World} (hs : ∀ k ∈ bl,w'.heap[k]? = w.heap[k]?) : ∀ {l : List α} {xs : List Value},K.seq bl w l xs → K.seq bl w' l xs
 | [],_,h => h
 | a :: l,_,h => by
  obtain ⟨y,ys,h0,h1,h2⟩ := h
  exact ⟨y,ys,h0,K.stab hs h1,Kd.seq_stab hs h2⟩
theorem Kd.seq_mono {bl bl' : List Nat} {w : World} (hs : ∀ k ∈ bl,k ∈ bl') : ∀ {l : List α} {xs : List Value},K.seq bl w l xs → K.seq bl' w l xs
 | [],_,h => h
 | a :: l,_,h => by
  obtain ⟨y,ys,h0,h1,h2⟩ := h
  exact ⟨y,ys,h0,K.mono hs h1,Kd.seq_mono hs h2⟩
theorem Kd.seq_app {bl : List Nat} {w : World} : ∀ {l m : List α} {xs ys : List Value},K.seq bl w l xs → K.seq bl w m ys → K.seq bl w (l ++ m) (xs ++ ys)
 | [],_,xs,_,h,k => by have h : xs = [] := h; subst h; exact k
 | a :: l,m,_,ys,h,k => by
  obtain ⟨y,zs,rfl,h1,h2⟩ := h
  exact ⟨y,zs ++ ys,by simp,h1,Kd.seq_app h2 k⟩
theorem Kd.seq_at {bl : List Nat} {w : World} (zero : α) : ∀ {l : List α} {xs : List Value} (i : Nat),K.seq bl w l xs → i < l.length → ∃ cs,(xs.drop (i * K.z)).take K.z = cs ∧ K.rel bl w (l.getD i zero) cs
 | [],_,i,_,hi => by simp at hi
 | a :: l,_,i,h,hi => by
  obtain ⟨y,ys,rfl,h2,h3⟩ := h
  have hy := K.len h2
  cases i with
  | zero =>
   refine ⟨y, ?_,h2⟩
   rw [Nat.zero_mul,List.drop_zero]
   exact List.take_left' hy
  | succ i =>
   obtain ⟨cs,k1,k2⟩ := Kd.seq_at zero i h3 (by simpa using hi)
   refine ⟨cs, ?_,by simpa using k2⟩
   rw [show (i + 1) * K.z = y.length + i * K.z by rw [hy,Nat.add_mul]; omega,List.drop_length_add_append]
   exact k1
def Kd.sl (bl : List Nat) (w : World) (l : List α) (v : Value) : Prop := ∃ (A : Option Addr) (k : Nat) (xs : List Value),v = .slice A l.length k ∧ l.length ≤ k ∧ Rd w A xs ∧ (∀ a,A = some a → l ≠ [] → a.block ∈ bl) ∧ K.seq bl w l xs
theorem Kd.sl_stab {bl : List Nat} {w w' : World} (hs : ∀ k ∈ bl,w'.heap[k]? = w.heap[k]?) {l : List α} {v : Value} (h : K.sl bl w l v) : K.sl bl w' l v := by
 obtain ⟨A,k,xs,h1,h2,h3,h4,h5⟩ := h
 refine ⟨A,k,xs,h1,h2,h3.same (fun a ha hne => hs _ (h4 a ha (fun e => hne ?_))),h4,K.seq_stab hs h5⟩
 rw [e] at h5
 exact h5
theorem Kd.sl_mono {bl bl' : List Nat} {w : World} (hs : ∀ k ∈ bl,k ∈ bl') {l : List α} {v : Value} (h : K.sl bl w l v) : K.sl bl' w l v := by
 obtain ⟨A,k,xs,h1,h2,h3,h4,h5⟩ := h
 exact ⟨A,k,xs,h1,h2,h3,fun a ha hne => hs _ (h4 a ha hne),K.seq_mono hs h5⟩
theorem Kd.sl_nil (bl : List Nat) (w : World) : K.sl bl w [] (.slice none 0 0) := ⟨none,0,[],rfl,Nat.le_refl _,Rd.nil _ _,(fun _ h => by cases h),rfl⟩
theorem lt_stab {bl : List Nat} {w w' : World} (h : ∀ k ∈ bl,k < w.heap.size) (hs : ∀ k,k ∈ bl → w'.heap[k]? = w.heap[k]?) : ∀ k ∈ bl,k < w'.heap.size := fun k hk => by
 have h1 := h k hk
 have h2 := hs k hk
 rcases Nat.lt_or_ge k w'.heap.size with h3 | h3
 · exact h3
 · rw [Array.getElem?_eq_none h3,Array.getElem?_eq_getElem h1] at h2; cases h2
def ofC (bl : List Nat) (φ : World → Prop) (st : ∀ w w',(∀ k ∈ bl,w'.heap[k]? = w.heap[k]?) → φ w → φ w') : Chunk where
 fp k := k ∈ bl
 holds w := φ w ∧ ∀ k ∈ bl,k < w.heap.size
 lt _ k h hk := h.2 k hk
 stab w w' h hs := ⟨st w w' hs h.1,lt_stab h.2 hs⟩
def eZ (bl : List Nat) (l : List α) (xs : List Value) : Chunk := ofC bl (fun w => K.seq bl w l xs) (fun _ _ hs h => K.seq_stab hs h)
end
theorem Sat.nilSeq {α : Type} (K : Kd α) {cx : Cx} {H : List Chunk} {w : World} (h : Sat cx H w) : Sat cx (eZ K [] [] [] :: H) w :=
 h.fuse (l := []) _ (fun _ => ⟨rfl,fun k hk => by cases hk⟩) (fun k hk => by cases hk)
theorem Sat.moreSeq {α : Type} (K : Kd α) {cx : Cx} {H : List Chunk} {w : World} {bl bm : List Nat} {l : List α} {xs cs ys : List Value} {a : α} {e : Ex} (h : Sat cx (eZ K bl l xs :: fi bm e cs :: H) w) (hr : ∀ w,ExK bm w e cs → K.rel bm w a ys) : Sat cx (eZ K (bl ++ bm) (l ++ [a]) (xs ++ ys) :: H) w := by
 refine Sat.fuse (l := [_,_]) h _ (fun hh => ?_) (fun j hj => ?_)
 · have h1 := hh _ List.mem_cons_self
   have h2 := hh _ (List.mem_cons_of_mem _ List.mem_cons_self)
   refine ⟨K.seq_app (K.seq_mono (fun k hk => List.mem_append_left _ hk) h1.1) ⟨ys,[],by simp,K.mono (fun k hk => List.mem_append_right _ hk) (hr w h2.1),rfl⟩,fun j hj => ?_⟩
   rcases List.mem_append.1 hj with hj | hj
   · exact h1.2 j hj
   · exact h2.2 j hj
 · rcases List.mem_append.1 hj with hj | hj
   · exact ⟨_,List.mem_cons_self,hj⟩
   · exact ⟨_,List.mem_cons_of_mem _ List.mem_cons_self,hj⟩
theorem Sat.moreSeq0 {α : Type} (K : Kd α) {cx : Cx} {H : List Chunk} {w : World} {bl : List Nat} {l : List α} {xs ys : List Value} {a : α} (h : Sat cx (eZ K bl l xs :: H) w) (hr : ∀ w,K.rel bl w a ys) : Sat cx (eZ K bl (l ++ [a]) (xs ++ ys) :: H) w := by
 refine Sat.fuse (l := [_]) h _ (fun hh => ?_) (fun j hj => ⟨_,List.mem_cons_self,hj⟩)
 have h1 := hh _ List.mem_cons_self
 exact ⟨K.seq_app h1.1 ⟨ys,[],by simp,hr w,rfl⟩,h1.2⟩
theorem ExK.len {bl : List Nat} {w : World} {e : Ex} {cs : List Value} (h : ExK bl w e cs) : cs.length = 8 := (ExK.c e cs h).len
theorem ExK.ones {bl : List Nat} {w : World} {e : Ex} {cs : List Value} (h : ExK bl w e cs) : allOne cs = true := by
 cases e with
 | mk o v t n c as => obtain ⟨A,k,xs,rfl,_⟩ := h; rfl
def exKd : Kd Ex := ⟨8,by decide,ExK,ExK.len,ExK.ones,fun hs h => ExK.stab hs _ _ h,fun hs h => ExK.mono hs _ _ h⟩
def itemKd : Kd ItemX := ⟨9,by decide,fun bl w a ys => ∃ cs,ys = cs ++ [.string (B a.s)] ∧ ExK bl w a.e cs,fun ⟨_,h1,h2⟩ => by rw [h1,List.length_append,h2.len]; rfl,fun ⟨_,h1,h2⟩ => by rw [h1,dQ,h2.ones]; rfl,
 fun hs ⟨cs,h1,h2⟩ => ⟨cs,h1,ExK.stab hs _ _ h2⟩,fun hs ⟨cs,h1,h2⟩ => ⟨cs,h1,ExK.mono hs _ _ h2⟩⟩
def srcKd : Kd SrcX := ⟨10,by decide,fun bl w a ys => ∃ cs,ys = [.string (B a.t),.string (B a.s)] ++ cs ∧ ExK bl w a.e cs,fun ⟨_,h1,h2⟩ => by rw [h1,List.length_append,h2.len]; rfl,fun ⟨_,h1,h2⟩ => by rw [h1,dQ,h2.ones]; rfl,
 fun hs ⟨cs,h1,h2⟩ => ⟨cs,h1,ExK.stab hs _ _ h2⟩,fun hs ⟨cs,h1,h2⟩ => ⟨cs,h1,ExK.mono hs _ _ h2⟩⟩
def setKd : Kd SetX := ⟨9,by decide,fun bl w a ys => ∃ cs,ys = [.string (B a.n)] ++ cs ∧ ExK bl w a.e cs,fun ⟨_,h1,h2⟩ => by rw [h1,List.length_append,h2.len]; rfl,fun ⟨_,h1,h2⟩ => by rw [h1,dQ,h2.ones]; rfl,
 fun hs ⟨cs,h1,h2⟩ => ⟨cs,h1,ExK.stab hs _ _ h2⟩,fun hs ⟨cs,h1,h2⟩ => ⟨cs,h1,ExK.mono hs _ _ h2⟩⟩
def ColX.cs (a : ColX) : List Value := [.string (B a.n),.int .i64 a.k,.bool a.b]
def OrdX.cs (a : OrdX) : List Value := [.string (B a.n),.bool a.b]
def pO {α : Type} (z : Nat) (hz : 0 < z) (f : α → List Value) (h1 : ∀ a,(f a).length = z) (h2 : ∀ a,allOne (f a) = true) : Kd α :=
 ⟨z,hz,fun _ _ a ys => ys = f a,fun h => by rw [h,h1],fun h => by rw [h,h2],fun _ h => h,fun _ h => h⟩
def colKd : Kd ColX := pO 3 (by decide) ColX.cs (fun _ => rfl) (fun _ => rfl)
def ordKd : Kd OrdX := pO 2 (by decide) OrdX.cs (fun _ => rfl) (fun _ => rfl)
def nameKd : Kd (List UInt8) := pO 1 (by decide) (fun s => [.string (B s)]) (fun _ => rfl) (fun _ => rfl)
def rowKd : Kd (List Ex) := ⟨1,by decide,fun bl w l ys => ∃ v,ys = [v] ∧ exKd.sl bl w l v,fun ⟨_,h1,_⟩ => by rw [h1]; rfl,fun ⟨_,h1,h2⟩ => by obtain ⟨A,k,xs,rfl,_⟩ := h2; rw [h1]; rfl,
 fun hs ⟨v,h1,h2⟩ => ⟨v,h1,exKd.sl_stab hs h2⟩,fun hs ⟨v,h1,h2⟩ => ⟨v,h1,exKd.sl_mono hs h2⟩⟩
structure QK (bl : List Nat) (w : World) (q : QryX) (vI vF vO : Value) (ec : List Value) : Prop where
 items : itemKd.sl bl w q.items vI
 from_ : srcKd.sl bl w q.from_ vF
 wh : ExK bl w q.wh ec
 ord : ordKd.sl bl w q.ord vO
def qCs (q : QryX) (vI vF vO : Value) (ec : List Value) : List Value := [.bool q.di,.bool q.st,vI,vF] ++ (ec ++ [vO,.bool q.li,.int .i64 q.lim])
structure SK_ (bl : List Nat) (w : World) (s : StmtX) (vC vN vR vS vI vF vO : Value) (ec fc : List Value) : Prop where
 cols : colKd.sl bl w s.cols vC
 on : nameKd.sl bl w s.on vN
 rows : rowKd.sl bl w s.rows vR
 sets : setKd.sl bl w s.sets vS
 wh : ExK bl w s.wh ec
 q : QK bl w s.q vI vF vO fc
def sCs (s : StmtX) (vC vN vR vS vI vF vO : Value) (ec fc : List Value) : List Value := [.int .i64 s.k,.string (B s.t),.string (B s.n),vC,vN,.bool s.un,vR,vS] ++ (ec ++ qCs s.q vI vF vO fc)
def StK (bl : List Nat) (w : World) (s : StmtX) (cs : List Value) : Prop := ∃ vC vN vR vS vI vF vO ec fc,cs = sCs s vC vN vR vS vI vF vO ec fc ∧ SK_ bl w s vC vN vR vS vI vF vO ec fc
theorem QK.stab {bl : List Nat} {w w' : World} (hs : ∀ k ∈ bl,w'.heap[k]? = w.heap[k]?) {q : QryX} {vI vF vO : Value} {ec : List Value} (h : QK bl w q vI vF vO ec) : QK bl w' q vI vF vO ec :=
 ⟨itemKd.sl_stab hs h.items,srcKd.sl_stab hs h.from_,ExK.stab hs _ _ h.wh,ordKd.sl_stab hs h.ord⟩
theorem SK_.stab {bl : List Nat} {w w' : World} (hs : ∀ k ∈ bl,w'.heap[k]? = w.heap[k]?) {s : StmtX} {vC vN vR vS vI vF vO : Value} {ec fc : List Value} (h : SK_ bl w s vC vN vR vS vI vF vO ec fc) : SK_ bl w' s vC vN vR vS vI vF vO ec fc :=
 ⟨colKd.sl_stab hs h.cols,nameKd.sl_stab hs h.on,rowKd.sl_stab hs h.rows,setKd.sl_stab hs h.sets,ExK.stab hs _ _ h.wh,h.q.stab hs⟩
theorem StK.stab {bl : List Nat} {w w' : World} (hs : ∀ k ∈ bl,w'.heap[k]? = w.heap[k]?) {s : StmtX} {cs : List Value} (h : StK bl w s cs) : StK bl w' s cs := by
 obtain ⟨vC,vN,vR,vS,vI,vF,vO,ec,fc,h1,h2⟩ := h
 exact ⟨vC,vN,vR,vS,vI,vF,vO,ec,fc,h1,h2.stab hs⟩
def stC (bl : List Nat) (s : StmtX) (cs : List Value) : Chunk := ofC bl (fun w => StK bl w s cs) (fun _ _ hs h => h.stab hs)
def qryC (bl : List Nat) (q : QryX) (vI vF vO : Value) (ec : List Value) : Chunk := ofC bl (fun w => QK bl w q vI vF vO ec) (fun _ _ hs h => h.stab hs)
theorem j6 {α : Type} (K : Kd α) {w : World} {A : Option Addr} {c e n : Nat} {bl : List Nat} {l : List α} {xs : List Value} (h : (row (.slice A n c) e K.z n xs).holds w) (hn : n = l.length) (hs : K.seq bl w l xs) : K.sl (A.toList.map (·.block) ++ bl) w l (.slice A n c) := by
 subst hn
 have ho : w.ownsRow 0 e K.z (.slice A l.length c) l.length xs := h
 have hlc : l.length ≤ c := by
  rcases ho.2 with ⟨h3,h4⟩ | ⟨g,cap,cur,hv,_,_,hcap,_⟩
  · injection h3 with _ _ h5; omega
  · injection hv with _ _ h5; omega
 exact ⟨A,c,xs,rfl,hlc,pF h,fun a ha _ => by subst ha; simp,K.seq_mono (fun k hk => List.mem_append_right _ hk) hs⟩
theorem iu {A : Option Addr} {n c e z : Nat} {m : Nat} {xs : List Value} {k : Nat} (hk : k ∈ A.toList.map (·.block)) : (row (.slice A n c) e z m xs).fp k := by
 cases A with
 | none => simp at hk
 | some a => simp at hk; subst hk; rfl
end Go.WK
namespace Go.WK
open Go.RowKit
theorem PEnv.chgL {w w' : World} {pb : Nat} {a : Addr} {k0 : Nat} {T : List Tok} {L : List Nat} (h : PEnv w pb a k0 T) (hc : Chg L w w') (hn : a.block ∉ L) : PEnv w' pb a k0 T :=
 ⟨h.rd.chg hc (fun a' ha => by cases ha; exact hn),h.ne,h.len,h.bnd,h.ok⟩
theorem At.subL {w w1 : World} {pb : Nat} {a : Addr} {k0 : Nat} {T ts us : List Tok} {d d' : Nat} {L : List Nat} (h : At w pb a k0 T ts d) (hc : Chg L w w1) (hn : a.block ∉ L) (hu : Cuts ts us) (hd' : d' ≤ 24) (hs : Sat ⟨default,0,[],w1,[pb]⟩ [pC pb a k0 T us d'] w1) : At w1 pb a k0 T us d' :=
 ⟨h.env.chgL hc hn,hu.1.trans h.suf,hu.2,hd',hs⟩
theorem PEnv.rdsL {w : World} {pb : Nat} {a : Addr} {k0 : Nat} {T : List Tok} {L : List Nat} (h : PEnv w pb a k0 T) (hn : a.block ∉ L) (us : List Tok) (hu : us <:+ T) (cx : Cx) (H : List Chunk) (e1 : cx.w0 = w) (e2 : cx.lent = L) : RdS cx H (some (a.add ((T.length - us.length) * 3))) (toksV us) := by
 refine RdS.lent ?_ (fun a' ha => ?_)
 · rw [e1]
   intro j u hj
   obtain ⟨a1,ha,hc⟩ := h.rd ((T.length - us.length) * 3 + j) u (by rw [← List.getElem?_drop,gN,ly hu]; exact hj)
   cases ha
   exact ⟨_,rfl,by rw [gI]; exact hc⟩
 · cases ha
   rw [e2,gm]; exact hn
theorem At.lt {w : World} {pb : Nat} {a : Addr} {k0 : Nat} {T ts : List Tok} {d : Nat} (h : At w pb a k0 T ts d) : a.block < w.heap.size := by
 have hT : 0 < T.length := Nat.lt_of_lt_of_le h.good.ne h.suf.length_le
 have h0 : ∃ u,(toksV T)[0]? = some u := by
  cases T with
  | nil => simp at hT
  | cons t l => exact ⟨_,rfl⟩
 obtain ⟨u,hu⟩ := h0
 obtain ⟨a',ha,hc⟩ := h.env.rd 0 u hu
 cases ha
 have := World.block_lt_of_cell? w _ hc
 rwa [gm] at this
theorem j7 {pb t : Nat} {cs : List Value} {D : List Chunk} {L : List Nat} (h : ∀ c ∈ D,∀ k,c.fp k → k ∈ L) : ∀ c ∈ (box pb t cs :: D),∀ k,c.fp k → k ∈ pb :: L := fun c hc k hk => by
 rcases List.mem_cons.1 hc with rfl | hc
 · have : k = pb := hk
   rw [this]; exact List.mem_cons_self
 · exact List.mem_cons_of_mem _ (h c hc k hk)
theorem j8 {pb t : Nat} {cs : List Value} {D : List Chunk} {L : List Nat} (h : ∀ k ∈ L, ∃ c ∈ D,c.fp k) : ∀ k ∈ pb :: L, ∃ c ∈ (box pb t cs :: D),c.fp k := fun k hk => by
 rcases List.mem_cons.1 hk with rfl | hk
 · exact ⟨_,List.mem_cons_self,rfl⟩
 · obtain ⟨c,hc,hf⟩ := h k hk
   exact ⟨c,List.mem_cons_of_mem _ hc,hf⟩
theorem notin_L {cx : Cx} {D : List Chunk} {L : List Nat} {w1 : World} {c : Chunk} {b : Nat} (h : Sat cx (c :: D) w1) (hl : ∀ k ∈ L, ∃ c ∈ D,c.fp k) (h1 : b < cx.w0.heap.size) (h2 : b ∉ cx.lent) : b ∉ L := fun hb => by
 obtain ⟨e,he,hf⟩ := hl b hb
 rcases h.fresh e (List.mem_cons_of_mem _ he) b hf with h3 | h3
 · omega
 · exact h2 h3
theorem j9 {bl : List Nat} {e : Ex} {cs : List Value} {w : World} (h : (fi bl e cs).holds w) : ∃ (o k n c : Int) (s t m : ByteArray) (A : Option Addr) (l cap : Nat),cs = [.int .i64 o,.int .i64 k,.int .i64 n,.string s,.string t,.string m,.int .i64 c,.slice A l cap] := by
 obtain ⟨h,_⟩ := h
 cases e with
 | mk o v t n c as =>
  obtain ⟨A,k,xs,rfl,_⟩ := h
  exact ⟨_,_,_,_,_,_,_,_,_,_,rfl⟩
def hD {τ : Type} (can : List Tok → Bool) (one : τ → List Tok → PT τ) (f n : Nat) (s : τ) (us : List Tok) : PT τ :=
 if can us = true then (if n = 16 then .error (3,(hd us).a) else match one s us with | .error x => .error x | .ok (s',vs) => dm can one f (n + 1) s' vs) else badT us
theorem listP_0 {τ : Type} (can : List Tok → Bool) (one : τ → List Tok → PT τ) (f : Nat) (s : τ) (ts : List Tok) : dm can one (f + 1) 0 s ts = hD can one f 0 s ts := by
 rw [dm,if_pos (.inl rfl),if_pos rfl]; rfl
theorem listP_s {τ : Type} (can : List Tok → Bool) (one : τ → List Tok → PT τ) (f n : Nat) (s : τ) (ts : List Tok) (hn : n ≠ 0) (h : atT 4 [44] ts = true) : dm can one (f + 1) n s ts = hD can one f n s (ts.drop 1) := by
 rw [dm,if_pos (.inr h),if_neg hn]; rfl
theorem listP_e {τ : Type} (can : List Tok → Bool) (one : τ → List Tok → PT τ) (f n : Nat) (s : τ) (ts : List Tok) (hn : n ≠ 0) (h : atT 4 [44] ts = false) : dm can one (f + 1) n s ts = .ok (s,ts) := by
 rw [dm,if_neg (by rintro (h1 | h1); exact hn h1; rw [h] at h1; cases h1)]
theorem oH {τ : Type} {can : List Tok → Bool} {one : τ → List Tok → PT τ} {f n : Nat} {s : τ} {us : List Tok} (h : can us = false) : hD can one f n s us = .error (190,(hd us).a) := by
 rw [hD,if_neg (by rw [h]; decide)]; rfl
theorem mI {τ : Type} {can : List Tok → Bool} {one : τ → List Tok → PT τ} {f n : Nat} {s : τ} {us : List Tok} (h : can us = true) (hn : n = 16) : hD can one f n s us = .error (3,(hd us).a) := by
 rw [hD,if_pos h,if_pos hn]
theorem oI {τ : Type} {can : List Tok → Bool} {one : τ → List Tok → PT τ} {f n : Nat} {s : τ} {us : List Tok} {x : Flt} (h : can us = true) (hn : ¬ n = 16) (ho : one s us = .error x) : hD can one f n s us = .error x := by
 rw [hD,if_pos h,if_neg hn,ho]
theorem qX {τ : Type} {can : List Tok → Bool} {one : τ → List Tok → PT τ} {f n : Nat} {s s' : τ} {us vs : List Tok} (h : can us = true) (hn : ¬ n = 16) (ho : one s us = .ok (s',vs)) : hD can one f n s us = dm can one f (n + 1) s' vs := by
 rw [hD,if_pos h,if_neg hn,ho]
theorem begT_1 {ts : List Tok} (h : (hd ts).k = 2 ∨ (hd ts).k = 3) : it ts = true := by rw [it,if_pos h]
theorem begT_2 {ts : List Tok} (h : (hd ts).k = 4) : it ts = (decide ((hd ts).t = [40]) || decide ((hd ts).t = [45])) := by
 rw [it,if_neg (by rw [h]; decide),if_pos h]
theorem nA {ts : List Tok} (h : (hd ts).k = 1) (h2 : (hd ts).t = dl ∨ (hd ts).t = iZ ∨ (hd ts).t = gf ∨ (hd ts).t = fa) : it ts = true := by
 rw [it,if_neg (by rw [h]; decide),if_neg (by rw [h]; decide),if_pos h,if_pos h2]
theorem begT_4 {ts : List Tok} (h : (hd ts).k = 1) (h2 : ¬ ((hd ts).t = dl ∨ (hd ts).t = iZ ∨ (hd ts).t = gf ∨ (hd ts).t = fa)) : it ts = nmT ts := by
 rw [it,if_neg (by rw [h]; decide),if_neg (by rw [h]; decide),if_pos h,if_neg h2]
theorem begT_5 {ts : List Tok} (h1 : ¬ (hd ts).k = 2) (h2 : ¬ (hd ts).k = 3) (h3 : ¬ (hd ts).k = 4) (h4 : ¬ (hd ts).k = 1) : it ts = false := by
 rw [it,if_neg (by rintro (h | h); exact h1 h; exact h2 h),if_neg h3,if_neg h4]
theorem qY {ts : List Tok} (h : nmT ts = false) : fJ ts = .error (190,(hd ts).a) := by
 unfold fJ ct; rw [if_neg (by rw [h]; decide)]; rfl
theorem src_one {ts : List Tok} (h : nmT ts = true) (h2 : atT 1 asB (ts.drop 1) = false) : fJ ts = .ok (((hd ts).t,[]),ts.drop 1) := by
 unfold fJ ct asP; rw [if_pos h]; simp only [h2]; rfl
theorem src_bad2 {ts : List Tok} (h : nmT ts = true) (h2 : atT 1 asB (ts.drop 1) = true) (h3 : nmT ((ts.drop 1).drop 1) = false) : fJ ts = .error (190,(hd ((ts.drop 1).drop 1)).a) := by
 unfold fJ asP ct; rw [if_pos h]; simp only [h2,h3]; rfl
theorem src_two {ts : List Tok} (h : nmT ts = true) (h2 : atT 1 asB (ts.drop 1) = true) (h3 : nmT ((ts.drop 1).drop 1) = true) : fJ ts = .ok (((hd ts).t,(hd ((ts.drop 1).drop 1)).t),((ts.drop 1).drop 1).drop 1) := by
 unfold fJ asP ct; rw [if_pos h]; simp only [h2,h3]; rfl
end Go.WK
namespace Go.WK
open Go.RowKit
theorem Sat.sel1 {w : World} {pb t : Nat} {cs : List Value} {D : List Chunk} {L : List Nat} (h : Sat ⟨default,0,[],w,pb :: L⟩ (box pb t cs :: D) w) : Sat ⟨default,0,[],w,[pb]⟩ [box pb t cs] w :=
 ⟨Chg.refl _ _,fun c hc => by obtain rfl := List.mem_singleton.1 hc; exact h.holds _ List.mem_cons_self,fun c hc k hk => by obtain rfl := List.mem_singleton.1 hc; exact .inr (by have : k = pb := hk; simp [this]),List.pairwise_singleton _ _⟩
end Go.WK
namespace Go.WK
open Go.RowKit
structure LS (α : Type) where
 l : List α
 A : Option Addr
 c : Nat
 xs : List Value
 bl : List Nat
abbrev lsD {α : Type} (K : Kd α) (sb e : Nat) (cs : LS α → List Value) (s : LS α) : List Chunk := [box sb 37 (cs s),row (.slice s.A s.l.length s.c) e K.z s.l.length s.xs,eZ K s.bl s.l s.xs]
def lsL {α : Type} (sb : Nat) (s : LS α) : List Nat := sb :: (s.A.toList.map (·.block) ++ s.bl)
theorem qZ {A : Option Addr} {n c e z m : Nat} {xs : List Value} {k : Nat} (h : (row (.slice A n c) e z m xs).fp k) : k ∈ A.toList.map (·.block) := by
 have h : (Value.slice A n c).ownBlock = some k := h
 cases A with
 | none => cases h
 | some a => simp [Value.ownBlock] at h; simp [h]
theorem lsDL {α : Type} (K : Kd α) (sb e : Nat) (cs : LS α → List Value) (s : LS α) : (∀ c ∈ lsD K sb e cs s,∀ k,c.fp k → k ∈ lsL sb s) ∧ (∀ k ∈ lsL sb s, ∃ c ∈ lsD K sb e cs s,c.fp k) := by
 refine ⟨fun c hc k hk => ?_,fun k hk => ?_⟩
 · simp only [lsD,List.mem_cons,List.not_mem_nil,or_false] at hc
   rcases hc with rfl | rfl | rfl
   · have : k = sb := hk
     rw [this]; exact List.mem_cons_self
   · exact List.mem_cons_of_mem _ (List.mem_append_left _ (qZ hk))
   · exact List.mem_cons_of_mem _ (List.mem_append_right _ hk)
 · rcases List.mem_cons.1 hk with rfl | hk
   · exact ⟨_,List.mem_cons_self,rfl⟩
   · rcases List.mem_append.1 hk with hk | hk
     · exact ⟨_,List.mem_cons_of_mem _ List.mem_cons_self,iu hk⟩
     · exact ⟨_,List.mem_cons_of_mem _ (List.mem_cons_of_mem _ List.mem_cons_self),hk⟩
theorem ra {bl : List Nat} {w : World} {e : Ex} {cs : List Value} {s : List UInt8} (h : ExK bl w e cs) : itemKd.rel bl w ⟨e,s⟩ (cs ++ [.string (B s)]) := ⟨cs,rfl,h⟩
theorem srcRel {bl : List Nat} {w : World} {e : Ex} {cs : List Value} {s t : List UInt8} (h : ExK bl w e cs) : srcKd.rel bl w ⟨t,s,e⟩ ([.string (B t),.string (B s)] ++ cs) := ⟨cs,rfl,h⟩
theorem item_err {f d : Nat} {l : List ItemX} {ts : List Tok} {x : Flt} (h : exP f 1 d ts = .error x) : fI f d l ts = .error x := by unfold fI; rw [h]
theorem item_one {f d : Nat} {l : List ItemX} {ts us : List Tok} {e : Ex} (h : exP f 1 d ts = .ok (e,us)) (h2 : atT 1 asB us = false) : fI f d l ts = .ok (l ++ [⟨e,[]⟩],us) := by unfold fI asP; simp only [h,h2]; rfl
theorem item_bad {f d : Nat} {l : List ItemX} {ts us : List Tok} {e : Ex} (h : exP f 1 d ts = .ok (e,us)) (h2 : atT 1 asB us = true) (h3 : nmT (us.drop 1) = false) : fI f d l ts = .error (190,(hd (us.drop 1)).a) := by unfold fI asP ct; simp only [h,h2,h3]; rfl
theorem item_two {f d : Nat} {l : List ItemX} {ts us : List Tok} {e : Ex} (h : exP f 1 d ts = .ok (e,us)) (h2 : atT 1 asB us = true) (h3 : nmT (us.drop 1) = true) : fI f d l ts = .ok (l ++ [⟨e,(hd (us.drop 1)).t⟩],(us.drop 1).drop 1) := by unfold fI asP ct; simp only [h,h2,h3]; rfl
theorem ord_bad {l : List OrdX} {ts : List Tok} (h : nmT ts = false) : lD l ts = .error (190,(hd ts).a) := by unfold lD ct; simp only [h]; rfl
theorem ord_ok {l : List OrdX} {ts : List Tok} (h : nmT ts = true) : lD l ts = .ok (l ++ [⟨(hd ts).t,atT 1 i6 (ts.drop 1)⟩],if atT 1 i6 (ts.drop 1) = true then (ts.drop 1).drop 1 else ts.drop 1) := by unfold lD ct; simp only [h]; rfl
end Go.WK
namespace Go.WK
open Go.RowKit
def ofL (l : List Value) (i : Nat) : Value := l.getD i (.bool false)
theorem ka {P : Program} {n : Nat} {w w1 : World} {pb : Nat} {D : List Chunk} {L L0 : List Nat} {c : Chunk} (h : Sat ⟨P,n,[],w,pb :: L0⟩ (c :: D) w1) (hl : ∀ k ∈ L, ∃ c ∈ D,c.fp k) : ∀ k,k < w.heap.size → k ∉ pb :: L0 → k ∉ pb :: L := fun k h1 h2 hm => by
 rcases List.mem_cons.1 hm with hm | hm
 · exact h2 (by rw [hm]; exact List.mem_cons_self)
 · exact notin_L h hl h1 h2 hm
theorem jf {ts us : List Tok} {n : List UInt8} (hg : Good ts) (h : ct ts = .ok (n,us)) : Cuts ts us := (ir hg h).1
theorem oJ {ts us : List Tok} {n : List UInt8} (hg : Good ts) (h : asP ts = .ok (n,us)) : Cuts ts us := by
 unfold asP at h
 split at h
 · rename_i h0
   have c1 := bJ (Cuts.refl hg) (by decide) h0
   exact c1.trans (jf c1.2 h)
 · simp only [Except.ok.injEq,Prod.mk.injEq] at h
   rw [← h.2]; exact Cuts.refl hg
theorem kb {f d : Nat} {l l' : List ItemX} {ts us : List Tok} (hg : Good ts) (h : fI f d l ts = .ok (l',us)) : Cuts ts us := by
 unfold fI at h
 cases h1 : exP f 1 d ts with
 | error x => simp only [h1] at h; cases h
 | ok r =>
  obtain ⟨e,vs⟩ := r
  simp only [h1] at h
  have c1 := (cT f 1 d ts hg e vs h1).1
  cases h2 : asP vs with
  | error x => simp only [h2] at h; cases h
  | ok r =>
   obtain ⟨n,zs⟩ := r
   simp only [h2,Except.ok.injEq,Prod.mk.injEq] at h
   rw [← h.2]; exact c1.trans (oJ c1.2 h2)
theorem lE {l l' : List OrdX} {ts us : List Tok} (hg : Good ts) (h : lD l ts = .ok (l',us)) : Cuts ts us := by
 unfold lD at h
 cases h1 : ct ts with
 | error x => simp only [h1] at h; cases h
 | ok r =>
  obtain ⟨n,vs⟩ := r
  simp only [h1,Except.ok.injEq,Prod.mk.injEq] at h
  have c1 := jf hg h1
  rw [← h.2]
  split
  · rename_i h2; exact bJ c1 (by decide) h2
  · exact c1
theorem gA {τ : Type} {can : List Tok → Bool} {one : τ → List Tok → PT τ} (ho : ∀ s us s' us',Good us → one s us = .ok (s',us') → Cuts us us') : ∀ (f n : Nat) (s s' : τ) (ts us : List Tok),Good ts → dm can one f n s ts = .ok (s',us) → Cuts ts us
 | 0,n,s,s',ts,us,hg,h => by
  simp only [dm,Except.ok.injEq,Prod.mk.injEq] at h
  rw [← h.2]; exact Cuts.refl hg
 | f + 1,n,s,s',ts,us,hg,h => by
  rw [dm] at h
  have hc : (n = 0 ∨ atT 4 [44] ts = true) → Cuts ts (if n = 0 then ts else ts.drop 1) := fun hh => by
   split
   · exact Cuts.refl hg
   · rename_i hn
     exact bJ (Cuts.refl hg) (by decide) (hh.resolve_left hn)
  by_cases hh : n = 0 ∨ atT 4 [44] ts = true
  · rw [if_pos hh] at h
    have c1 := hc hh
    generalize (if n = 0 then ts else ts.drop 1) = V at h c1
    by_cases h1 : can V = true
    · rw [if_pos h1] at h
      by_cases h2 : n = 16
      · rw [if_pos h2] at h; cases h
      · rw [if_neg h2] at h
        cases h3 : one s V with
        | error x => simp only [h3] at h; cases h
        | ok r =>
         obtain ⟨s2,vs⟩ := r
         simp only [h3] at h
         have c2 := ho _ _ _ _ c1.2 h3
         exact (c1.trans c2).trans (gA ho f (n + 1) s2 s' vs us c2.2 h)
    · rw [if_neg h1] at h; cases h
  · rw [if_neg hh] at h
    simp only [Except.ok.injEq,Prod.mk.injEq] at h
    rw [← h.2]; exact Cuts.refl hg
theorem sc {f d : Nat} {l : List ItemX} {ts us : List Tok} (hg : Good ts) (h : fK f d ts = .ok (l,us)) : Cuts ts us := by
 unfold fK at h
 split at h
 · rename_i h0
   simp only [Except.ok.injEq,Prod.mk.injEq] at h
   rw [← h.2]; exact bJ (Cuts.refl hg) (by decide) h0
 · exact gA (fun _ _ _ _ hg h => kb hg h) _ _ _ _ _ _ hg h
theorem mJ {ts : List Tok} (hg : Good ts) : Cuts ts (co ts) := by
 unfold co
 split
 · rename_i h; exact bJ (Cuts.refl hg) (by decide) h
 · exact Cuts.refl hg
theorem jD {ts us : List Tok} {r : List UInt8 × List UInt8} (hg : Good ts) (h : fJ ts = .ok (r,us)) : Cuts ts us := by
 unfold fJ at h
 cases h1 : ct ts with
 | error x => simp only [h1] at h; cases h
 | ok r =>
  obtain ⟨n,vs⟩ := r
  simp only [h1] at h
  have c1 := jf hg h1
  cases h2 : asP vs with
  | error x => simp only [h2] at h; cases h
  | ok r =>
   obtain ⟨m,zs⟩ := r
   simp only [h2,Except.ok.injEq,Prod.mk.injEq] at h
   rw [← h.2]; exact c1.trans (oJ c1.2 h2)
theorem lF {f d : Nat} {ts us : List Tok} {e : Ex} (hg : Good ts) (h : dZ f d ts = .ok (e,us)) : Cuts ts us := by
 unfold dZ at h
 split at h
 · rename_i h0
   have c1 := bJ (Cuts.refl hg) (by decide) h0
   exact c1.trans (cT f 1 d _ c1.2 e us h).1
 · simp only [Except.ok.injEq,Prod.mk.injEq] at h
   rw [← h.2]; exact Cuts.refl hg
end Go.WK
namespace Go.WK
open Go.RowKit
def blkA (A : Option Addr) : List Nat := A.toList.map (·.block)
theorem Sat.qry {cx : Cx} {H : List Chunk} {w : World} {A1 A2 A3 : Option Addr} {n1 n2 n3 c1 c2 c3 e1 e2 e3 : Nat} {x1 x2 x3 cs : List Value} {b1 b2 b3 bw : List Nat} {l1 : List ItemX} {l2 : List SrcX} {l3 : List OrdX} {e : Ex} (di st li : Bool) (lim : Int)
  (h : Sat cx (row (.slice A1 n1 c1) e1 itemKd.z n1 x1 :: eZ itemKd b1 l1 x1 :: row (.slice A2 n2 c2) e2 srcKd.z n2 x2 :: eZ srcKd b2 l2 x2 :: fi bw e cs :: row (.slice A3 n3 c3) e3 ordKd.z n3 x3 :: eZ ordKd b3 l3 x3 :: H) w) (h1 : n1 = l1.length) (h2 : n2 = l2.length) (h3 : n3 = l3.length) :
  Sat cx (qryC ((blkA A1 ++ b1) ++ ((blkA A2 ++ b2) ++ (bw ++ (blkA A3 ++ b3)))) ⟨di,st,l1,l2,e,l3,li,lim⟩ (.slice A1 n1 c1) (.slice A2 n2 c2) (.slice A3 n3 c3) cs :: H) w := by
 refine Sat.fuse (l := [_,_,_,_,_,_,_]) h _ (fun hh => ?_) (fun j hj => ?_)
 · have k1 := hh _ (Nth.mem .z)
   have k2 := hh _ (Nth.mem (.s .z))
   have k3 := hh _ (Nth.mem (.s (.s .z)))
   have k4 := hh _ (Nth.mem (.s (.s (.s .z))))
   have k5 := hh _ (Nth.mem (.s (.s (.s (.s .z)))))
   have k6 := hh _ (Nth.mem (.s (.s (.s (.s (.s .z))))))
   have k7 := hh _ (Nth.mem (.s (.s (.s (.s (.s (.s .z)))))))
   refine ⟨⟨itemKd.sl_mono ?_ (j6 itemKd k1 h1 k2.1),srcKd.sl_mono ?_ (j6 srcKd k3 h2 k4.1),ExK.mono ?_ _ _ k5.1,ordKd.sl_mono ?_ (j6 ordKd k6 h3 k7.1)⟩,fun j hj => ?_⟩
   · intro k hk; exact List.mem_append_left _ hk
   · intro k hk; exact List.mem_append_right _ (List.mem_append_left _ hk)
   · intro k hk; exact List.mem_append_right _ (List.mem_append_right _ (List.mem_append_left _ hk))
   · intro k hk; exact List.mem_append_right _ (List.mem_append_right _ (List.mem_append_right _ hk))
   · rcases List.mem_append.1 hj with hj | hj
     · rcases List.mem_append.1 hj with hj | hj
       · exact (row (.slice A1 n1 c1) e1 itemKd.z n1 x1).lt w j k1 (iu hj)
       · exact k2.2 j hj
     · rcases List.mem_append.1 hj with hj | hj
       · rcases List.mem_append.1 hj with hj | hj
         · exact (row (.slice A2 n2 c2) e2 srcKd.z n2 x2).lt w j k3 (iu hj)
         · exact k4.2 j hj
       · rcases List.mem_append.1 hj with hj | hj
         · exact k5.2 j hj
         · rcases List.mem_append.1 hj with hj | hj
           · exact (row (.slice A3 n3 c3) e3 ordKd.z n3 x3).lt w j k6 (iu hj)
           · exact k7.2 j hj
 · rcases List.mem_append.1 hj with hj | hj
   · rcases List.mem_append.1 hj with hj | hj
     · exact ⟨_,Nth.mem .z,iu hj⟩
     · exact ⟨_,Nth.mem (.s .z),hj⟩
   · rcases List.mem_append.1 hj with hj | hj
     · rcases List.mem_append.1 hj with hj | hj
       · exact ⟨_,Nth.mem (.s (.s .z)),iu hj⟩
       · exact ⟨_,Nth.mem (.s (.s (.s .z))),hj⟩
     · rcases List.mem_append.1 hj with hj | hj
       · exact ⟨_,Nth.mem (.s (.s (.s (.s .z)))),hj⟩
       · rcases List.mem_append.1 hj with hj | hj
         · exact ⟨_,Nth.mem (.s (.s (.s (.s (.s .z))))),iu hj⟩
         · exact ⟨_,Nth.mem (.s (.s (.s (.s (.s (.s .z)))))),hj⟩
structure QR where
 q : QryX
 us : List Tok
 bl : List Nat
 vI : Value
 vF : Value
 vO : Value
 ec : List Value
section
variable {f d : Nat} {ts t1 t2 t3 t4 t5 : List Tok} {x : Flt} {its : List ItemX} {fr : List SrcX} {wh : Ex} {os : List OrdX} {li : Bool} {lim : Int}
theorem qe1 (h1 : fK f d (co ts) = .error x) : cP f d ts = .error x := by unfold cP; rw [h1]
theorem qe2 (h1 : fK f d (co ts) = .ok (its,t1)) (h2 : eH f d t1 = .error x) : cP f d ts = .error x := by unfold cP; simp only [h1,h2]
theorem qe3 (h1 : fK f d (co ts) = .ok (its,t1)) (h2 : eH f d t1 = .ok (fr,t2)) (h3 : dZ f d t2 = .error x) : cP f d ts = .error x := by unfold cP; simp only [h1,h2,h3]
theorem qe4 (h1 : fK f d (co ts) = .ok (its,t1)) (h2 : eH f d t1 = .ok (fr,t2)) (h3 : dZ f d t2 = .ok (wh,t3)) (h4 : ea t3 = .error x) : cP f d ts = .error x := by unfold cP; simp only [h1,h2,h3,h4]
theorem qe5 (h1 : fK f d (co ts) = .ok (its,t1)) (h2 : eH f d t1 = .ok (fr,t2)) (h3 : dZ f d t2 = .ok (wh,t3)) (h4 : ea t3 = .ok (os,t4)) (h5 : eM t4 = .error x) : cP f d ts = .error x := by unfold cP; simp only [h1,h2,h3,h4,h5]
theorem qok (h1 : fK f d (co ts) = .ok (its,t1)) (h2 : eH f d t1 = .ok (fr,t2)) (h3 : dZ f d t2 = .ok (wh,t3)) (h4 : ea t3 = .ok (os,t4)) (h5 : eM t4 = .ok ((li,lim),t5)) : cP f d ts = .ok (⟨atT 1 bu ts,atT 4 [42] (co ts),its,fr,wh,os,li,lim⟩,t5) := by unfold cP; simp only [h1,h2,h3,h4,h5]
theorem from_no (h : atT 1 lC ts = false) : eH f d ts = .ok ([],ts) := by rw [eH,if_neg (by rw [h]; decide)]
theorem from_bad (h : atT 1 lC ts = true) (h2 : fJ (ts.drop 1) = .error x) : eH f d ts = .error x := by rw [eH,if_pos h,h2]
theorem from_ok {r : List UInt8 × List UInt8} (h : atT 1 lC ts = true) (h2 : fJ (ts.drop 1) = .ok (r,t1)) : eH f d ts = eu f d 5 [⟨r.1,r.2,Ex.zero⟩] t1 := by rw [eH,if_pos h,h2]
theorem joins_no {k : Nat} {l : List SrcX} (h : atT 1 oG ts = false) : eu f d k l ts = .ok (l,ts) := by
 cases k with
 | zero => rfl
 | succ k => rw [eu,if_neg (by rw [h]; decide)]
theorem iO {k : Nat} {l : List SrcX} (h : atT 1 oG ts = true) (h2 : fj f d l (ts.drop 1) = .error x) : eu f d (k + 1) l ts = .error x := by rw [eu,if_pos h,h2]
theorem joins_ok {k : Nat} {l l' : List SrcX} (h : atT 1 oG ts = true) (h2 : fj f d l (ts.drop 1) = .ok (l',t1)) : eu f d (k + 1) l ts = eu f d k l' t1 := by rw [eu,if_pos h,h2]
theorem join_e1 {l : List SrcX} (h : nmT ts = true ∧ l.length = 4) : fj f d l ts = .error (3,(hd ts).a) := by rw [fj,if_pos h]
theorem join_e2 {l : List SrcX} (h : ¬ (nmT ts = true ∧ l.length = 4)) (h2 : fJ ts = .error x) : fj f d l ts = .error x := by rw [fj,if_neg h,h2]
theorem join_e3 {l : List SrcX} {r : List UInt8 × List UInt8} (h : ¬ (nmT ts = true ∧ l.length = 4)) (h2 : fJ ts = .ok (r,t1)) (h3 : atT 1 onB t1 = false) : fj f d l ts = .error (190,(hd t1).a) := by
 rw [fj,if_neg h,h2]; simp only [df,h3]; rfl
theorem join_e4 {l : List SrcX} {r : List UInt8 × List UInt8} (h : ¬ (nmT ts = true ∧ l.length = 4)) (h2 : fJ ts = .ok (r,t1)) (h3 : atT 1 onB t1 = true) (h4 : exP f 1 d (t1.drop 1) = .error x) : fj f d l ts = .error x := by
 rw [fj,if_neg h,h2]; simp only [df,h3,if_true,h4]
theorem join_ok {l : List SrcX} {r : List UInt8 × List UInt8} {e : Ex} (h : ¬ (nmT ts = true ∧ l.length = 4)) (h2 : fJ ts = .ok (r,t1)) (h3 : atT 1 onB t1 = true) (h4 : exP f 1 d (t1.drop 1) = .ok (e,t2)) : fj f d l ts = .ok (l ++ [⟨r.1,r.2,e⟩],t2) := by
 rw [fj,if_neg h,h2]; simp only [df,h3,if_true,h4]
theorem order_no (h : atT 1 j3 ts = false) : ea ts = .ok ([],ts) := by rw [ea,if_neg (by rw [h]; decide)]
theorem sd (h : atT 1 j3 ts = true) (h2 : atT 1 byB (ts.drop 1) = false) : ea ts = .error (190,(hd (ts.drop 1)).a) := by rw [ea,if_pos h]; simp only [df,h2]; rfl
theorem oK (h : atT 1 j3 ts = true) (h2 : atT 1 byB (ts.drop 1) = true) : ea ts = dm nmT lD 17 0 [] ((ts.drop 1).drop 1) := by rw [ea,if_pos h]; simp only [df,h2,if_true]
theorem limit_no (h : atT 1 j4 ts = false) : eM ts = .ok ((false,0),ts) := by rw [eM,if_neg (by rw [h]; decide)]
theorem se (h : atT 1 j4 ts = true) (h2 : ¬ (hd (ts.drop 1)).k = 2) : eM ts = .error (190,(hd (ts.drop 1)).a) := by rw [eM,if_pos h,if_neg h2]; rfl
theorem limit_ok (h : atT 1 j4 ts = true) (h2 : (hd (ts.drop 1)).k = 2) : eM ts = .ok ((true,hZ (hd (ts.drop 1)).t),(ts.drop 1).drop 1) := by rw [eM,if_pos h,if_pos h2]
end
theorem src_nm {ts us : List Tok} {r : List UInt8 × List UInt8} (h : fJ ts = .ok (r,us)) : nmT ts = true := by
 cases hn : nmT ts with
 | true => rfl
 | false => rw [qY hn] at h; cases h
theorem sf {f d : Nat} {l l' : List SrcX} {ts us : List Tok} (hg : Good ts) (h : fj f d l ts = .ok (l',us)) : Cuts ts us := by
 unfold fj at h
 split at h
 · cases h
 · cases h1 : fJ ts with
   | error x => simp only [h1] at h; cases h
   | ok r =>
    obtain ⟨⟨t,s⟩,vs⟩ := r
    simp only [h1] at h
    have c1 := jD hg h1
    by_cases h2 : atT 1 onB vs = true
    · simp only [df,h2,if_true] at h
      have c2 := bJ c1 (by decide) h2
      cases h3 : exP f 1 d (vs.drop 1) with
      | error x => simp only [h3] at h; cases h
      | ok r =>
       obtain ⟨e,zs⟩ := r
       simp only [h3,Except.ok.injEq,Prod.mk.injEq] at h
       rw [← h.2]; exact c2.trans (cT f 1 d _ c2.2 e zs h3).1
    · simp only [df,if_neg h2] at h; cases h
theorem lG {f d : Nat} : ∀ (k : Nat) (l l' : List SrcX) (ts us : List Tok),Good ts → eu f d k l ts = .ok (l',us) → Cuts ts us
 | 0,l,l',ts,us,hg,h => by
  simp only [eu,Except.ok.injEq,Prod.mk.injEq] at h
  rw [← h.2]; exact Cuts.refl hg
 | k + 1,l,l',ts,us,hg,h => by
  unfold eu at h
  split at h
  · rename_i h0
    have c1 := bJ (Cuts.refl hg) (by decide) h0
    cases h1 : fj f d l (ts.drop 1) with
    | error x => simp only [h1] at h; cases h
    | ok r =>
     obtain ⟨l2,vs⟩ := r
     simp only [h1] at h
     have c2 := c1.trans (sf c1.2 h1)
     exact c2.trans (lG k l2 l' vs us c2.2 h)
  · simp only [Except.ok.injEq,Prod.mk.injEq] at h
    rw [← h.2]; exact Cuts.refl hg
theorem sg {f d : Nat} {l : List SrcX} {ts us : List Tok} (hg : Good ts) (h : eH f d ts = .ok (l,us)) : Cuts ts us := by
 unfold eH at h
 split at h
 · rename_i h0
   have c1 := bJ (Cuts.refl hg) (by decide) h0
   cases h1 : fJ (ts.drop 1) with
   | error x => simp only [h1] at h; cases h
   | ok r =>
    obtain ⟨⟨t,s⟩,vs⟩ := r
    simp only [h1] at h
    have c2 := c1.trans (jD c1.2 h1)
    exact c2.trans (lG _ _ _ _ _ c2.2 h)
 · simp only [Except.ok.injEq,Prod.mk.injEq] at h
   rw [← h.2]; exact Cuts.refl hg
theorem pP {l : List OrdX} {ts us : List Tok} (hg : Good ts) (h : ea ts = .ok (l,us)) : Cuts ts us := by
 unfold ea at h
 split at h
 · rename_i h0
   have c1 := bJ (Cuts.refl hg) (by decide) h0
   by_cases h2 : atT 1 byB (ts.drop 1) = true
   · simp only [df,h2,if_true] at h
     have c2 := bJ c1 (by decide) h2
     exact c2.trans (gA (fun _ _ _ _ hg h => lE hg h) _ _ _ _ _ _ c2.2 h)
   · simp only [df,if_neg h2] at h; cases h
 · simp only [Except.ok.injEq,Prod.mk.injEq] at h
   rw [← h.2]; exact Cuts.refl hg
theorem pQ {li : Bool} {lim : Int} {ts us : List Tok} (hg : Good ts) (h : eM ts = .ok ((li,lim),us)) : Cuts ts us := by
 unfold eM at h
 split at h
 · rename_i h0
   have c1 := bJ (Cuts.refl hg) (by decide) h0
   split at h
   · rename_i h2
     simp only [Except.ok.injEq,Prod.mk.injEq] at h
     rw [← h.2]; exact c1.step (by rw [h2]; decide)
   · cases h
 · simp only [Except.ok.injEq,Prod.mk.injEq] at h
   rw [← h.2]; exact Cuts.refl hg
end Go.WK
namespace Go.WK
open Go.RowKit
theorem dR {k : Int} {a b : List UInt8} {ts : List Tok} (h : atT k a ts = true) (hne : a ≠ b) : atT k b ts = false := by
 unfold atT at h ⊢
 simp only [Bool.and_eq_true,decide_eq_true_eq] at h
 rw [h.2,decide_eq_false hne,Bool.and_false]
theorem sh {g t : Nat} {cs : List Value} {D : List Chunk} : ∀ k ∈ [g], ∃ c ∈ (box g t cs :: D),c.fp k := fun _ hk => ⟨_,List.mem_cons_self,List.mem_singleton.1 hk⟩
structure SR where
 s : StmtX
 us : List Tok
 bl : List Nat
 cs : List Value
theorem lH {f d : Nat} {ts : List Tok} (h : atT 1 du ts = true) : jC f d ts = fY f d (ts.drop 1) := by
 unfold jC
 rw [if_neg (fH (dR h (by decide))),if_neg (fH (dR h (by decide))),if_neg (fH (dR h (by decide))),if_neg (fH (dR h (by decide))),if_neg (fH (dR h (by decide))),if_pos h]
theorem sel_err {f d : Nat} {ts : List Tok} {x : Flt} (h : cP f d ts = .error x) : fY f d ts = .error x := by unfold fY; rw [h]
theorem sel_ok {f d : Nat} {ts us : List Tok} {q : QryX} (h : cP f d ts = .ok (q,us)) : fY f d ts = .ok ({ StmtX.zero with k := 8,q := q },us) := by unfold fY; rw [h]
theorem pR {α : Type} {K : Kd α} {bl : List Nat} {w : World} {l : List α} {v : Value} (h : K.sl bl w l v) : v.oneCell' = true := by
 obtain ⟨A,k,xs,rfl,_⟩ := h; rfl
theorem oL (v : Value) (l : List Value) : allOne (v :: l) = (v.oneCell' && allOne l) := rfl
theorem QK.ones {bl : List Nat} {w : World} {q : QryX} {vI vF vO : Value} {ec : List Value} (h : QK bl w q vI vF vO ec) : (qCs q vI vF vO ec).length = 15 ∧ allOne (qCs q vI vF vO ec) = true := by
 have h1 := pR h.items
 have h2 := pR h.from_
 have h3 := pR h.ord
 refine ⟨by simp [qCs,h.wh.len], ?_⟩
 simp only [qCs,dQ,oL,h1,h2,h3,h.wh.ones]
 rfl
theorem Sat.selSt {cx : Cx} {H : List Chunk} {w : World} {bl : List Nat} {q : QryX} {vI vF vO : Value} {ec : List Value} (h : Sat cx (qryC bl q vI vF vO ec :: H) w) :
  Sat cx (stC bl { StmtX.zero with k := 8,q := q } ([.int .i64 8,.string .empty,.string .empty,.slice none 0 0,.slice none 0 0,.bool false,.slice none 0 0,.slice none 0 0,.int .i64 0,.int .i64 0,.int .i64 0,.string .empty,.string .empty,.string .empty,.int .i64 0,.slice none 0 0] ++ qCs q vI vF vO ec) :: H) w := by
 refine Sat.fuse (l := [_]) h _ (fun hh => ?_) (fun j hj => ⟨_,List.mem_cons_self,hj⟩)
 have h1 := hh _ List.mem_cons_self
 exact ⟨⟨.slice none 0 0,.slice none 0 0,.slice none 0 0,.slice none 0 0,vI,vF,vO,[.int .i64 0,.int .i64 0,.int .i64 0,.string .empty,.string .empty,.string .empty,.int .i64 0,.slice none 0 0],ec,rfl,
  colKd.sl_nil _ _,nameKd.sl_nil _ _,rowKd.sl_nil _ _,setKd.sl_nil _ _,⟨none,0,[],rfl,Nat.le_refl _,Rd.nil _ _,(fun _ h => by cases h),rfl⟩,h1.1⟩,h1.2⟩
section ops
variable {m : Bool} {cx : Cx} {fs : aR} {H : List Chunk} {Q : bT} {ops : Array Oper} {rest : List Oper} {g : Option (Nat × Bool)} {d : Nat} {ty : TypeId} {pos : String} {af : Array Edge}
theorem rb {x : Operand} {t bt b i z : Nat} {cs : List Value} (hl : cs.length = z) (ht : cu cx.P t = some true) (hz : szB cx.P t = some z) (hn : Nth H i (box b bt cs)) (hok : okS cx.n ops fs d g = true) (hx : ev fs x = some (.pointer (some ⟨b,0,none⟩)))
  (k : TriX m cx ops ((d,.agg cs.toArray) :: fs) H rest Q) : TriX m cx ops fs H (⟨some d,.load t x,ty,pos,af,g⟩ :: rest) Q :=
 aQ ht hz hn hok hx (vs := cs) (by rw [List.drop_zero]; exact List.take_of_length_le (Nat.le_of_eq hl)) hl k
theorem dn {x y : Operand} {t bt b i z : Nat} {us cs : List Value} (hu : us.length = z) (hl : cs.length = z) (h1 : allOne cs = true) (hz : szB cx.P t = some z) (hn : Nth H i (box b bt us)) (hok : okW ops fs g = true) (hx : ev fs x = some (.pointer (some ⟨b,0,none⟩))) (hy : ev fs y = some (.agg cs.toArray))
  (k : TriX false cx ops fs (ga H i (box b bt cs)) rest Q) : TriX false cx ops fs H (⟨none,.store t x y,ty,pos,af,g⟩ :: rest) Q :=
 aI hz hn hok hx hy (vs := cs) rfl hl (by omega) h1 (by rw [oE us cs (by rw [hu,hl])]; exact k)
end ops
def TriG (cx : Cx) (fs : aR) (H : List Chunk) (c : Code) (QG : Exit → Act → World → Prop) : Prop := ∀ a w,Has cx.n cx.ds fs a → Sat cx H w → c.wp cx.P QG a w
def gQ (cx : Cx) (K : aR → List Chunk → Prop) (QG : Exit → Act → World → Prop) : bT := fun e fs H => match e with
 | .normal => K fs H
 | e => ∀ a w,Has cx.n cx.ds fs a → Sat cx H w → QG e a w
section
variable {cx : Cx} {fs : aR} {H : List Chunk} {QG : Exit → Act → World → Prop}
theorem lI {x y : Code} (h : Tri cx fs H x (gQ cx (fun fs H => TriG cx fs H y QG) QG)) : TriG cx fs H (.seq x y) QG := fun a w ha hw => by
 refine wp_seq (Go.wp_mono (h a w ha hw) fun e a' w' ⟨fs',H',h1,h2,h3⟩ => ?_)
 cases e <;> exact h3 a' w' h1 h2
theorem oM {c : Code} {Q : bT} (h : Tri cx fs H c Q) (hq : ∀ e fs' H',Q e fs' H' → ∀ a w,Has cx.n cx.ds fs' a → Sat cx H' w → QG e a w) : TriG cx fs H c QG := fun a w ha hw =>
 Go.wp_mono (h a w ha hw) fun e a' w' ⟨fs',H',h1,h2,h3⟩ => hq e fs' H' h3 a' w' h1 h2
theorem kc {K : aR → List Chunk → Prop} (h : K fs H) : gQ cx K QG .normal fs H := h
theorem gQ_ret {K : aR → List Chunk → Prop} (h : ∀ a w,Has cx.n cx.ds fs a → Sat cx H w → QG .ret a w) : gQ cx K QG .ret fs H := h
theorem pS {id d fid : Nat} {ty ty2 : TypeId} {pos pos2 : String} {af af2 : Array Edge} {ys : List Operand} {vs : List Value} {y : Code} (hd : Nat.blt d cx.n = true) (hy : evs fs ys = some vs)
  (k : TriG { cx with ds := { target := .fn (.func fid) vs.toArray,args := #[] } :: cx.ds } ((d,.func (.func fid) #[] vs.toArray) :: fs) H y QG) :
  TriG cx fs H (.seq (.region id #[⟨some d,.makeFunc (.func fid) #[] ys.toArray,ty,pos,af,none⟩,⟨none,.defer ⟨.value (.tmp d), #[], #[]⟩,ty2,pos2,af2,none⟩] false) y) QG := fun a w ha hw => by
 refine wp_seq (wp_region_lit ?_)
 have h1 : Has cx.n cx.ds ((d,.func (.func fid) #[] vs.toArray) :: fs) (a.put (some d) (.func (.func fid) #[] vs.toArray)) := ha.put hd _
 have e1 : (execOp a.eval ⟨some d,.makeFunc (.func fid) #[] ys.toArray,ty,pos,af,none⟩).run cx.P w = .ok (.value (.func (.func fid) #[] vs.toArray)) w := by
  simp [execOp,Instr.makeFunc,ha.evals hy]
 unfold wpList
 rw [if_pos (by rfl)]
 left
 unfold Oper.wp
 rw [e1]
 show wpList cx.P _ _ _ (a.put (some d) (.func (.func fid) #[] vs.toArray)) w
 unfold wpList
 rw [if_pos (by rfl)]
 left
 have e2 : (execOp (a.put (some d) (.func (.func fid) #[] vs.toArray)).eval ⟨none,.defer ⟨.value (.tmp d), #[], #[]⟩,ty2,pos2,af2,none⟩).run cx.P w = .ok (.defer { target := .fn (.func fid) vs.toArray,args := #[] }) w := by
  have e3 : (a.put (some d) (.func (.func fid) #[] vs.toArray)).eval (.tmp d) = .func (.func fid) #[] vs.toArray := h1.eval (x := .tmp d) (cX _ _ _)
  simp [execOp,resolve,e3,Deferred.ofValue]
 unfold Oper.wp
 rw [e2]
 simp only [Oper.upon]
 refine wpList_nil ?_
 exact k _ w ⟨by simp [Act.put,ha.ds],h1.size,h1.at_⟩ ⟨hw.chg,hw.holds,hw.fresh,hw.apart⟩
end
theorem pT {P : Program} {fn : Func} {f : FuncId} {c : Code} {args : List Value} {n : Nat} {w : World} {R : Ending → World → Prop} {lent : List Nat} {H : List Chunk} (hf : P.funcs[f]? = some fn) (hb : fn.body = some c) (hn : fn.ntmps = n) (ha : Nat.ble args.length n = true)
  (hs : Sat ⟨P,n,[],w,lent⟩ H w) (h : TriG ⟨P,n,[],w,lent⟩ (argS 0 args) H c (bodyPostD P fn R)) : Calls P f args.toArray w R := by
 have hle : args.length ≤ n := Nat.le_of_ble_eq_true ha
 refine calls_of_wp_defers hf hb ?_
 have hh : Has n [] (argS 0 args) { tmps := args.toArray ++ Array.replicate (fn.ntmps - args.toArray.size) undef,defers := [] } := by
  refine ⟨rfl,by simp [hn]; omega,fun d v hd => ?_⟩
  obtain ⟨_,h2⟩ := jS args 0 d v hd
  have hlt : d < args.length := by have := (List.getElem?_eq_some_iff.1 h2).1; omega
  rw [Array.getElem?_append_left (by simpa using hlt)]
  simpa using h2
 exact h _ w hh hs
theorem jg {P : Program} {fn : Func} {w : World} {t t2 : TypeId} {x u : Tmp} {b b2 bt bt2 z : Nat} {cs : List Value} {v : Value} {tmps : Array Value} (hr : fn.results = #[.cell x t,.cell u t2]) (hx : tmps.getD x undef = .pointer (some ⟨b,0,none⟩)) (hu : tmps.getD u undef = .pointer (some ⟨b2,0,none⟩))
  (ht : cu P t = some true) (hz : szB P t = some z) (ht2 : cu P t2 = some false) (hb : w.heap[b]? = some (.cells cs.toArray bt (0,0))) (hl : cs.length = z) (hb2 : w.heap[b2]? = some (.cells #[v] bt2 (0,0))) :
  (results fn tmps).run P w = .ok (.tuple #[.agg cs.toArray,v]) w := by
 subst hl
 have hx' : tmps[x]?.getD undef = .pointer (some ⟨b,0,none⟩) := by simpa using hx
 have hu' : tmps[u]?.getD undef = .pointer (some ⟨b2,0,none⟩) := by simpa using hu
 have hc : ∀ j v,cs[j]? = some v → w.cell? ((⟨b,0,none⟩ : Addr).add j) = some v := jV hb (z := cs.length) (by simp)
 have hc2 : w.cell? ⟨b2,0,none⟩ = some v := by rw [cell_of_row w b2 0 _ bt2 (0,0) hb2]; rfl
 simp [results,hr,hx',hu',asAddr,loadVar,c7 ht,c7 ht2,cS hz,run_loadCells_list w ⟨b,0,none⟩ cs hc,hc2]
theorem o_assert {m : Bool} {cx : Cx} {fs : aR} {H : List Chunk} {Q : bT} {ops : Array Oper} {rest : List Oper} {g : Option (Nat × Bool)} {d : Nat} {ty : TypeId} {pos : String} {af : Array Edge} {x : Operand} {t u : TypeId} {v r : Value} (hr : ∀ w,(Instr.typeAssert v t u true).run cx.P w = .ok r w) (hok : okS cx.n ops fs d g = true) (hx : ev fs x = some v)
  (k : TriX m cx ops ((d,r) :: fs) H rest Q) : TriX m cx ops fs H (⟨some d,.typeAssert x t u true,ty,pos,af,g⟩ :: rest) Q :=
 aV _ hok (fun a w ha _ => by simp [execOp,ha.eval hx,hr]) k
end Go.WK
namespace Go.WK
open Go.RowKit Lib
theorem pU (s : List UInt8) (he : (bZ s).e = 0) : ((bZ s).k = 1 ∨ (bZ s).k = 2 ∨ (bZ s).k = 3 ∨ (bZ s).k = 4) ∧ (bZ s).t.length ≤ max s.length 64 ∧ ((bZ s).k = 2 → ∃ n,parseIntB 64 (bZ s).t = .ok n) := by
 unfold bZ at he ⊢
 by_cases h1 : cM (s.getD 0 0) = true
 · rw [if_pos h1]
   exact ⟨.inl rfl,by simp only [r4,List.length_take]; omega,fun h => by cases h⟩
 rw [if_neg h1] at he ⊢
 by_cases h2 : bf (s.getD 0 0) = true
 · rw [if_pos h2] at he ⊢
   by_cases h3 : eJ s (bM bf s)
   · rw [if_pos h3] at he; cases he
   · rw [if_neg h3]
     exact ⟨.inr (.inl rfl),by simp only [List.length_take]; omega,fun _ => ((gP h2).2 h3).1⟩
 rw [if_neg h2] at he ⊢
 by_cases h4 : s.getD 0 0 = 39
 · rw [if_pos h4] at he ⊢
   cases hq : quo (s.drop 1) with
   | none => simp only [hq] at he; cases he
   | some r =>
    simp only [hq] at he ⊢
    by_cases h5 : 64 < r.1.length
    · rw [if_pos h5] at he; cases he
    · rw [if_neg h5]
      exact ⟨.inr (.inr (.inl rfl)),by simp only; omega,fun h => by cases h⟩
 rw [if_neg h4] at he ⊢
 by_cases h6 : eh s = 0
 · rw [if_pos h6] at he; cases he
 · rw [if_neg h6]
   exact ⟨.inr (.inr (.inr rfl)),by simp only [List.length_take]; omega,fun h => by cases h⟩
theorem si (f : Nat) : ∀ (a : Nat) (r : List UInt8) (ts : List Tok),la f a r = .ok ts → r.length ≤ 4096 → Good ts ∧ ∀ t ∈ ts,TokOk t := by
 induction f with
 | zero => intro a r ts h; cases h
 | succ f ih =>
  intro a r ts h hr
  cases r with
  | nil =>
   cases h
   exact ⟨.inl rfl,fun t ht => by obtain rfl := List.mem_singleton.1 ht; exact ⟨by simp,fun h => by cases h⟩⟩
  | cons c l =>
   unfold la at h
   split at h
   · cases h
   · rename_i he
     have he := Decidable.not_not.1 he
     obtain ⟨_,h2,h3⟩ := pU (c :: l) he
     cases hx : la f (a + (bZ (c :: l)).n + gap ((c :: l).drop (bZ (c :: l)).n)) (((c :: l).drop (bZ (c :: l)).n).drop (gap ((c :: l).drop (bZ (c :: l)).n))) with
     | error e => rw [hx] at h; cases h
     | ok ts' =>
      rw [hx] at h
      cases h
      obtain ⟨k1,k2⟩ := ih _ _ _ hx (by simp only [List.length_drop]; omega)
      refine ⟨.inr k1,fun t ht => ?_⟩
      rcases List.mem_cons.1 ht with rfl | ht
      · refine ⟨by have := h2; simp only; omega,fun hk => ?_⟩
        obtain ⟨n,hn⟩ := h3 hk
        show parseIntB 64 _ = .ok (hZ _)
        simp only [hZ,hn]
      · exact k2 t ht
theorem lex_good {s : List UInt8} {ts : List Tok} (h : eK s = .ok ts) : Good ts ∧ (∀ t ∈ ts,TokOk t) ∧ ts.length ≤ 4097 := by
 have h1 := qP h
 have h2 := si _ _ _ _ h1.2 (by rw [List.length_drop]; omega)
 have h3 := tks_le h rfl
 exact ⟨h2.1,h2.2,by omega⟩
def stR : Except Flt StmtX → StmtX
 | .ok s => s
 | .error _ => StmtX.zero
def errS : Except Flt StmtX → Value
 | .ok _ => .nilIface
 | .error x => .iface 55 (.agg #[.int .i64 x.1,.int .i64 x.2])
def ParsT (w : World) (r : Except Flt StmtX) : Ending → World → Prop := Turn w [] (fun j : List Nat × List Value => .tuple #[.agg j.2.toArray,errS r]) (fun j => [stC j.1 (stR r) j.2]) (fun j => j.2.length = 31 ∧ allOne j.2 = true)
abbrev zSt : List Value := [.int .i64 0,.string .empty,.string .empty,.slice none 0 0,.slice none 0 0,.bool false,.slice none 0 0,.slice none 0 0,.int .i64 0,.int .i64 0,.int .i64 0,.string .empty,.string .empty,.string .empty,.int .i64 0,.slice none 0 0,.bool false,.bool false,.slice none 0 0,.slice none 0 0,.int .i64 0,.int .i64 0,.int .i64 0,.string .empty,.string .empty,.string .empty,.int .i64 0,.slice none 0 0,.slice none 0 0,.bool false,.int .i64 0]
theorem oN (bl : List Nat) (w : World) : ExK bl w Ex.zero [.int .i64 0,.int .i64 0,.int .i64 0,.string .empty,.string .empty,.string .empty,.int .i64 0,.slice none 0 0] := ⟨none,0,[],rfl,Nat.le_refl _,Rd.nil _ _,(fun _ h => by cases h),rfl⟩
theorem stK_zero (bl : List Nat) (w : World) : StK bl w StmtX.zero zSt :=
 ⟨.slice none 0 0,.slice none 0 0,.slice none 0 0,.slice none 0 0,.slice none 0 0,.slice none 0 0,.slice none 0 0,[.int .i64 0,.int .i64 0,.int .i64 0,.string .empty,.string .empty,.string .empty,.int .i64 0,.slice none 0 0],[.int .i64 0,.int .i64 0,.int .i64 0,.string .empty,.string .empty,.string .empty,.int .i64 0,.slice none 0 0],rfl,
  colKd.sl_nil _ _,nameKd.sl_nil _ _,rowKd.sl_nil _ _,setKd.sl_nil _ _,oN _ _,itemKd.sl_nil _ _,srcKd.sl_nil _ _,oN _ _,ordKd.sl_nil _ _⟩
theorem Sat.zeroSt {cx : Cx} {H : List Chunk} {w : World} (h : Sat cx H w) : Sat cx (stC [] StmtX.zero zSt :: H) w :=
 h.fuse (l := []) _ (fun _ => ⟨stK_zero _ _,fun k hk => by cases hk⟩) (fun k hk => by cases hk)
theorem row_some {A : Option Addr} {n c e z m : Nat} {xs : List Value} {w : World} (h : (row (.slice A n c) e z m xs).holds w) (hn : m = n) (hp : 0 < xs.length) : ∃ g,A = some ⟨g,0,none⟩ ∧ n ≤ c := by
 subst hn
 have ho : w.ownsRow 0 e z (.slice A m c) m xs := h
 obtain ⟨gg,cur,rfl,_,hnc,_⟩ := own_some ho hp
 exact ⟨gg,rfl,hnc⟩
theorem pS0 (g k : Nat) (T : List Tok) : pSl ⟨g,0,none⟩ k T T = .slice (some ⟨g,0,none⟩) T.length k := by
 unfold pSl
 rw [Nat.sub_self,Nat.zero_mul,Nat.sub_zero]
 rfl
theorem lJ {s : List UInt8} {x : Flt} (h : eK s = .error x) : cy s = .error x := by unfold cy; rw [h]
theorem pV {s : List UInt8} {ts : List Tok} {x : Flt} (h : eK s = .ok ts) (h2 : jC (8 * ts.length + 8) 0 ts = .error x) : cy s = .error x := by unfold cy; rw [h]; simp only [j5,h2]
theorem pW {s : List UInt8} {ts us : List Tok} {st : StmtX} (h : eK s = .ok ts) (h2 : jC (8 * ts.length + 8) 0 ts = .ok (st,us)) : cy s = if (hd (if atT 4 [59] us = true then us.drop 1 else us)).k = 5 then .ok st else .error (190,(hd (if atT 4 [59] us = true then us.drop 1 else us)).a) := by unfold cy; rw [h]; simp only [j5,h2]
theorem ml {f d : Nat} {ts us : List Tok} {st : StmtX} (hg : Good ts) (hs : atT 1 du ts = true) (h : jC f d ts = .ok (st,us)) : Cuts ts us := by
 rw [lH hs] at h
 have c1 := bJ (Cuts.refl hg) (by decide) hs
 unfold fY at h
 cases hq : cP f d (ts.drop 1) with
 | error x => rw [hq] at h; cases h
 | ok r =>
  obtain ⟨q,vs⟩ := r
  rw [hq] at h
  simp only [Except.ok.injEq,Prod.mk.injEq] at h
  rw [← h.2]
  refine c1.trans ?_
  unfold cP at hq
  have c2 := mJ c1.2
  cases h1 : fK f d (co (ts.drop 1)) with
  | error x => simp only [h1] at hq; cases hq
  | ok r =>
   obtain ⟨its,t1⟩ := r
   have c3 := c2.trans (sc c2.2 h1)
   cases h2 : eH f d t1 with
   | error x => simp only [h1,h2] at hq; cases hq
   | ok r =>
    obtain ⟨fr,t2⟩ := r
    have c4 : Cuts (ts.drop 1) t2 := c3.trans (sg c3.2 h2)
    cases h3 : dZ f d t2 with
    | error x => simp only [h1,h2,h3] at hq; cases hq
    | ok r =>
     obtain ⟨wh,t3⟩ := r
     have c5 := c4.trans (lF c4.2 h3)
     cases h4 : ea t3 with
     | error x => simp only [h1,h2,h3,h4] at hq; cases hq
     | ok r =>
      obtain ⟨os,t4⟩ := r
      have c6 : Cuts (ts.drop 1) t4 := c5.trans (pP c5.2 h4)
      cases h5 : eM t4 with
      | error x => simp only [h1,h2,h3,h4,h5] at hq; cases hq
      | ok r =>
       obtain ⟨⟨li,lim⟩,t5⟩ := r
       simp only [h1,h2,h3,h4,h5,Except.ok.injEq,Prod.mk.injEq] at hq
       rw [← hq.2]
       exact c6.trans (pQ c6.2 h5)
end Go.WK
namespace Go.WK
open Go.RowKit
theorem row_suf {w : World} {a : Addr} {T us : List Tok} (h : Rd w (some a) (toksV T)) (hu : us <:+ T) : Rd w (some (a.add ((T.length - us.length) * 3))) (toksV us) := by
 intro j u hj
 obtain ⟨a1,ha,hc⟩ := h ((T.length - us.length) * 3 + j) u (by rw [← List.getElem?_drop,gN,ly hu]; exact hj)
 cases ha
 exact ⟨_,rfl,by rw [gI]; exact hc⟩
end Go.WK
namespace Go.WK
open Go.RowKit
theorem app_str {P : Program} {w : World} {t u ty e : TypeId} {i : TypeInfo} (ht : P.underlying t = some (.slice e)) (hu : P.underlying u = some .string) (hi : P.info? e = some i) (hz : i.zero = some (.int .u8 0)) (hsize : i.size = 1) (hby : i.bytes = 1)
  {v : Value} {n : Nat} {xs : List Value} (hown : w.ownsRow 0 e 1 v n xs) (s : ByteArray) (h63 : n + s.size ≤ maxLen) (hbytes : n + s.size ≤ 140737488355328) :
  ∃ v' w',(Builtin.append_ #[t,u] ty #[v,.string s]).run P w = .ok v' w' ∧ w'.ownsRow 0 e 1 v' (n + s.size) (xs ++ Lib.strCells s) ∧ w.grownBy w' v.ownBlock ∧ (v'.ownBlock = v.ownBlock ∨ v'.ownBlock = some w.heap.size) := by
 obtain ⟨v',w',hr,ho,hg,_⟩ := Lib.run_append_own_string (P := P) w 0 t u ty e i ht hu hi hz hsize hby v n xs hown s h63 hbytes (Nat.zero_le _)
 refine ⟨v',w',hr,ho,hg, ?_⟩
 have hsmall : n + s.size ≤ 9223372036854775807 := by simp only [maxLen] at h63; omega
 have hxl : xs.length = n := by simpa using hown.1
 rcases hown.2 with ⟨rfl,rfl⟩ | ⟨g,cap,cur,rfl,hbg,hgg,hnc,hcm,hcs,htake⟩
 · by_cases hm : s.size = 0
   · have hf := Lib.run_firstCells_string (P := P) w 1 s
     rw [hm] at hf
     have hr2 : (Builtin.append_ #[t,u] ty #[.slice none 0 0,.string s]).run P w = .ok (.slice none 0 0) w := by
      simp [Builtin.append_,run_underlying ht,run_underlying hu,sizeOf,typeInfo,hi,hsize,Builtin.lenOf,hm,hf]
     rw [hr2] at hr
     cases hr
     exact .inl rfl
   · have hr2 := run_append_nil_string (P := P) w t u ty e i (.int .u8 0) ht hu hi hz s (by omega) (by omega) (by rw [hby]; omega)
     rw [hr2] at hr
     cases hr
     exact .inr rfl
 · by_cases hroom : n + s.size ≤ cap
   · have hcs' : cur.size = cap := by simpa using hcs
     have hr2 := Lib.run_append_room_string (P := P) w t u ty e i ht hu hi hsize g n cap cur hgg s hroom (by omega)
     rw [hr2] at hr
     cases hr
     exact .inl rfl
   · have holds : ∀ j u,xs[j]? = some u → w.cell? ((⟨g,0,none⟩ : Addr).add j) = some u := hown.cells (g := g) rfl
     have hr2 := Lib.run_append_grow_string (P := P) w t u ty e i (.int .u8 0) ht hu hi hz ⟨g,0,none⟩ n cap xs (by rw [hsize]; simpa using hxl) holds s (by omega) (by omega) (by rw [hby]; exact growslice_fits (by omega) (by omega))
     rw [hr2] at hr
     cases hr
     exact .inr rfl
theorem pX (l : List UInt8) : Lib.strCells (B l) = cH l := by
 simp [Lib.strCells,cH,gZ]
section ops
variable {cx : Cx} {fs : aR} {H : List Chunk} {Q : bT} {ops : Array Oper} {rest : List Oper} {g : Option (Nat × Bool)} {d : Nat} {ty : TypeId} {pos : String} {af : Array Edge}
theorem sj {x y : Operand} {t u e : TypeId} {i n c : Nat} {A : Option Addr} {xs : List Value} {s : List UInt8} (ht : cx.P.underlying t = some (.slice e)) (hu : cx.P.underlying u = some .string) (hi : (cx.P.info? e).map (fun i => (i.zero,i.size,i.bytes)) = some (some (.int .u8 0),1,1))
  (hn : Nth H i (row (.slice A n c) e 1 n xs)) (hok : okS cx.n ops fs d g = true) (hx : ev fs x = some (.slice A n c)) (hy : ev fs y = some (.string (B s))) (hb : n + s.length ≤ 70368744177664)
  (k : ∀ A' c',TriX false cx ops ((d,.slice A' (n + s.length) c') :: fs) (ga H i (row (.slice A' (n + s.length) c') e 1 (n + s.length) (xs ++ cH s))) rest Q) : TriX false cx ops fs H (⟨some d,.call ⟨.builtin .append, #[x,y], #[t,u]⟩,ty,pos,af,g⟩ :: rest) Q :=
 eT (J := Option Addr × Nat) (fun j => .slice j.1 (n + s.length) j.2) (fun j => ga H i (row (.slice j.1 (n + s.length) j.2) e 1 (n + s.length) (xs ++ cH s))) (fun _ => True) (dh hok) (fun e he => by cases he; exact e9 hok)
  (fun a w ha hw => by
   obtain ⟨ti,hi0,hz,hsz,hby⟩ := info_parts hi
   have hown : w.ownsRow 0 e 1 (.slice A n c) n xs := hw.holds _ hn.mem
   obtain ⟨v',w',hrun,ho,hg,hb2⟩ := app_str (P := cx.P) (ty := ty) ht hu hi0 hz hsz hby hown (B s) (by rw [cN]; unfold maxLen; omega) (by rw [cN]; omega)
   rw [cN,pX] at ho
   obtain ⟨A',c',rfl⟩ := oc ho
   refine ⟨(A',c'),w',.inl (cG (xs := [x,y]) ha (vs := [.slice A n c,.string (B s)]) (by simp [evs,hx,hy]) (by simp [builtin,hrun])), ?_,trivial⟩
   refine hw.change hn _ ho hg.os hg.tape hg.output hg.size (fun k hk hf => hg.block k hk (fun e => hf e.symm)) (fun k hk => ?_)
   rcases hb2 with hb2 | hb2
   · left; show (Value.slice A n c).ownBlock = some k; rw [← hb2]; exact hk
   · right; have hk' : (Value.slice A' (n + s.length) c').ownBlock = some k := hk
     rw [hb2] at hk'; cases hk'; exact Nat.le_refl _) (fun j _ => k j.1 j.2)
end ops
abbrev prD (pb : Nat) (A : Option Addr) (c : Nat) (l : List UInt8) (d m : Int) : List Chunk := [box pb 67 [.slice A l.length c,.int .i64 d,.int .i64 m],row (.slice A l.length c) 5 1 l.length (cH l)]
def prL (pb : Nat) (A : Option Addr) : List Nat := pb :: blkA A
def PrT (w : World) (pb : Nat) (A : Option Addr) (l : List UInt8) (d m : Int) : Ending → World → Prop := Turn w (prL pb A) (fun _ : Option Addr × Nat => .tuple #[]) (fun j => prD pb j.1 j.2 l d m) (fun _ => True)
def fw (w : World) (pb : Nat) (A : Option Addr) (c : Nat) (l : List UInt8) (d m : Int) : Prop := Sat ⟨default,0,[],w,prL pb A⟩ (prD pb A c l d m) w
theorem prD1 (pb : Nat) (A : Option Addr) (c : Nat) (l : List UInt8) (d m : Int) : ∀ x ∈ prD pb A c l d m,∀ k,x.fp k → k ∈ prL pb A := fun x hx k hk => by
 rcases List.mem_cons.1 hx with rfl | hx
 · have : k = pb := hk
   rw [this]; exact List.mem_cons_self
 · obtain rfl := List.mem_singleton.1 hx
   exact List.mem_cons_of_mem _ (qZ hk)
theorem prD2 (pb : Nat) (A : Option Addr) (c : Nat) (l : List UInt8) (d m : Int) : ∀ k ∈ prL pb A, ∃ x ∈ prD pb A c l d m,x.fp k := fun k hk => by
 rcases List.mem_cons.1 hk with rfl | hk
 · exact ⟨_,List.mem_cons_self,rfl⟩
 · exact ⟨_,List.mem_cons_of_mem _ List.mem_cons_self,iu hk⟩
theorem pr_notin {P : Program} {n : Nat} {w w1 : World} {L : List Nat} {H : List Chunk} {pb : Nat} {A : Option Addr} {c : Nat} {l : List UInt8} {d m : Int} (h : Sat ⟨P,n,[],w,L⟩ H w1) (hm : ∀ x ∈ prD pb A c l d m,x ∈ H) : ∀ k,k < w.heap.size → k ∉ L → k ∉ prL pb A := fun k h1 h2 hk => by
 obtain ⟨x,hx,hf⟩ := prD2 pb A c l d m k hk
 rcases h.fresh x (hm x hx) k hf with h3 | h3
 · have h3 : w.heap.size ≤ k := h3
   omega
 · exact h2 h3
end Go.WK
namespace Go.WK
open Go.RowKit
theorem mK (ss : List (List UInt8)) (i : Nat) (h : i < ss.length) : (ss.take (i + 1)).flatten = (ss.take i).flatten ++ ss.getD i [] := by
 rw [pA ss i h]; simp
theorem flat_le (ss : List (List UInt8)) (i : Nat) (h : i < ss.length) : (ss.take i).flatten.length + (ss.getD i []).length ≤ ss.flatten.length := by
 have e := mK ss i h
 have e2 : ss.flatten = (ss.take (i + 1)).flatten ++ (ss.drop (i + 1)).flatten := by rw [← List.flatten_append,List.take_append_drop]
 rw [e2,e]; simp only [List.length_append]; omega
theorem prD_app {pb : Nat} {A : Option Addr} {c : Nat} {l s : List UInt8} {d m : Int} {cx : Cx} {H : List Chunk} {w : World} (h : Sat cx (box pb 67 [.slice A (l.length + s.length) c,.int .i64 d,.int .i64 m] :: row (.slice A (l.length + s.length) c) 5 1 (l.length + s.length) (cH l ++ cH s) :: H) w) : Sat cx (prD pb A c (l ++ s) d m ++ H) w := by
 simp only [prD,List.length_append,gd]
 exact h
theorem bO {pb : Nat} {A : Option Addr} {c : Nat} {l l' : List UInt8} {d d' m m' : Int} {cx : Cx} {w : World} (h1 : l = l') (h2 : d = d') (h3 : m = m') (h : Sat cx (prD pb A c l d m) w) : Sat cx (prD pb A c l' d' m') w := by
 subst h1 h2 h3; exact h
theorem aZ {cx : Cx} {c : Chunk} {H : List Chunk} {w : World} {pb : Nat} {A : Option Addr} {cc : Nat} {l : List UInt8} {d m : Int} (h : Sat cx (c :: H) w) (hin : ∀ x ∈ prD pb A cc l d m,x ∈ H) {k : Nat} (hk : c.fp k) : k ∉ prL pb A := fun hm => by
 obtain ⟨x,hx,hf⟩ := prD2 pb A cc l d m k hm
 exact (List.pairwise_cons.1 h.apart).1 x (hin x hx) k hk hf
section ops
variable {cx : Cx} {fs : aR} {H : List Chunk} {Q : bT} {ops : Array Oper} {rest : List Oper} {g : Option (Nat × Bool)} {dd : Nat} {ty : TypeId} {pos : String} {af : Array Edge}
theorem aC {f : Operand} {xs : List Operand} {ats : Array TypeId} {fid : FuncId} {first cap : List Value} {vs : List Value} {pb : Nat} {A : Option Addr} {c : Nat} {l l' : List UInt8} {d m d' m' : Int} (H1 : List Chunk) (hH : H = H1 ++ prD pb A c l d m) (hok : okS cx.n ops fs dd g = true)
  (hf : ev fs f = some (.func (.func fid) first.toArray cap.toArray)) (hxs : evs fs xs = some vs) (hcf : ∀ args w,(callFunc fid args).run cx.P w = .ok (.enter fid args) w)
  (hc : ∀ w,Sat cx H w → fw w pb A c l d m → (∀ x ∈ prD pb A c l d m,x ∈ H) → Calls cx.P fid (first ++ vs ++ cap).toArray w (PrT w pb A l' d' m'))
  (k : ∀ A' c',TriX false cx ops ((dd,.tuple #[]) :: fs) (H1 ++ prD pb A' c' l' d' m') rest Q) : TriX false cx ops fs H (⟨some dd,.call ⟨.value f,xs.toArray,ats⟩,ty,pos,af,g⟩ :: rest) Q := by
 have hin : ∀ x ∈ prD pb A c l d m,x ∈ H := fun x hx => by rw [hH]; exact List.mem_append_right _ hx
 refine fT (J := Option Addr × Nat) (val := fun _ => .tuple #[]) (D' := fun j => prD pb j.1 j.2 l' d' m') (Pu := fun _ => True) H1 (prD pb A c l d m) [] (prL pb A) (by rw [hH]; rfl) hok hf hxs hcf (prD1 pb A c l d m) (prD2 pb A c l d m) (fun w h1 h2 => hc w h1 h2 hin) (fun j _ => ?_)
 exact k j.1 j.2
end ops
theorem ExsK.at {bl : List Nat} {w : World} : ∀ {l : List Ex} {xs : List Value} (i : Nat),ExsK bl w l xs → i < l.length → ∃ cs,(xs.drop (i * 8)).take 8 = cs ∧ ExK bl w (l.getD i Ex.zero) cs
 | [],_,i,_,hi => by simp at hi
 | e :: es,_,i,h,hi => by
  obtain ⟨y,ys,rfl,h2,h3⟩ := h
  have hy := h2.len
  cases i with
  | zero =>
   refine ⟨y, ?_,h2⟩
   rw [Nat.zero_mul,List.drop_zero]
   exact List.take_left' hy
  | succ i =>
   obtain ⟨cs,k1,k2⟩ := ExsK.at i h3 (by simpa using hi)
   refine ⟨cs, ?_,by simpa using k2⟩
   rw [show (i + 1) * 8 = y.length + i * 8 by omega,List.drop_length_add_append]
   exact k1
theorem ExK.op {bl : List Nat} {w : World} {e : Ex} {cs : List Value} (h : ExK bl w e cs) : cs[0]? = some (.int .i64 e.o) := by
 cases e with
 | mk o v t n c as => obtain ⟨A,k,xs,rfl,_⟩ := h; rfl
theorem iv {xs : List Value} {i : Nat} {cs : List Value} (h : (xs.drop (i * 8)).take 8 = cs) {v : Value} (hv : cs[0]? = some v) : xs[i * 8 + 0]? = some v := by
 rw [← h,List.getElem?_take,if_pos (by decide),List.getElem?_drop] at hv
 exact hv
section
variable {o c : Int} {v : Val} {t n : List UInt8} {as : List Ex}
theorem dX {e : Ex} {low : Int} (h : ¬ lvl e.o < low) : e.txt low = e.core := by unfold Ex.txt eW; rw [if_neg h]
theorem iw {e : Ex} {low : Int} (h : lvl e.o < low) : e.txt low = (40 :: (e.core.1 ++ [41]),e.core.2 + 1) := by unfold Ex.txt eW; rw [if_pos h]
theorem core_1 (h : o = 1) : Ex.core (.mk o v t n c as) = ((prV v).1,0) := by rw [Ex.core,coreT,if_pos h]
theorem core_2 (h : o = 2) : Ex.core (.mk o v t n c as) = (if t = [] then n else t ++ (46 :: n),0) := by rw [Ex.core,coreT,if_neg (by omega),if_pos h]
theorem core_5 (h : o = 5) (ha : 0 < as.length) : Ex.core (.mk o v t n c as) = ([110,111,116,32] ++ ((as.getD 0 Ex.zero).txt 3).1,((as.getD 0 Ex.zero).txt 3).2 + 1) := by
 rw [Ex.core,coreT,if_neg (by omega),if_neg (by omega),if_pos h,gw ha]
theorem core_4 (h : o = 4) (ha : 0 < as.length) : Ex.core (.mk o v t n c as) = (45 :: ((if (as.getD 0 Ex.zero).o = 4 then [32] else []) ++ ((as.getD 0 Ex.zero).txt 7).1),((as.getD 0 Ex.zero).txt 7).2 + 1) := by
 rw [Ex.core,coreT,if_neg (by omega),if_neg (by omega),if_neg (by omega),if_pos h,gw ha,cores_op ha]
theorem core_6 (h : o = 6) (ha : 0 < as.length) : Ex.core (.mk o v t n c as) = (((as.getD 0 Ex.zero).txt 5).1 ++ [32,105,115,32,110,117,108,108],((as.getD 0 Ex.zero).txt 5).2) := by
 rw [Ex.core,coreT,if_neg (by omega),if_neg (by omega),if_neg (by omega),if_neg (by omega),if_pos h,gw ha]
theorem core_7 (h : o = 7) (ha : 0 < as.length) : Ex.core (.mk o v t n c as) = (((as.getD 0 Ex.zero).txt 5).1 ++ [32,105,115,32,110,111,116,32,110,117,108,108],((as.getD 0 Ex.zero).txt 5).2) := by
 rw [Ex.core,coreT,if_neg (by omega),if_neg (by omega),if_neg (by omega),if_neg (by omega),if_neg (by omega),if_pos h,gw ha]
theorem core_b (h1 : o ≠ 1) (h2 : o ≠ 2) (h4 : o ≠ 4) (h5 : o ≠ 5) (h6 : o ≠ 6) (h7 : o ≠ 7) (ha : 1 < as.length) : Ex.core (.mk o v t n c as) = (((as.getD 0 Ex.zero).txt (if lvl o = 4 then 5 else lvl o)).1 ++ ((32 :: (gv o ++ [32])) ++ ((as.getD 1 Ex.zero).txt (lvl o + 1)).1),max ((as.getD 0 Ex.zero).txt (if lvl o = 4 then 5 else lvl o)).2 ((as.getD 1 Ex.zero).txt (lvl o + 1)).2) := by
 rw [Ex.core,coreT,if_neg h1,if_neg h2,if_neg h5,if_neg h4,if_neg h6,if_neg h7,gw (show 0 < as.length by omega),gw ha]
end
def kH : List Opr := orO ++ (andO ++ (cmpO ++ (sumO ++ mulO)))
theorem op_hit : ∀ i,i < 14 → gv (kH.getD i Tok.zero).a = (kH.getD i Tok.zero).t := by decide
theorem sk {o : Int} {i : Nat} (h : ∀ j,j < i → (kH.getD j Tok.zero).a ≠ o) (h1 : (kH.getD i Tok.zero).a ≠ o) : ∀ j,j < i + 1 → (kH.getD j Tok.zero).a ≠ o := fun j hj => by
 rcases Nat.lt_or_ge j i with h2 | h2
 · exact h j h2
 · have e : j = i := by omega
   rw [e]; exact h1
theorem op_miss {o : Int} (h : ∀ i,i < 14 → (kH.getD i Tok.zero).a ≠ o) : gv o = [] := by
 have k0 := h 0 (by decide); have k1 := h 1 (by decide); have k2 := h 2 (by decide); have k3 := h 3 (by decide); have k4 := h 4 (by decide)
 have k5 := h 5 (by decide); have k6 := h 6 (by decide); have k7 := h 7 (by decide); have k8 := h 8 (by decide); have k9 := h 9 (by decide)
 have k10 := h 10 (by decide); have k11 := h 11 (by decide); have k12 := h 12 (by decide); have k13 := h 13 (by decide)
 simp only [kH,orO,andO,cmpO,sumO,mulO,List.getD,List.cons_append,List.nil_append,List.getElem?_cons_zero,List.getElem?_cons_succ,Option.getD_some] at k0 k1 k2 k3 k4 k5 k6 k7 k8 k9 k10 k11 k12 k13
 unfold gv
 rw [if_neg (Ne.symm k0),if_neg (Ne.symm k1),if_neg (Ne.symm k2),if_neg (Ne.symm k3),if_neg (Ne.symm k4),if_neg (Ne.symm k5),if_neg (Ne.symm k6),if_neg (Ne.symm k7),if_neg (Ne.symm k8),if_neg (Ne.symm k9),if_neg (Ne.symm k10),if_neg (Ne.symm k11),if_neg (Ne.symm k12),if_neg (Ne.symm k13)]
def hG (l : List UInt8) (m : Int) : List UInt8 × Int := if 24 < m then ([],191) else if 4096 < l.length then ([],3) else (l,0)
end Go.WK
namespace Go.WK
open Go.RowKit Go.Lib
section ops
variable {m : Bool} {cx : Cx} {fs : aR} {H : List Chunk} {Q : bT} {ops : Array Oper} {rest : List Oper} {g : Option (Nat × Bool)} {d : Nat} {ty : TypeId} {pos : String} {af : Array Edge}
end ops
def dd (k : Nat) : List UInt8 := if k = 0 then [] else decDigits k
end Go.WK
namespace Go.WK
open Go.RowKit
instance : DecidableEq ColX := fun a b => decidable_of_iff (a.n = b.n ∧ a.k = b.k ∧ a.b = b.b) (by cases a; cases b; simp)
instance : DecidableEq ItemX := fun a b => decidable_of_iff (a.e = b.e ∧ a.s = b.s) (by cases a; cases b; simp)
instance : DecidableEq SrcX := fun a b => decidable_of_iff (a.t = b.t ∧ a.s = b.s ∧ a.e = b.e) (by cases a; cases b; simp)
instance : DecidableEq OrdX := fun a b => decidable_of_iff (a.n = b.n ∧ a.b = b.b) (by cases a; cases b; simp)
instance : DecidableEq SetX := fun a b => decidable_of_iff (a.n = b.n ∧ a.e = b.e) (by cases a; cases b; simp)
instance : DecidableEq QryX := fun a b => decidable_of_iff (a.di = b.di ∧ a.st = b.st ∧ a.items = b.items ∧ a.from_ = b.from_ ∧ a.wh = b.wh ∧ a.ord = b.ord ∧ a.li = b.li ∧ a.lim = b.lim) (by cases a; cases b; simp)
instance : DecidableEq StmtX := fun a b => decidable_of_iff (a.k = b.k ∧ a.t = b.t ∧ a.n = b.n ∧ a.cols = b.cols ∧ a.on = b.on ∧ a.un = b.un ∧ a.rows = b.rows ∧ a.sets = b.sets ∧ a.wh = b.wh ∧ a.q = b.q) (by cases a; cases b; simp)
def ColX.zero : ColX := ⟨[],0,false⟩
def ItemX.zero : ItemX := ⟨Ex.zero,[]⟩
def SrcX.zero : SrcX := ⟨[],[],Ex.zero⟩
def OrdX.zero : OrdX := ⟨[],false⟩
def SetX.zero : SetX := ⟨[],Ex.zero⟩
def fk (e : Ex) : Bool := bareX e 0
def gB (e : Ex) : Bool := fk e || e.may
def fL (n most : Nat) : Bool := decide (1 ≤ n) && decide (n ≤ most)
def jE (a : ItemX) : Bool := a.e.may && (decide (a.s = []) || nameOk a.s)
def lK (i : Nat) (a : SrcX) : Bool := nameOk a.t && ((decide (a.s = []) || nameOk a.s) && (if i = 0 then fk a.e else a.e.may))
def bY (g : Nat → Bool) : Nat → Bool
 | 0 => true
 | i + 1 => bY g i && g i
def mayQ (q : QryX) : Bool :=
 (gB q.wh && (decide (q.from_.length ≤ 4) && (decide (q.ord.length ≤ 16) && (decide (0 ≤ q.lim) && (q.li || decide (q.lim = 0)))))) &&
 ((if q.st = true then decide (q.items.length = 0) else fL q.items.length 16) &&
 (bY (fun i => jE (q.items.getD i ItemX.zero)) q.items.length && (bY (fun i => lK i (q.from_.getD i SrcX.zero)) q.from_.length && bY (fun i => nameOk (q.ord.getD i OrdX.zero).n) q.ord.length)))
def dS (s : StmtX) : StmtX :=
 if s.k = 1 then { StmtX.zero with k := 1,t := s.t,cols := s.cols }
 else if s.k = 2 then { StmtX.zero with k := 2,t := s.t }
 else if s.k = 3 then { StmtX.zero with k := 3,t := s.t,n := s.n,on := s.on,un := s.un }
 else if s.k = 4 then { StmtX.zero with k := 4,n := s.n }
 else if s.k = 5 then { StmtX.zero with k := 5,t := s.t,rows := s.rows }
 else if s.k = 6 then { StmtX.zero with k := 6,t := s.t,wh := s.wh }
 else if s.k = 7 then { StmtX.zero with k := 7,t := s.t,sets := s.sets,wh := s.wh }
 else if s.k = 8 then { StmtX.zero with k := 8,q := s.q }
 else { StmtX.zero with k := s.k }
def gh (a : ColX) : Bool := nameOk a.n && (decide (1 ≤ a.k) && decide (a.k ≤ 3))
def fe (l : List Ex) : Bool := fL l.length 16 && bY (fun k => (l.getD k Ex.zero).may) l.length
def gi (a : SetX) : Bool := nameOk a.n && a.e.may
def dv (s : StmtX) : Bool :=
 if s.k = 1 then nameOk s.t && (fL s.cols.length 16 && bY (fun i => gh (s.cols.getD i ColX.zero)) s.cols.length)
 else if s.k = 2 then nameOk s.t
 else if s.k = 3 then nameOk s.t && (nameOk s.n && (fL s.on.length 16 && bY (fun i => nameOk (s.on.getD i [])) s.on.length))
 else if s.k = 4 then nameOk s.n
 else if s.k = 5 then nameOk s.t && (decide (0 < s.rows.length) && bY (fun i => fe (s.rows.getD i [])) s.rows.length)
 else if s.k = 6 then nameOk s.t && gB s.wh
 else if s.k = 7 then nameOk s.t && (fL s.sets.length 16 && (gB s.wh && bY (fun i => gi (s.sets.getD i SetX.zero)) s.sets.length))
 else if s.k = 8 then mayQ s.q
 else decide (9 ≤ s.k ∧ s.k ≤ 11)
def lL (s : StmtX) : Bool := dv s && decide (s = dS s)
def cat (a b : Txt) : Txt := (a.1 ++ b.1,max a.2 b.2)
def raw (s : List UInt8) : Txt := (s,0)
def upT (g : Nat → Txt) : Nat → Txt
 | 0 => ([],0)
 | i + 1 => cat (upT g i) (g i)
def cm (i : Nat) : List UInt8 := if i = 0 then [] else [44,32]
def ew (g : Nat → Txt) (n : Nat) : Txt := upT (fun i => cat (raw (cm i)) (g i)) n
def jF (b : Bool) : List UInt8 := if b = true then [32,110,111,116,32,110,117,108,108] else []
def kindT (k : Int) : List UInt8 := if k = 1 then [32,105,110,116] else if k = 2 then [32,116,101,120,116] else if k = 3 then [32,98,111,111,108] else []
def lM (a : ColX) : Txt := raw (a.n ++ (kindT a.k ++ jF a.b))
def asT (s : List UInt8) : List UInt8 := if s = [] then [] else [32,97,115,32] ++ s
def hJ (a : ItemX) : Txt := cat (a.e.txt 1) (raw (asT a.s))
def kI (i : Nat) (a : SrcX) : Txt := cat (raw ((if i = 0 then [32,102,114,111,109,32] else [32,106,111,105,110,32]) ++ (a.t ++ asT a.s))) (if i = 0 then ([],0) else cat (raw [32,111,110,32]) (a.e.txt 1))
def descT (b : Bool) : List UInt8 := if b = true then [32,100,101,115,99] else []
def ordT (a : OrdX) : Txt := raw (a.n ++ descT a.b)
def fM (e : Ex) : Txt := if e.o = 0 then ([],0) else cat (raw [32,119,104,101,114,101,32]) (e.txt 1)
def setT (a : SetX) : Txt := cat (raw (a.n ++ [32,61,32])) (a.e.txt 1)
def rowT (l : List Ex) : Txt := cat (raw [40]) (cat (ew (fun k => (l.getD k Ex.zero).txt 1) l.length) (raw [41]))
def gT (q : QryX) : List UInt8 := [115,101,108,101,99,116,32] ++ ((if q.di = true then [100,105,115,116,105,110,99,116,32] else []) ++ (if q.st = true then [42] else []))
def oO (n : Nat) : List UInt8 := if 0 < n then [32,111,114,100,101,114,32,98,121,32] else []
def limT (q : QryX) : List UInt8 := if q.li = true then [32,108,105,109,105,116,32] ++ Lib.itoa q.lim else []
def qryT (q : QryX) : Txt := cat (raw (gT q)) (cat (ew (fun i => hJ (q.items.getD i ItemX.zero)) q.items.length) (cat (upT (fun i => kI i (q.from_.getD i SrcX.zero)) q.from_.length)
 (cat (fM q.wh) (cat (raw (oO q.ord.length)) (cat (ew (fun i => ordT (q.ord.getD i OrdX.zero)) q.ord.length) (raw (limT q)))))))
def dK (s : StmtX) : Txt :=
 if s.k = 1 then cat (raw ([99,114,101,97,116,101,32,116,97,98,108,101,32] ++ (s.t ++ [32,40]))) (cat (ew (fun i => lM (s.cols.getD i ColX.zero)) s.cols.length) (raw [41]))
 else if s.k = 2 then raw ([100,114,111,112,32,116,97,98,108,101,32] ++ s.t)
 else if s.k = 3 then cat (raw ([99,114,101,97,116,101,32] ++ ((if s.un = true then [117,110,105,113,117,101,32] else []) ++ ([105,110,100,101,120,32] ++ (s.n ++ ([32,111,110,32] ++ (s.t ++ [32,40]))))))) (cat (ew (fun i => raw (s.on.getD i [])) s.on.length) (raw [41]))
 else if s.k = 4 then raw ([100,114,111,112,32,105,110,100,101,120,32] ++ s.n)
 else if s.k = 5 then cat (raw ([105,110,115,101,114,116,32,105,110,116,111,32] ++ (s.t ++ [32,118,97,108,117,101,115,32]))) (ew (fun i => rowT (s.rows.getD i [])) s.rows.length)
 else if s.k = 6 then cat (raw ([100,101,108,101,116,101,32,102,114,111,109,32] ++ s.t)) (fM s.wh)
 else if s.k = 7 then cat (raw ([117,112,100,97,116,101,32] ++ (s.t ++ [32,115,101,116,32]))) (cat (ew (fun i => setT (s.sets.getD i SetX.zero)) s.sets.length) (fM s.wh))
 else if s.k = 8 then qryT s.q
 else if s.k = 9 then raw [98,101,103,105,110]
 else if s.k = 10 then raw [99,111,109,109,105,116]
 else if s.k = 11 then raw [114,111,108,108,98,97,99,107]
 else ([],0)
def prS (s : StmtX) : List UInt8 × Int := if lL s = true then hG (dK s).1 (dK s).2 else ([],1)
theorem prX_told (e : Ex) : prX e = if e.may = true then hG (e.txt 1).1 (e.txt 1).2 else ([],1) := by
 unfold prX hG
 by_cases h : e.may = true
 · rw [if_pos h,if_pos h]
   by_cases h2 : 24 < (e.txt 1).2
   · rw [if_pos h2,if_pos (show (24 : Int) < ((e.txt 1).2 : Int) by omega)]
   · rw [if_neg h2,if_neg (show ¬ (24 : Int) < ((e.txt 1).2 : Int) by omega)]
 · rw [if_neg h,if_neg h]
theorem upT_le (g : Nat → Txt) : ∀ {i n : Nat},i ≤ n → (upT g i).1.length ≤ (upT g n).1.length := by
 intro i n h
 induction n with
 | zero => obtain rfl : i = 0 := by omega
           exact Nat.le_refl _
 | succ n ih =>
  rcases Nat.lt_or_ge i (n + 1) with h1 | h1
  · have := ih (by omega)
    simp only [upT,cat,List.length_append]; omega
  · obtain rfl : i = n + 1 := by omega
    exact Nat.le_refl _
theorem upT_at (g : Nat → Txt) {i n : Nat} (h : i < n) : (upT g i).1.length + (g i).1.length ≤ (upT g n).1.length := by
 have := upT_le g (show i + 1 ≤ n by omega)
 simpa [upT,cat] using this
structure PSub (w : World) (L : List Nat) (w1 : World) (L1 : List Nat) : Prop where
 chg : Chg L w w1
 notin : ∀ k,k < w.heap.size → k ∉ L → k ∉ L1
theorem PSub.of {P : Program} {n : Nat} {w w1 : World} {L : List Nat} {H : List Chunk} {pb : Nat} {A : Option Addr} {c : Nat} {l : List UInt8} {d m : Int} (h : Sat ⟨P,n,[],w,L⟩ H w1) (hm : ∀ x ∈ prD pb A c l d m,x ∈ H) : PSub w L w1 (prL pb A) :=
 ⟨h.chg,pr_notin h hm⟩
structure PE (w : World) (L : List Nat) (bl : List Nat) : Prop where
 lt : ∀ k ∈ bl,k < w.heap.size ∧ k ∉ L
 g : ∀ k,k < 10 → k < w.heap.size ∧ k ∉ L
theorem PE.sub {w w1 : World} {L L1 bl : List Nat} (h : PE w L bl) (s : PSub w L w1 L1) : PE w1 L1 bl :=
 ⟨fun k hk => ⟨Nat.lt_of_lt_of_le (h.lt k hk).1 s.chg.size,s.notin k (h.lt k hk).1 (h.lt k hk).2⟩,fun k hk => ⟨Nat.lt_of_lt_of_le (h.g k hk).1 s.chg.size,s.notin k (h.g k hk).1 (h.g k hk).2⟩⟩
theorem PE.st {w w1 : World} {L L1 bl : List Nat} (h : PE w L bl) (s : PSub w L w1 L1) : ∀ k ∈ bl,w1.heap[k]? = w.heap[k]? := fun k hk => s.chg.block k (h.lt k hk).1 (h.lt k hk).2
theorem PE.rd {w : World} {L bl : List Nat} (h : PE w L bl) {A : Option Addr} {xs : List Value} (hx : Rd w A xs) (hb : ∀ a,A = some a → xs ≠ [] → a.block ∈ bl) (cx : Cx) (H : List Chunk) (e1 : cx.w0 = w) (e2 : cx.lent = L) : RdS cx H A xs := by
 by_cases hn : xs = []
 · subst hn; exact fun _ _ => Rd.nil _ _
 · exact RdS.lent (by rw [e1]; exact hx) (fun a ha => by rw [e2]; exact (h.lt _ (hb a ha hn)).2)
theorem ExK.psub {w w1 : World} {L L1 bl : List Nat} {e : Ex} {cs : List Value} (h : ExK bl w e cs) (p : PE w L bl) (s : PSub w L w1 L1) : ExK bl w1 e cs := ExK.stab (p.st s) _ _ h
theorem ExsK.nil {bl : List Nat} {w : World} {as : List Ex} {xs : List Value} (h : ExsK bl w as xs) (hx : xs ≠ []) : as ≠ [] := fun e => hx (by subst e; exact h)
end Go.WK
namespace Go.WK
open Go.RowKit Lib
abbrev KT := Int × List UInt8
def kt (t : Tok) : KT := (t.k,t.t)
def cU (q : List UInt8) (ks : List KT) : Prop := ∀ f o,q.length < f → ∃ ts,jt f o q = .ok ts ∧ ts.map kt = ks ++ [(5,[])]
theorem sm : cU [] [] := fun f o h => by
 obtain ⟨f,rfl⟩ : ∃ k,f = k + 1 := ⟨f - 1,by omega⟩
 exact ⟨_,ol rfl,rfl⟩
theorem cF {q : List UInt8} {ks : List KT} (h : cU q ks) : cU (32 :: q) ks := fun f o hf => by
 have e : gap (32 :: q) = gap q + 1 := by
  show dw false _ = _
  rw [dw,if_pos (by decide),Nat.add_comm]
 obtain ⟨ts,h1,h2⟩ := h f (o + 1) (by simp only [List.length_cons] at hf; omega)
 refine ⟨ts, ?_,h2⟩
 rw [← h1]
 unfold jt
 rw [e,List.drop_succ_cons,show o + (gap q + 1) = o + 1 + gap q by omega]
theorem gC {c : UInt8} {p r t : List UInt8} {k : Int} {ks : List KT} (hg : gap (c :: (p ++ r)) = 0) (ht : bZ (c :: (p ++ r)) = ⟨k,t,p.length + 1,0⟩) (h : cU r ks) : cU (c :: (p ++ r)) ((k,t) :: ks) := fun f o hf => by
 obtain ⟨f,rfl⟩ : ∃ k,f = k + 1 := ⟨f - 1,by omega⟩
 obtain ⟨ts,h1,h2⟩ := h f (o + 0 + (p.length + 1)) (by simp only [List.length_cons,List.length_append] at hf; omega)
 have hq : (c :: (p ++ r)).drop (gap (c :: (p ++ r))) = c :: (p ++ r) := by rw [hg]; rfl
 refine ⟨⟨k,t,((o + 0 : Nat) : Int)⟩ :: ts, ?_,by simp [kt,h2]⟩
 rw [iI hq,ht]
 simp only [ne_eq,not_true_eq_false,if_false,hg,List.drop_succ_cons,List.drop_left]
 rw [h1]; rfl
def Stop (r : List UInt8) : Prop := r = [] ∨ (r.head?.getD 0) ∈ [(32 : UInt8),40,41,44,46]
theorem Stop.wd {r : List UInt8} (h : Stop r) : r = [] ∨ eV (r.head?.getD 0) = false := h.imp id fun h => by
 have : ∀ c ∈ [(32 : UInt8),40,41,44,46],eV c = false := by decide
 exact this _ h
theorem Stop.dg {r : List UInt8} (h : Stop r) : r = [] ∨ bf (r.head?.getD 0) = false := h.imp id fun h => by
 have : ∀ c ∈ [(32 : UInt8),40,41,44,46],bf c = false := by decide
 exact this _ h
theorem Stop.q {r : List UInt8} (h : Stop r) : r.head? ≠ some 39 := by
 rcases h with rfl | h
 · simp
 · intro e
   rw [e] at h
   exact absurd h (by decide)
theorem stop_nil : Stop [] := .inl rfl
theorem dY {c : UInt8} {l : List UInt8} (h : c ∈ [(32 : UInt8),40,41,44,46]) : Stop (c :: l) := .inr h
theorem rc {P : UInt8 → Bool} {s r : List UInt8} (h : ∀ x ∈ s,P x = true) (hr : r = [] ∨ P (r.head?.getD 0) = false) : bM P (s ++ r) = s.length := by
 refine run_is P _ _ (by simp) (fun i hi => ?_) (fun hl => ?_)
 · rw [getD_app _ _ _ hi]
   exact h _ (by simp [List.getD,hi])
 · rw [mz]
   rcases hr with rfl | hr
   · simp at hl
   · exact hr
theorem ix {c : UInt8} {l : List UInt8} (h1 : iU c = false) (h2 : c ≠ 45 ∨ l.head? ≠ some 45) : gap (c :: l) = 0 := by
 show dw false _ = _
 rw [dw,if_neg (by rw [h1]; decide),if_neg (fun e => h2.elim (fun h => h e.1) (fun h => h e.2))]
theorem oP {f : Bool} {c : UInt8} (h : fG f c = true) : eV c = true ∧ low c = c := by
 have h2 : (97 ≤ c.toNat ∧ c.toNat ≤ 122) ∨ (48 ≤ c.toNat ∧ c.toNat ≤ 57) ∨ c.toNat = 95 := by
  unfold fG at h
  simp only [Bool.or_eq_true,Bool.and_eq_true,decide_eq_true_eq] at h
  omega
 refine ⟨ng.2 ?_, ?_⟩
 · rw [ju,kM]; omega
 · unfold low; rw [if_neg (by omega)]
theorem mL {c : UInt8} (h : fG true c = true) : cM c = true := by
 unfold fG at h
 simp only [Bool.or_eq_true,Bool.and_eq_true,decide_eq_true_eq,Bool.not_true,Bool.false_eq_true,false_and,or_false] at h
 rw [ju]; omega
theorem pY {c : UInt8} (h : cM c = true) : iU c = false := by
 cases hb : iU c with
 | false => rfl
 | true => have h1 := ju.1 h; have h2 := bl_nat.1 hb; omega
theorem let_ne {c : UInt8} (h : cM c = true) : c ≠ 45 := fun e => by subst e; revert h; decide
theorem cd {s r : List UInt8} {ks : List KT} (hs : ip s = true) (hr : Stop r) (h : cU r ks) : cU (s ++ r) ((1,s) :: ks) := by
 cases s with
 | nil => cases hs
 | cons c p =>
  have hs2 : fG true c = true ∧ ∀ x ∈ p,fG false x = true := by
   unfold ip at hs
   simp only [Bool.and_eq_true,List.getD_cons_zero,List.drop_succ_cons,List.drop_zero,List.all_eq_true] at hs
   exact ⟨hs.2.2.1,hs.2.2.2⟩
  have hl := mL hs2.1
  have hw : ∀ x ∈ c :: p,eV x = true ∧ low x = x := fun x hx => by
   rcases List.mem_cons.1 hx with rfl | hx
   · exact oP hs2.1
   · exact oP (hs2.2 x hx)
  have hrun := rc (fun x hx => (hw x hx).1) hr.wd
  have hsm : ii (c :: p) = c :: p := by
   unfold ii
   rw [show (c :: p) = (c :: p).map id by simp,List.map_map]
   exact List.map_congr_left fun x hx => by simpa using (hw x (by simpa using hx)).2
  refine gC (ix (pY hl) (.inl (let_ne hl))) ?_ h
  rw [← List.cons_append,iG (by simpa using hl),hrun,List.take_left,hsm]; rfl
theorem dig_all : ∀ (u : Nat),∀ x ∈ decDigits u,bf x = true := fun u x hx => by
 have h := il u
 have key : ∀ (l : List UInt8) (acc v : Nat),decFrom acc l = some v → ∀ x ∈ l,bf x = true := by
  intro l
  induction l with
  | nil => intro acc v _ x hx; cases hx
  | cons c l ih =>
   intro acc v h x hx
   simp only [decFrom] at h
   cases hc : digitVal c with
   | none => simp [hc] at h
   | some d =>
    simp only [hc] at h
    rcases List.mem_cons.1 hx with rfl | hx
    · obtain ⟨q1,q2,_⟩ := digitVal_eq hc
      exact kM.2 ⟨q1,q2⟩
    · exact ih _ v h x hx
 exact key _ 0 u h x hx
theorem so {n : Int} {r : List UInt8} {ks : List KT} (h0 : 0 ≤ n) (hn : inR n = true) (hr : Stop r) (h : cU r ks) : cU (itoa n ++ r) ((2,itoa n) :: ks) := by
 have hp := ln hn
 have hd : ∀ x ∈ itoa n,bf x = true := by rw [im (by omega)]; exact dig_all _
 obtain ⟨c,p,e,q1,q2⟩ := jZ n.toNat
 have hz : c = 48 → p = [] := fun hc => by
  have := dec_head n.toNat (by rw [e,hc]; rfl)
  rw [this,iN (by decide)] at e
  simp at e; exact e.2
 rw [im (by omega),e] at hd hp ⊢
 have hc : bf c = true := hd c List.mem_cons_self
 have hl : cM c = false := by
  cases hx : cM c with
  | false => rfl
  | true => have := ju.1 hx; omega
 have hb : iU c = false := by
  cases hx : iU c with
  | false => rfl
  | true => have := bl_nat.1 hx; omega
 have hrun := rc hd hr.dg
 refine gC (ix hb (.inl fun e => by rw [e] at q1; simp at q1)) ?_ h
 rw [← List.cons_append]
 have hdg : bf ((c :: p ++ r).getD 0 0) = true := by simpa using hc
 rw [lb (by simpa using hl) hdg,if_neg,hrun,List.take_left]; rfl
 refine (gP hdg).1 ⟨⟨n,by rw [hrun,List.take_left]; exact hp⟩,fun hh => ?_,fun hh => ?_⟩
 · have h1 := hh.1
   rw [hrun] at h1
   have := hz (by simpa using hh.2)
   subst this
   simp at h1
 · have h2 := hh.2
   rw [hrun,mz] at h2
   rcases hr.wd with rfl | h3
   · have := hh.1; rw [hrun] at this; simp at this
   · have := ng.2 (.inl h2)
     rw [h3] at this; cases this
theorem re : ∀ (s r : List UInt8),r.head? ≠ some 39 → quo (dbl s ++ (39 :: r)) = some (s,(dbl s).length + 1)
 | [],r,hr => by rw [dbl,List.nil_append,qN hr]; rfl
 | c :: s,r,hr => by
  have ih := re s r hr
  by_cases hc : c = 39
  · subst hc
    have e : dbl (39 :: s) = 39 :: 39 :: dbl s := by simp [dbl]
    rw [e,List.cons_append,List.cons_append,qO,ih]; simp
  · have e : dbl (c :: s) = c :: dbl s := by simp [dbl,hc]
    rw [e,List.cons_append,quo_ne hc,ih]; simp
theorem pZ {s r : List UInt8} {ks : List KT} (hs : s.length ≤ 64) (hr : Stop r) (h : cU r ks) : cU (39 :: (dbl s ++ (39 :: r))) ((3,s) :: ks) := by
 have e : 39 :: (dbl s ++ (39 :: r)) = 39 :: ((dbl s ++ [39]) ++ r) := by simp
 have hq := re s r hr.q
 rw [e]
 refine gC (ix (by decide) (.inl (by decide))) ?_ h
 rw [← e,jX (by rfl),List.drop_succ_cons,List.drop_zero,hq]
 simp only
 rw [if_neg (by omega)]; simp
theorem cf {c : UInt8} {r : List UInt8} {ks : List KT} (hc : c ∈ [(40 : UInt8),41,44,46,59,61,43,42,47,37] ∨ (c = 45 ∧ r.head? ≠ some 45) ∨ ((c = 60 ∨ c = 62) ∧ r.head? = some 32)) (h : cU r ks) : cU (c :: r) ((4,[c]) :: ks) := by
  have key : cM c = false ∧ bf c = false ∧ c ≠ 39 ∧ iU c = false ∧ (c ≠ 45 ∨ r.head? ≠ some 45) ∧ eh (c :: r) = 1 := by
    rcases hc with hc | ⟨rfl,hc⟩ | ⟨hc,hr⟩
    · have k1 : ∀ c ∈ [(40 : UInt8),41,44,46,59,61,43,42,47,37],cM c = false ∧ bf c = false ∧ c ≠ 39 ∧ iU c = false ∧ c ≠ 45 := by decide
      obtain ⟨a1,a2,a3,a4,a5⟩ := k1 c hc
      refine ⟨a1,a2,a3,a4,.inl a5, ?_⟩
      have k2 : ∀ c ∈ [(40 : UInt8),41,44,46,59,61,43,42,47,37],∀ d : Int,sgn c.toNat d = 1 := by
        intro c hc d
        simp only [List.mem_cons,List.mem_nil_iff,or_false] at hc
        rcases hc with rfl | rfl | rfl | rfl | rfl | rfl | rfl | rfl | rfl | rfl <;> rfl
      exact k2 c hc _
    · exact ⟨by decide,by decide,by decide,by decide,.inr hc,rfl⟩
    · have e1 : (c :: r).getD 1 0 = 32 := by
        cases r with
        | nil => simp at hr
        | cons x r => simp at hr; simp [hr]
      rcases hc with rfl | rfl
      · exact ⟨by decide,by decide,by decide,by decide,.inl (by decide),by unfold eh; rw [e1]; rfl⟩
      · exact ⟨by decide,by decide,by decide,by decide,.inl (by decide),by unfold eh; rw [e1]; rfl⟩
  obtain ⟨a1,a2,a3,a4,a5,a6⟩ := key
  refine gC (p := []) (ix a4 a5) ?_ h
  rw [List.nil_append,iH (by simpa using a1) (by simpa using a2) (by simpa using a3),a6]; rfl
theorem fZ {c d : UInt8} {r : List UInt8} {ks : List KT} (hc : (c,d) ∈ [((60 : UInt8),(62 : UInt8)),(60,61),(62,61),(124,124)]) (h : cU r ks) : cU (c :: d :: r) ((4,[c,d]) :: ks) := by
 have k1 : ∀ x ∈ [((60 : UInt8),(62 : UInt8)),(60,61),(62,61),(124,124)],cM x.1 = false ∧ bf x.1 = false ∧ x.1 ≠ 39 ∧ iU x.1 = false ∧ x.1 ≠ 45 ∧ sgn x.1.toNat x.2.toNat = 2 := by decide
 obtain ⟨a1,a2,a3,a4,a5,a6⟩ := k1 _ hc
 refine gC (p := [d]) (ix a4 (.inl a5)) ?_ h
 have e : eh (c :: d :: r) = 2 := a6
 rw [List.singleton_append,iH (by simpa using a1) (by simpa using a2) (by simpa using a3),e]; rfl
def opK (o : Int) : KT := (if o = 21 ∨ o = 20 then 1 else 4,gv o)
theorem lexes_op {o : Int} {r : List UInt8} {ks : List KT} (ho : 8 ≤ o ∧ o ≤ 21) (h : cU r ks) : cU (gv o ++ (32 :: r)) (opK o :: ks) := by
 have hb := cF h
 have hst : Stop (32 :: r) := dY (by decide)
 have hcs : o = 8 ∨ o = 9 ∨ o = 10 ∨ o = 11 ∨ o = 12 ∨ o = 13 ∨ o = 14 ∨ o = 15 ∨ o = 16 ∨ o = 17 ∨ o = 18 ∨ o = 19 ∨ o = 20 ∨ o = 21 := by omega
 rcases hcs with rfl | rfl | rfl | rfl | rfl | rfl | rfl | rfl | rfl | rfl | rfl | rfl | rfl | rfl
 · exact cf (.inl (by decide)) hb
 · exact cf (.inr (.inl ⟨rfl,by simp⟩)) hb
 · exact cf (.inl (by decide)) hb
 · exact cf (.inl (by decide)) hb
 · exact cf (.inl (by decide)) hb
 · exact fZ (by decide) hb
 · exact cf (.inl (by decide)) hb
 · exact fZ (by decide) hb
 · exact cf (.inr (.inr ⟨.inl rfl,rfl⟩)) hb
 · exact fZ (by decide) hb
 · exact cf (.inr (.inr ⟨.inr rfl,rfl⟩)) hb
 · exact fZ (by decide) hb
 · exact cd (by decide) hst hb
 · exact cd (by decide) hst hb
end Go.WK
namespace Go.WK
open Go.RowKit Lib
def valK (v : Val) : KT := if v.k = 1 then (2,itoa v.n) else if v.k = 2 then (3,v.s) else if v.k = 3 then (1,if v.n = 1 then iZ else gf) else (1,dl)
abbrev ArgK := Int × List KT
def i7 (x : ArgK) (low : Int) : List KT := if lvl x.1 < low then (4,[40]) :: (x.2 ++ [(4,[41])]) else x.2
def argK (l : List ArgK) (i : Nat) : ArgK := l.getD i (0,[])
def coreK (o : Int) (v : Val) (t n : List UInt8) (l : List ArgK) : List KT :=
 if o = 1 then [valK v]
 else if o = 2 then (if t = [] then [(1,n)] else [(1,t),(4,[46]),(1,n)])
 else if o = 5 then (1,fa) :: i7 (argK l 0) 3
 else if o = 4 then (4,[45]) :: i7 (argK l 0) 7
 else if o = 6 then i7 (argK l 0) 5 ++ [(1,isB),(1,dl)]
 else if o = 7 then i7 (argK l 0) 5 ++ [(1,isB),(1,fa),(1,dl)]
 else i7 (argK l 0) (if lvl o = 4 then 5 else lvl o) ++ opK o :: i7 (argK l 1) (lvl o + 1)
mutual
def Ex.kcore : Ex → List KT
 | .mk o v t n _ as => coreK o v t n (Exs.kcores as)
def Exs.kcores : List Ex → List ArgK
 | [] => []
 | e :: es => (e.o,e.kcore) :: Exs.kcores es
end
def Ex.tk (e : Ex) (low : Int) : List KT := i7 (e.o,e.kcore) low
inductive View : Ex → Prop
 | cst (v : Val) (hv : may v = true) (h0 : v.k = 1 → 0 ≤ v.n) : View (cst v)
 | nam (t n : List UInt8) (hn : nameOk n = true) (ht : t = [] ∨ nameOk t = true) : View (.mk 2 Val.zero t n 0 [])
 | un (o : Int) (a : Ex) (ho : 4 ≤ o ∧ o ≤ 7) (ha : a.may = true) : View (un o a)
 | bin (o : Int) (a b : Ex) (ho : 8 ≤ o ∧ o ≤ 21) (ha : a.may = true) (hb : b.may = true) : View (bin o a b)
theorem view {e : Ex} (h : e.may = true) : View e := by
 obtain ⟨o,v,t,n,c,as⟩ := e
 by_cases h1 : o = 1
 · subst h1
   rw [Ex.may,if_pos rfl] at h
   simp only [bareX,Bool.and_eq_true,decide_eq_true_eq,Ex.mk.injEq,Bool.or_eq_true,Bool.not_eq_true',decide_eq_false_iff_not] at h
   obtain ⟨⟨_,_,rfl,rfl,rfl,rfl⟩,h2,h3⟩ := h
   exact .cst v h2 (fun hk => h3.resolve_left (fun h => h hk))
 by_cases h2 : o = 2
 · subst h2
   rw [Ex.may,if_neg h1,if_pos rfl] at h
   simp only [bareX,Bool.and_eq_true,decide_eq_true_eq,Ex.mk.injEq,Bool.or_eq_true] at h
   obtain ⟨⟨hn,ht⟩,_,rfl,_,_,rfl,rfl⟩ := h
   exact .nam t n hn ht
 have h' := h
 rw [Ex.may,if_neg h1,if_neg h2] at h
 split at h
 · cases h
 rename_i ho
 simp only [Bool.and_eq_true,decide_eq_true_eq] at h
 obtain ⟨⟨hl,rfl,rfl,rfl,rfl⟩,hm⟩ := h
 rw [Exs.may_iff] at hm
 by_cases h4 : o = 4 ∨ o = 5 ∨ o = 6 ∨ o = 7
 · unfold arity at hl
   rw [if_pos h4] at hl
   match as,hl with
   | [a],_ => exact .un o a (by omega) (by simpa using hm)
 · unfold arity at hl
   rw [if_neg h4] at hl
   match as,hl with
   | [a,b],_ =>
    simp only [List.all_cons,List.all_nil,Bool.and_true,Bool.and_eq_true] at hm
    exact .bin o a b (by omega) hm.1 hm.2
section
variable (a b : Ex) (o : Int)
theorem nB {e : Ex} {low : Int} (h : ¬ lvl e.o < low) : e.tk low = e.kcore := by unfold Ex.tk i7; rw [if_neg h]
theorem kP {e : Ex} {low : Int} (h : lvl e.o < low) : e.tk low = (4,[40]) :: (e.kcore ++ [(4,[41])]) := by unfold Ex.tk i7; rw [if_pos h]
theorem k_cst (v : Val) : (cst v).kcore = [valK v] := rfl
theorem k_nam (t n : List UInt8) : Ex.kcore (.mk 2 Val.zero t n 0 []) = if t = [] then [(1,n)] else [(1,t),(4,[46]),(1,n)] := rfl
theorem k_not : (un 5 a).kcore = (1,fa) :: a.tk 3 := rfl
theorem k_neg : (un 4 a).kcore = (4,[45]) :: a.tk 7 := rfl
theorem k_nul : (un 6 a).kcore = a.tk 5 ++ [(1,isB),(1,dl)] := rfl
theorem nC : (un 7 a).kcore = a.tk 5 ++ [(1,isB),(1,fa),(1,dl)] := rfl
theorem oQ (h : 8 ≤ o) : (bin o a b).kcore = a.tk (if lvl o = 4 then 5 else lvl o) ++ opK o :: b.tk (lvl o + 1) := by
 show coreK o _ _ _ _ = _
 unfold coreK
 rw [if_neg (by omega),if_neg (by omega),if_neg (by omega),if_neg (by omega),if_neg (by omega),if_neg (by omega)]; rfl
theorem c_cst (v : Val) : (cst v).core = ((prV v).1,0) := rfl
theorem c_nam (t n : List UInt8) : Ex.core (.mk 2 Val.zero t n 0 []) = (if t = [] then n else t ++ (46 :: n),0) := rfl
theorem c_not : (un 5 a).core = ([110,111,116,32] ++ (a.txt 3).1,(a.txt 3).2 + 1) := rfl
theorem c_neg : (un 4 a).core = (45 :: ((if a.o = 4 then [32] else []) ++ (a.txt 7).1),(a.txt 7).2 + 1) := rfl
theorem c_nul : (un 6 a).core = ((a.txt 5).1 ++ [32,105,115,32,110,117,108,108],(a.txt 5).2) := rfl
theorem nD : (un 7 a).core = ((a.txt 5).1 ++ [32,105,115,32,110,111,116,32,110,117,108,108],(a.txt 5).2) := rfl
theorem oR (h : 8 ≤ o) : (bin o a b).core = ((a.txt (if lvl o = 4 then 5 else lvl o)).1 ++ ((32 :: (gv o ++ [32])) ++ (b.txt (lvl o + 1)).1),max (a.txt (if lvl o = 4 then 5 else lvl o)).2 (b.txt (lvl o + 1)).2) := by
 show coreT o _ _ _ _ = _
 unfold coreT
 rw [if_neg (by omega),if_neg (by omega),if_neg (by omega),if_neg (by omega),if_neg (by omega),if_neg (by omega)]; rfl
end
theorem iP (o : Int) (a : Ex) : a.size < (un o a).size := by simp [un,Ex.size,Exs.size]; omega
theorem gD (o : Int) (a b : Ex) : a.size < (bin o a b).size ∧ b.size < (bin o a b).size := by simp [bin,Ex.size,Exs.size]; omega
theorem lN (o : Int) : 1 ≤ lvl o ∧ lvl o ≤ 8 := by unfold lvl; repeat' split <;> omega
theorem lvl_op {o : Int} (h : 8 ≤ o ∧ o ≤ 21) : lvl o = 1 ∨ lvl o = 2 ∨ lvl o = 4 ∨ lvl o = 5 ∨ lvl o = 6 := by unfold lvl; repeat' split <;> omega
theorem mM {s r : List UInt8} (h : ip s = true) : (s ++ r).head? ≠ some 45 := by
 cases s with
 | nil => cases h
 | cons c p =>
  unfold ip at h
  simp only [Bool.and_eq_true,List.getD_cons_zero] at h
  have := let_ne (mL h.2.2.1)
  simpa using this
theorem jG {s : List UInt8} (h : nameOk s = true) : ip s = true := by
 unfold nameOk at h
 simp only [Bool.and_eq_true] at h
 exact h.1
theorem sq {n : Int} (h : 0 ≤ n) (r : List UInt8) : (itoa n ++ r).head? ≠ some 45 := by
 obtain ⟨c,p,e,q1,q2⟩ := jZ n.toNat
 rw [im (by omega),e]
 intro h
 have : c = 45 := by simpa using h
 subst this
 simp at q1
theorem sr {v : Val} (hv : may v = true) (h0 : v.k = 1 → 0 ≤ v.n) (ho : v.ok) {r : List UInt8} {ks : List KT} (hr : Stop r) (h : cU r ks) : cU ((prV v).1 ++ r) (valK v :: ks) ∧ ((prV v).1 ++ r).head? ≠ some 45 := by
 unfold prV valK
 rw [if_pos hv]
 by_cases h1 : v.k = 1
 · rw [if_pos h1,if_pos h1]
   exact ⟨so (h0 h1) (iM.2 (by unfold Val.ok at ho; omega)) hr h,sq (h0 h1) r⟩
 rw [if_neg h1,if_neg h1]
 by_cases h2 : v.k = 2
 · rw [if_pos h2,if_pos h2]
   have hl : v.s.length ≤ 64 := by
    unfold may at hv
    simp [h2] at hv
    exact hv.2
   refine ⟨?_,by simp⟩
   simpa using pZ hl hr h
 rw [if_neg h2,if_neg h2]
 by_cases h3 : v.k = 3
 · rw [if_pos h3,if_pos h3]
   by_cases h4 : v.n = 1
   · rw [if_pos h4,if_pos h4]; exact ⟨cd (by decide) hr h,by simp⟩
   · rw [if_neg h4,if_neg h4]; exact ⟨cd (by decide) hr h,by simp⟩
 · rw [if_neg h3,if_neg h3]; exact ⟨cd (by decide) hr h,by simp⟩
theorem ex_lexes : ∀ (m : Nat) (e : Ex),e.size < m → e.may = true → e.ok → ∀ (low : Int) (r : List UInt8) (ks : List KT),Stop r → cU r ks → cU ((e.txt low).1 ++ r) (e.tk low ++ ks) ∧ (e.o ≠ 4 → (7 ≤ low ∨ 7 ≤ lvl e.o) → ((e.txt low).1 ++ r).head? ≠ some 45) := by
 intro m
 induction m with
 | zero => intro e h; omega
 | succ m ih =>
  intro e hs hm ho
  have core : ∀ (r : List UInt8) (ks : List KT),Stop r → cU r ks → cU (e.core.1 ++ r) (e.kcore ++ ks) ∧ (e.o ≠ 4 → 7 ≤ lvl e.o → (e.core.1 ++ r).head? ≠ some 45) := by
   intro r ks hr h
   have hv := view hm
   cases hv with
   | cst v hv h0 =>
    obtain ⟨_,hov,_⟩ := ho
    have := sr hv h0 hov hr h
    exact ⟨this.1,fun _ _ => this.2⟩
   | nam t n hn ht =>
    rw [c_nam,k_nam]
    by_cases h1 : t = []
    · rw [if_pos h1,if_pos h1]
      exact ⟨cd (jG hn) hr h,fun _ _ => mM (jG hn)⟩
    · have ht := jG (ht.resolve_left h1)
      rw [if_neg h1,if_neg h1]
      have h2 := cf (c := 46) (.inl (by decide)) (cd (jG hn) hr h)
      have h3 := cd ht (dY (by decide)) h2
      refine ⟨by simpa using h3,fun _ _ => ?_⟩
      simp only [List.append_assoc]
      exact mM ht
   | un o a ho4 ha =>
    have hsz := iP o a
    obtain ⟨_,_,_,hoa,_⟩ := ho
    have ih := ih a (by omega) ha hoa
    have hcs : o = 5 ∨ o = 4 ∨ o = 6 ∨ o = 7 := by omega
    rcases hcs with rfl | rfl | rfl | rfl
    · rw [c_not,k_not]
      refine ⟨?_,fun _ h7 => absurd (show 7 ≤ lvl 5 from h7) (by decide)⟩
      have := cd (s := [110,111,116]) (by decide) (dY (by decide)) (cF (ih 3 r ks hr h).1)
      simpa [fa] using this
    · rw [c_neg,k_neg]
      refine ⟨?_,fun h4 => absurd rfl h4⟩
      have h1 := ih 7 r ks hr h
      by_cases h4 : a.o = 4
      · rw [if_pos h4]
        have := cf (c := 45) (.inr (.inl ⟨rfl,by simp⟩)) (cF h1.1)
        simpa using this
      · rw [if_neg h4]
        have := cf (c := 45) (.inr (.inl ⟨rfl,h1.2 h4 (.inl (by omega))⟩)) h1.1
        simpa using this
    · rw [c_nul,k_nul]
      refine ⟨?_,fun _ h7 => absurd (show 7 ≤ lvl 6 from h7) (by decide)⟩
      have h1 := cd (s := [110,117,108,108]) (by decide) hr h
      have h2 := cd (s := [105,115]) (by decide) (dY (by decide)) (cF h1)
      have h3 := (ih 5 _ _ (dY (by decide)) (cF h2)).1
      simpa [isB,dl] using h3
    · rw [nD,nC]
      refine ⟨?_,fun _ h7 => absurd (show 7 ≤ lvl 7 from h7) (by decide)⟩
      have h1 := cd (s := [110,117,108,108]) (by decide) hr h
      have h2 := cd (s := [110,111,116]) (by decide) (dY (by decide)) (cF h1)
      have h2 := cd (s := [105,115]) (by decide) (dY (by decide)) (cF h2)
      have h3 := (ih 5 _ _ (dY (by decide)) (cF h2)).1
      simpa [isB,dl,fa] using h3
   | bin o a b ho8 ha hb =>
    have hsz := gD o a b
    obtain ⟨_,_,_,hoa,hob,_⟩ := ho
    rw [oR a b o ho8.1,oQ a b o ho8.1]
    have hl := lvl_op ho8
    refine ⟨?_,fun _ h7 => by have h7 : 7 ≤ lvl o := h7; omega⟩
    have h1 := (ih b (by omega) hb hob (lvl o + 1) r ks hr h).1
    have h2 := lexes_op ho8 h1
    have h3 := (ih a (by omega) ha hoa (if lvl o = 4 then 5 else lvl o) _ _ (dY (by decide)) (cF h2)).1
    simpa using h3
  intro low r ks hr h
  by_cases hlow : lvl e.o < low
  · rw [iw hlow,kP hlow]
    have h1 := cf (c := 41) (.inl (by decide)) h
    have h2 := (core (41 :: r) _ (dY (by decide)) h1).1
    have h3 := cf (c := 40) (.inl (by decide)) h2
    exact ⟨by simpa using h3,fun _ _ => by simp⟩
  · rw [dX hlow,nB hlow]
    have := core r ks hr h
    exact ⟨this.1,fun h4 h7 => this.2 h4 (by omega)⟩
end Go.WK
namespace Go.WK
open Go.RowKit
theorem Exs.ok_at : ∀ {l : List Ex} {i : Nat},Exs.ok l → i < l.length → (l.getD i Ex.zero).ok
 | [],_,_,h => by simp at h
 | a :: l,0,h,_ => h.1
 | a :: l,i + 1,h,hi => by
  have := Exs.ok_at (l := l) (i := i) h.2 (by simpa using hi)
  simpa using this
theorem Exs.size_at : ∀ {l : List Ex} {i : Nat},i < l.length → (l.getD i Ex.zero).size ≤ Exs.size l
 | [],_,h => by simp at h
 | a :: l,0,_ => by simp [Exs.size]
 | a :: l,i + 1,hi => by
  have := Exs.size_at (l := l) (i := i) (by simpa using hi)
  simp only [Exs.size,List.getD_cons_succ]; omega
theorem Exs.len_size : ∀ l : List Ex,l.length ≤ Exs.size l
 | [] => Nat.le_refl _
 | a :: l => by
  have := Exs.len_size l
  have h : 1 ≤ a.size := by cases a; simp only [Ex.size]; omega
  simp only [Exs.size,List.length_cons]; omega
theorem Ex.ok_at {o c : Int} {v : Val} {t n : List UInt8} {l : List Ex} {i : Nat} (h : Ex.ok (.mk o v t n c l)) (hi : i < l.length) : (l.getD i Ex.zero).ok := Exs.ok_at h.2.2.2 hi
theorem Ex.size_at {o c : Int} {v : Val} {t n : List UInt8} {l : List Ex} {i : Nat} (hi : i < l.length) : (l.getD i Ex.zero).size < Ex.size (.mk o v t n c l) := by
 have := Exs.size_at hi
 simp only [Ex.size]; omega
theorem mN {o c : Int} {v : Val} {t n : List UInt8} {l : List Ex} (h : Ex.may (.mk o v t n c l) = true) :
  (1 ≤ o ∧ o ≤ 21 ∧ o ≠ 3) ∧ (o = 1 → WK.may v = true) ∧ (4 ≤ o → o ≤ 7 → l.length = 1) ∧ (8 ≤ o → l.length = 2) ∧ ∀ i,i < l.length → (l.getD i Ex.zero).may = true := by
 generalize he : Ex.mk o v t n c l = e at h
 have hv := view h
 cases hv with
 | cst v' hv h0 =>
  cases he
  exact ⟨by omega,fun _ => hv,fun h => by omega,fun h => by omega,fun i hi => by simp at hi⟩
 | nam t' n' hn ht =>
  cases he
  exact ⟨by omega,fun h => by omega,fun h => by omega,fun h => by omega,fun i hi => by simp at hi⟩
 | un o' a ho ha =>
  cases he
  exact ⟨by omega,fun h => by omega,fun _ _ => rfl,fun h => by omega,fun i hi => by
   obtain rfl : i = 0 := by simpa using hi
   exact ha⟩
 | bin o' a b ho ha hb =>
  cases he
  exact ⟨by omega,fun h => by omega,fun _ h => by omega,fun h => rfl,fun i hi => by
   have hi : i < 2 := hi
   rcases (by omega : i = 0 ∨ i = 1) with rfl | rfl
   · exact ha
   · exact hb⟩
theorem deep_le : ∀ (m : Nat) (e : Ex),e.size < m → e.may = true → ∀ low : Int,(e.txt low).2 ≤ (e.txt low).1.length := by
 intro m
 induction m with
 | zero => intro e h; omega
 | succ m ih =>
  intro e hs hm low
  have core : e.core.2 ≤ e.core.1.length := by
   have hv := view hm
   cases hv with
   | cst v hv h0 => rw [c_cst]; exact Nat.zero_le _
   | nam t n hn ht => rw [c_nam]; exact Nat.zero_le _
   | un o a ho ha =>
    have hsz := iP o a
    have ih := ih a (by omega) ha
    have hcs : o = 5 ∨ o = 4 ∨ o = 6 ∨ o = 7 := by omega
    rcases hcs with rfl | rfl | rfl | rfl
    · rw [c_not]; have := ih 3; simp only [List.length_append,List.length_cons,List.length_nil]; omega
    · rw [c_neg]; have := ih 7; simp only [List.length_append,List.length_cons]; omega
    · rw [c_nul]; have := ih 5; simp only [List.length_append,List.length_cons]; omega
    · rw [nD]; have := ih 5; simp only [List.length_append,List.length_cons]; omega
   | bin o a b ho ha hb =>
    have hsz := gD o a b
    have iha := ih a (by omega) ha (if lvl o = 4 then 5 else lvl o)
    have ihb := ih b (by omega) hb (lvl o + 1)
    rw [oR a b o ho.1]
    simp only [List.length_append,List.length_cons]; omega
  by_cases hlow : lvl e.o < low
  · rw [iw hlow]; simp only [List.length_append,List.length_cons,List.length_nil]; omega
  · rw [dX hlow]; exact core
theorem bareX_eq (o : Int) (v : Val) (t n : List UInt8) (c : Int) (l : List Ex) (op : Int) : (((((decide (o = op) && decide (v = Val.zero)) && decide (t = [])) && decide (n = [])) && decide (c = 0)) && decide ((l.length : Int) = 0)) = bareX (.mk o v t n c l) op := by
 unfold bareX
 rw [Bool.eq_iff_iff]
 simp only [Bool.and_eq_true,decide_eq_true_eq,Ex.mk.injEq]
 constructor
 · rintro ⟨⟨⟨⟨⟨h1,h2⟩,h3⟩,h4⟩,h5⟩,h6⟩
   exact ⟨h1,h2,h3,h4,h5,List.length_eq_zero_iff.1 (by omega)⟩
 · rintro ⟨h1,h2,h3,h4,h5,h6⟩
   exact ⟨⟨⟨⟨⟨h1,h2⟩,h3⟩,h4⟩,h5⟩,by rw [h6]; rfl⟩
theorem may_1 (v : Val) (t n : List UInt8) (c : Int) (l : List Ex) : Ex.may (.mk 1 v t n c l) = ((bareX (.mk 1 Val.zero t n c l) 1 && WK.may v) && (decide (v.k ≠ 1) || decide (0 ≤ v.n))) := by
 rw [Ex.may,if_pos rfl,Bool.and_assoc,decide_not]
theorem may_2 (v : Val) (t n : List UInt8) (c : Int) (l : List Ex) : Ex.may (.mk 2 v t n c l) = ((nameOk n && (decide (t = []) || nameOk t)) && bareX (.mk 2 v [] [] c l) 2) := by
 rw [Ex.may,if_neg (by decide),if_pos rfl]
theorem may_no {o : Int} (v : Val) (t n : List UInt8) (c : Int) (l : List Ex) (h1 : o ≠ 1) (h2 : o ≠ 2) (h : o < 4 ∨ 21 < o) : Ex.may (.mk o v t n c l) = false := by
 rw [Ex.may,if_neg h1,if_neg h2,if_pos h]
theorem may_bad {o : Int} (v : Val) (t n : List UInt8) (c : Int) (l : List Ex) (h1 : o ≠ 1) (h2 : o ≠ 2) (h : ((((decide ((l.length : Int) ≠ (arity o : Int)) || !decide (v = Val.zero)) || decide (t ≠ [])) || decide (n ≠ [])) || decide (c ≠ 0)) = true) : Ex.may (.mk o v t n c l) = false := by
 cases hm : Ex.may (.mk o v t n c l) with
 | false => rfl
 | true =>
  exfalso
  rw [Ex.may,if_neg h1,if_neg h2] at hm
  split at hm
  · cases hm
  · simp only [Bool.and_eq_true,decide_eq_true_eq] at hm
    obtain ⟨⟨a1,a2,a3,a4,a5⟩,_⟩ := hm
    simp [a1,a2,a3,a4,a5] at h
theorem rf {o : Int} (v : Val) (t n : List UInt8) (c : Int) (l : List Ex) (h1 : o ≠ 1) (h2 : o ≠ 2) (ho : 4 ≤ o ∧ o ≤ 21) (h : ((((decide ((l.length : Int) ≠ (arity o : Int)) || !decide (v = Val.zero)) || decide (t ≠ [])) || decide (n ≠ [])) || decide (c ≠ 0)) = false) : Ex.may (.mk o v t n c l) = l.all Ex.may := by
 simp only [Bool.or_eq_false_iff,Bool.not_eq_false',decide_eq_true_eq,decide_eq_false_iff_not,Decidable.not_not] at h
 obtain ⟨⟨⟨⟨a1,a2⟩,a3⟩,a4⟩,a5⟩ := h
 rw [Ex.may,if_neg h1,if_neg h2,if_neg (by omega),decide_eq_true ⟨by omega,a2,a3,a4,a5⟩,Exs.may_iff,Bool.true_and]
theorem all_hit {l : List Ex} {i : Nat} (hi : i < l.length) (h : (l.getD i Ex.zero).may = false) : l.all Ex.may = false := by
 cases hh : l.all Ex.may with
 | false => rfl
 | true =>
  have := List.all_eq_true.1 hh (l.getD i Ex.zero) (by simp [List.getD,hi])
  rw [h] at this; cases this
theorem all_step {l : List Ex} {i : Nat} (hi : i < l.length) (h : (l.take i).all Ex.may = true) (h1 : (l.getD i Ex.zero).may = true) : (l.take (i + 1)).all Ex.may = true := by
 have e : l.take (i + 1) = l.take i ++ [l.getD i Ex.zero] := by rw [List.take_succ_eq_append_getElem hi]; simp [List.getD,hi]
 rw [e,List.all_append,h,Bool.true_and,List.all_cons,h1]; rfl
end Go.WK
namespace Go.WK
open Go.RowKit
structure SL where
 A : Option Addr
 k : Nat
def SL.nil : SL := ⟨none,0⟩
structure QLay where
 I : SL
 F : SL
 V : SL
 O : SL
structure Lay where
 C : SL
 N : SL
 R : SL
 S : SL
 W : SL
 q : QLay
def QLay.nil : QLay := ⟨.nil,.nil,.nil,.nil⟩
def Lay.nil : Lay := ⟨.nil,.nil,.nil,.nil,.nil,.nil⟩
abbrev bH (e : Ex) (y : SL) : List Value := [.int .i64 e.o,.int .i64 e.v.k,.int .i64 e.v.n,.string (B e.v.s),.string (B e.t),.string (B e.n),.int .i64 e.c,.slice y.A e.as.length y.k]
abbrev dL (q : QryX) (y : QLay) : List Value := [.bool q.di,.bool q.st,.slice y.I.A q.items.length y.I.k,.slice y.F.A q.from_.length y.F.k,
 .int .i64 q.wh.o,.int .i64 q.wh.v.k,.int .i64 q.wh.v.n,.string (B q.wh.v.s),.string (B q.wh.t),.string (B q.wh.n),.int .i64 q.wh.c,.slice y.V.A q.wh.as.length y.V.k,.slice y.O.A q.ord.length y.O.k,.bool q.li,.int .i64 q.lim]
abbrev bL (s : StmtX) (y : Lay) : List Value := [.int .i64 s.k,.string (B s.t),.string (B s.n),.slice y.C.A s.cols.length y.C.k,.slice y.N.A s.on.length y.N.k,.bool s.un,.slice y.R.A s.rows.length y.R.k,.slice y.S.A s.sets.length y.S.k,
 .int .i64 s.wh.o,.int .i64 s.wh.v.k,.int .i64 s.wh.v.n,.string (B s.wh.v.s),.string (B s.wh.t),.string (B s.wh.n),.int .i64 s.wh.c,.slice y.W.A s.wh.as.length y.W.k,
 .bool s.q.di,.bool s.q.st,.slice y.q.I.A s.q.items.length y.q.I.k,.slice y.q.F.A s.q.from_.length y.q.F.k,
 .int .i64 s.q.wh.o,.int .i64 s.q.wh.v.k,.int .i64 s.q.wh.v.n,.string (B s.q.wh.v.s),.string (B s.q.wh.t),.string (B s.q.wh.n),.int .i64 s.q.wh.c,.slice y.q.V.A s.q.wh.as.length y.q.V.k,.slice y.q.O.A s.q.ord.length y.q.O.k,.bool s.q.li,.int .i64 s.q.lim]
def SlR {α : Type} (K : Kd α) (bl : List Nat) (w : World) (l : List α) (y : SL) (xs : List Value) : Prop := l.length ≤ y.k ∧ Rd w y.A xs ∧ (∀ a,y.A = some a → xs ≠ [] → a.block ∈ bl) ∧ K.seq bl w l xs
theorem seq_nil {α : Type} {K : Kd α} {bl : List Nat} {w : World} {l : List α} {xs : List Value} (h : K.seq bl w l xs) (hx : xs ≠ []) : l ≠ [] := fun e => hx (by subst e; exact h)
theorem sl_R {α : Type} {K : Kd α} {bl : List Nat} {w : World} {l : List α} {v : Value} (h : K.sl bl w l v) : ∃ y xs,v = .slice y.A l.length y.k ∧ SlR K bl w l y xs := by
 obtain ⟨A,k,xs,h1,h2,h3,h4,h5⟩ := h
 exact ⟨⟨A,k⟩,xs,h1,h2,h3,fun a ha hx => h4 a ha (seq_nil h5 hx),h5⟩
theorem SlR.stab {α : Type} {K : Kd α} {bl : List Nat} {w w1 : World} {l : List α} {y : SL} {xs : List Value} (h : SlR K bl w l y xs) (hs : ∀ k ∈ bl,w1.heap[k]? = w.heap[k]?) : SlR K bl w1 l y xs :=
 ⟨h.1,h.2.1.same (fun a ha hne => hs _ (h.2.2.1 a ha hne)),h.2.2.1,K.seq_stab hs h.2.2.2⟩
theorem SlR.mono {α : Type} {K : Kd α} {bl bl' : List Nat} {w : World} {l : List α} {y : SL} {xs : List Value} (h : SlR K bl w l y xs) (hs : ∀ k ∈ bl,k ∈ bl') : SlR K bl' w l y xs :=
 ⟨h.1,h.2.1,fun a ha hx => hs _ (h.2.2.1 a ha hx),K.seq_mono hs h.2.2.2⟩
theorem SlR.rd {α : Type} {K : Kd α} {w : World} {L bl : List Nat} {l : List α} {y : SL} {xs : List Value} (h : SlR K bl w l y xs) (p : PE w L bl) (cx : Cx) (H : List Chunk) (e1 : cx.w0 = w) (e2 : cx.lent = L) : RdS cx H y.A xs := p.rd h.2.1 h.2.2.1 cx H e1 e2
theorem SlR.rd0 {α : Type} {K : Kd α} {w : World} {bl : List Nat} {l : List α} {y : SL} {xs : List Value} (h : SlR K bl w l y xs) (cx : Cx) (H : List Chunk) (e1 : cx.w0 = w) (e2 : cx.lent = []) : RdS cx H y.A xs := RdS.lent (by rw [e1]; exact h.2.1) (fun b hb => by rw [e2]; simp)
theorem SlR.len {α : Type} {K : Kd α} {bl : List Nat} {w : World} {l : List α} {y : SL} {xs : List Value} (h : SlR K bl w l y xs) : xs.length = l.length * K.z := K.seq_len h.2.2.2
theorem SlR.at {α : Type} {K : Kd α} {bl : List Nat} {w : World} {l : List α} {y : SL} {xs : List Value} (h : SlR K bl w l y xs) (zero : α) (i : Nat) (hi : i < l.length) : ∃ cs,(xs.drop (i * K.z)).take K.z = cs ∧ K.rel bl w (l.getD i zero) cs := K.seq_at zero i h.2.2.2 hi
theorem aL {xs cs : List Value} {a z j : Nat} {v : Value} (h : (xs.drop a).take z = cs) (hv : cs[j]? = some v) : xs[a + j]? = some v := by
 rw [← h,List.getElem?_take] at hv
 split at hv
 · rwa [List.getElem?_drop] at hv
 · cases hv
def ExR (bl : List Nat) (w : World) (e : Ex) (y : SL) : Prop := ExK bl w e (bH e y)
theorem ex_R {bl : List Nat} {w : World} {e : Ex} {cs : List Value} (h : ExK bl w e cs) : ∃ y,cs = bH e y ∧ ExR bl w e y := by
 have h' := h
 obtain ⟨o,v,t,n,c,as⟩ := e
 obtain ⟨A,k,xs,h1,_⟩ := h'
 exact ⟨⟨A,k⟩,h1,by unfold ExR; rw [← show _ = bH (.mk o v t n c as) ⟨A,k⟩ from h1]; exact h⟩
structure QR_ (bl : List Nat) (w : World) (q : QryX) (y : QLay) (xI xF xO : List Value) : Prop where
 I : SlR itemKd bl w q.items y.I xI
 F : SlR srcKd bl w q.from_ y.F xF
 V : ExR bl w q.wh y.V
 O : SlR ordKd bl w q.ord y.O xO
structure SR_ (bl : List Nat) (w : World) (s : StmtX) (y : Lay) (xC xN xR xS xI xF xO : List Value) : Prop where
 C : SlR colKd bl w s.cols y.C xC
 N : SlR nameKd bl w s.on y.N xN
 R : SlR rowKd bl w s.rows y.R xR
 S : SlR setKd bl w s.sets y.S xS
 W : ExR bl w s.wh y.W
 q : QR_ bl w s.q y.q xI xF xO
def QAt (bl : List Nat) (w : World) (q : QryX) (y : QLay) : Prop := ∃ xI xF xO,QR_ bl w q y xI xF xO
def SAt (bl : List Nat) (w : World) (s : StmtX) (y : Lay) : Prop := ∃ xC xN xR xS xI xF xO,SR_ bl w s y xC xN xR xS xI xF xO
theorem ExR.stab {bl : List Nat} {w w1 : World} {e : Ex} {y : SL} (h : ExR bl w e y) (hs : ∀ k ∈ bl,w1.heap[k]? = w.heap[k]?) : ExR bl w1 e y := ExK.stab hs _ _ h
theorem ExR.mono {bl bl' : List Nat} {w : World} {e : Ex} {y : SL} (h : ExR bl w e y) (hs : ∀ k ∈ bl,k ∈ bl') : ExR bl' w e y := ExK.mono hs _ _ h
theorem QAt.stab {bl : List Nat} {w w1 : World} {q : QryX} {y : QLay} (h : QAt bl w q y) (hs : ∀ k ∈ bl,w1.heap[k]? = w.heap[k]?) : QAt bl w1 q y := by
 obtain ⟨a,b,c,h⟩ := h
 exact ⟨a,b,c,h.I.stab hs,h.F.stab hs,h.V.stab hs,h.O.stab hs⟩
theorem QAt.mono {bl bl' : List Nat} {w : World} {q : QryX} {y : QLay} (h : QAt bl w q y) (hs : ∀ k ∈ bl,k ∈ bl') : QAt bl' w q y := by
 obtain ⟨a,b,c,h⟩ := h
 exact ⟨a,b,c,h.I.mono hs,h.F.mono hs,h.V.mono hs,h.O.mono hs⟩
theorem SAt.stab {bl : List Nat} {w w1 : World} {s : StmtX} {y : Lay} (h : SAt bl w s y) (hs : ∀ k ∈ bl,w1.heap[k]? = w.heap[k]?) : SAt bl w1 s y := by
 obtain ⟨a,b,c,d,e,f,g,h⟩ := h
 obtain ⟨e',f',g',hq⟩ := QAt.stab ⟨e,f,g,h.q⟩ hs
 exact ⟨a,b,c,d,e',f',g',h.C.stab hs,h.N.stab hs,h.R.stab hs,h.S.stab hs,h.W.stab hs,hq⟩
theorem SAt.mono {bl bl' : List Nat} {w : World} {s : StmtX} {y : Lay} (h : SAt bl w s y) (hs : ∀ k ∈ bl,k ∈ bl') : SAt bl' w s y := by
 obtain ⟨a,b,c,d,e,f,g,h⟩ := h
 obtain ⟨e',f',g',hq⟩ := QAt.mono ⟨e,f,g,h.q⟩ hs
 exact ⟨a,b,c,d,e',f',g',h.C.mono hs,h.N.mono hs,h.R.mono hs,h.S.mono hs,h.W.mono hs,hq⟩
theorem SAt.q {bl : List Nat} {w : World} {s : StmtX} {y : Lay} (h : SAt bl w s y) : QAt bl w s.q y.q := by
 obtain ⟨a,b,c,d,e,f,g,h⟩ := h
 exact ⟨e,f,g,h.q⟩
theorem st_at {bl : List Nat} {w : World} {s : StmtX} {cs : List Value} (h : StK bl w s cs) : ∃ y,cs = bL s y ∧ SAt bl w s y := by
 obtain ⟨vC,vN,vR,vS,vI,vF,vO,ec,fc,rfl,h2⟩ := h
 obtain ⟨yC,xC,rfl,rC⟩ := sl_R h2.cols
 obtain ⟨yN,xN,rfl,rN⟩ := sl_R h2.on
 obtain ⟨yR,xR,rfl,rR⟩ := sl_R h2.rows
 obtain ⟨yS,xS,rfl,rS⟩ := sl_R h2.sets
 obtain ⟨yW,rfl,rW⟩ := ex_R h2.wh
 obtain ⟨yI,xI,rfl,rI⟩ := sl_R h2.q.items
 obtain ⟨yF,xF,rfl,rF⟩ := sl_R h2.q.from_
 obtain ⟨yV,rfl,rV⟩ := ex_R h2.q.wh
 obtain ⟨yO,xO,rfl,rO⟩ := sl_R h2.q.ord
 exact ⟨⟨yC,yN,yR,yS,yW,⟨yI,yF,yV,yO⟩⟩,rfl,xC,xN,xR,xS,xI,xF,xO,rC,rN,rR,rS,rW,rI,rF,rV,rO⟩
structure QOk (q : QryX) : Prop where
 items : ∀ i,i < q.items.length → (q.items.getD i ItemX.zero).e.ok
 from_ : ∀ i,i < q.from_.length → (q.from_.getD i SrcX.zero).e.ok
 wh : q.wh.ok
 lim : inR q.lim = true
structure SOk (s : StmtX) : Prop where
 k : -9223372036854775808 ≤ s.k ∧ s.k ≤ 9223372036854775807
 cols : ∀ i,i < s.cols.length → -9223372036854775808 ≤ (s.cols.getD i ColX.zero).k ∧ (s.cols.getD i ColX.zero).k ≤ 9223372036854775807
 rows : ∀ i,i < s.rows.length → ∀ j,j < (s.rows.getD i []).length → ((s.rows.getD i []).getD j Ex.zero).ok
 sets : ∀ i,i < s.sets.length → (s.sets.getD i SetX.zero).e.ok
 wh : s.wh.ok
 q : QOk s.q
theorem gU {g : Nat → Bool} : ∀ {n i : Nat},bY g n = true → i < n → g i = true
 | 0,i,_,h => by omega
 | n + 1,i,h,hi => by
  simp only [bY,Bool.and_eq_true] at h
  rcases Nat.lt_or_ge i n with h1 | h1
  · exact gU h.1 h1
  · obtain rfl : i = n := by omega
    exact h.2
theorem kd {e : Ex} : fk e = true ↔ e = Ex.zero := by
 obtain ⟨o,v,t,n,c,as⟩ := e
 unfold fk bareX Ex.zero
 rw [decide_eq_true_eq]
theorem may_pos {e : Ex} (h : e.may = true) : e.o ≠ 0 := by
 obtain ⟨o,v,t,n,c,as⟩ := e
 have := (mN h).1
 show o ≠ 0
 omega
theorem mayb_may {e : Ex} (h : gB e = true) (ho : e.o ≠ 0) : e.may = true := by
 unfold gB at h
 simp only [Bool.or_eq_true] at h
 rcases h with h | h
 · exact absurd (by rw [kd.1 h]; rfl) ho
 · exact h
theorem su {e : Ex} (h : gB e = true) (ho : e.o = 0) : e = Ex.zero := by
 unfold gB at h
 simp only [Bool.or_eq_true] at h
 rcases h with h | h
 · exact kd.1 h
 · exact absurd ho (may_pos h)
end Go.WK
namespace Go.WK
open Go.RowKit
section ops
variable {m : Bool} {cx : Cx} {fs : aR} {H : List Chunk} {Q : bT} {ops : Array Oper} {rest : List Oper} {g : Option (Nat × Bool)} {d : Nat} {ty : TypeId} {pos : String} {af : Array Edge}
theorem mO {x y : Operand} {t e n : Nat} {ki : IntKind} {i : Int} {cs : List Value} {v : Value} (ht : cx.P.underlying t = some (.array n e)) (he : cu cx.P e = some false) (hs : szB cx.P e = some 1) (hok : okS cx.n ops fs d g = true) (hx : ev fs x = some (.agg cs.toArray)) (hy : ev fs y = some (.int ki i))
  (h0 : 0 ≤ i) (h1 : i < n) (hl : cs.length = n) (hv : cs[i.toNat]? = some v) (k : TriX m cx ops ((d,v) :: fs) H rest Q) : TriX m cx ops fs H (⟨some d,.index t x y,ty,pos,af,g⟩ :: rest) Q :=
 aV _ hok (fun a w ha _ => by
  have hb : i.toNat + 1 ≤ cs.length := by omega
  obtain ⟨hi,hv2⟩ := List.getElem?_eq_some_iff.1 hv
  simp [execOp,ha.eval hx,ha.eval hy,Instr.index,asIntOf,run_underlying ht,cS hs,h0,h1,part,c7 he,hv]) k
end ops
theorem p6 {cx : Cx} {F : List Chunk} {w : World} {pb : Nat} {A : Option Addr} {c : Nat} {l : List UInt8} {d m : Int} (h : Sat cx (F ++ prD pb A c l d m) w) {ch : Chunk} (hc : ch ∈ F) {k : Nat} (hk : ch.fp k) : k ∉ prL pb A := fun hm => by
 obtain ⟨x,hx,hf⟩ := prD2 pb A c l d m k hm
 exact (List.pairwise_append.1 h.apart).2.2 ch hc x hx k hk hf
theorem PE.cons {w : World} {L bl : List Nat} {k : Nat} (h : PE w L bl) (h1 : k < w.heap.size) (h2 : k ∉ L) : PE w L (k :: bl) :=
 ⟨fun j hj => by rcases List.mem_cons.1 hj with rfl | hj; exact ⟨h1,h2⟩; exact h.lt j hj,h.g⟩
structure CEnv (w : World) (bl : List Nat) (bp pb bx : Nat) (cs : List Value) : Prop where
 p : Rd w (some ⟨bp,0,none⟩) [.pointer (some ⟨pb,0,none⟩)]
 x : Rd w (some ⟨bx,0,none⟩) cs
 bp : bp ∈ bl
 bx : bx ∈ bl
theorem CEnv.stab {w w1 : World} {bl : List Nat} {bp pb bx : Nat} {cs : List Value} (h : CEnv w bl bp pb bx cs) (hs : ∀ k ∈ bl,w1.heap[k]? = w.heap[k]?) : CEnv w1 bl bp pb bx cs :=
 ⟨h.p.same (fun a ha _ => by cases ha; exact hs _ h.bp),h.x.same (fun a ha _ => by cases ha; exact hs _ h.bx),h.bp,h.bx⟩
theorem CEnv.mono {w : World} {bl bl' : List Nat} {bp pb bx : Nat} {cs : List Value} (h : CEnv w bl bp pb bx cs) (hs : ∀ k ∈ bl,k ∈ bl') : CEnv w bl' bp pb bx cs := ⟨h.p,h.x,hs _ h.bp,hs _ h.bx⟩
theorem CEnv.rp {w : World} {L bl : List Nat} {bp pb bx : Nat} {cs : List Value} (h : CEnv w bl bp pb bx cs) (p : PE w L bl) (cx : Cx) (H : List Chunk) (e1 : cx.w0 = w) (e2 : cx.lent = L) : RdS cx H (some ⟨bp,0,none⟩) [.pointer (some ⟨pb,0,none⟩)] := p.rd h.p (fun a ha _ => by cases ha; exact h.bp) cx H e1 e2
theorem CEnv.rx {w : World} {L bl : List Nat} {bp pb bx : Nat} {cs : List Value} (h : CEnv w bl bp pb bx cs) (p : PE w L bl) (cx : Cx) (H : List Chunk) (e1 : cx.w0 = w) (e2 : cx.lent = L) : RdS cx H (some ⟨bx,0,none⟩) cs := p.rd h.x (fun a ha _ => by cases ha; exact h.bx) cx H e1 e2
theorem cenv {P : Program} {n : Nat} {w w1 : World} {L bl : List Nat} {F : List Chunk} {pb : Nat} {A : Option Addr} {c : Nat} {l : List UInt8} {d m : Int} (hV : PE w L bl) (h1 : Sat ⟨P,n,[],w,L⟩ (F ++ prD pb A c l d m) w1) {bp bx t1 t2 : Nat} {cs : List Value}
  {i j : Nat} (hp : Nth F i (box bp t1 [.pointer (some ⟨pb,0,none⟩)])) (hx : Nth F j (box bx t2 cs)) : PE w1 (prL pb A) (bp :: bx :: bl) ∧ CEnv w1 (bp :: bx :: bl) bp pb bx cs := by
 have hs : PSub w L w1 (prL pb A) := PSub.of h1 (fun x hx => List.mem_append_right _ hx)
 have np := p6 h1 hp.mem (k := bp) rfl
 have nx := p6 h1 hx.mem (k := bx) rfl
 have lp := h1.lt (List.mem_append_left _ hp.mem) (k := bp) rfl
 have lx := h1.lt (List.mem_append_left _ hx.mem) (k := bx) rfl
 have rd : ∀ {b t : Nat} {cs : List Value},box b t cs ∈ F → Rd w1 (some ⟨b,0,none⟩) cs := fun {b t cs} hm j u hj => by
  have hb : w1.heap[b]? = some (.cells cs.toArray t (0,0)) := h1.holds _ (List.mem_append_left _ hm)
  exact ⟨_,rfl,by rw [iF,Nat.zero_add,cell_of_row w1 b j cs.toArray t (0,0) hb]; simpa using hj⟩
 exact ⟨((hV.sub hs).cons lx nx).cons lp np,rd hp.mem,rd hx.mem,List.mem_cons_self,List.mem_cons_of_mem _ List.mem_cons_self⟩
theorem ey {xs p cs r : List Value} {a z : Nat} (h : (xs.drop a).take z = p ++ (cs ++ r)) : (xs.drop (a + p.length)).take cs.length = cs := by
 have h2 : ((xs.drop a).take z).drop p.length = cs ++ r := by rw [h,List.drop_left]
 rw [List.drop_take,List.drop_drop] at h2
 have h3 : (((xs.drop (a + p.length)).take (z - p.length))).take cs.length = cs := by rw [h2,List.take_left]
 rw [List.take_take] at h3
 have hl : cs.length ≤ z - p.length := by
  have := congrArg List.length h2
  simp only [List.length_take,List.length_append] at this
  omega
 rwa [Nat.min_eq_left hl] at h3
theorem jH {bl : List Nat} {w : World} {l : List ItemX} {y : SL} {xs : List Value} (h : SlR itemKd bl w l y xs) (i : Nat) (hi : i < l.length) : ∃ ye,(xs.drop (i * 9)).take 9 = bH (l.getD i ItemX.zero).e ye ++ [.string (B (l.getD i ItemX.zero).s)] ∧ ExR bl w (l.getD i ItemX.zero).e ye := by
 obtain ⟨cs,h1,ce,rfl,h3⟩ := h.at ItemX.zero i hi
 obtain ⟨ye,rfl,h4⟩ := ex_R h3
 exact ⟨ye,h1,h4⟩
theorem nE {bl : List Nat} {w : World} {l : List SrcX} {y : SL} {xs : List Value} (h : SlR srcKd bl w l y xs) (i : Nat) (hi : i < l.length) : ∃ ye,(xs.drop (i * 10)).take 10 = [.string (B (l.getD i SrcX.zero).t),.string (B (l.getD i SrcX.zero).s)] ++ bH (l.getD i SrcX.zero).e ye ∧ ExR bl w (l.getD i SrcX.zero).e ye := by
 obtain ⟨cs,h1,ce,rfl,h3⟩ := h.at SrcX.zero i hi
 obtain ⟨ye,rfl,h4⟩ := ex_R h3
 exact ⟨ye,h1,h4⟩
theorem nF {bl : List Nat} {w : World} {l : List SetX} {y : SL} {xs : List Value} (h : SlR setKd bl w l y xs) (i : Nat) (hi : i < l.length) : ∃ ye,(xs.drop (i * 9)).take 9 = [.string (B (l.getD i SetX.zero).n)] ++ bH (l.getD i SetX.zero).e ye ∧ ExR bl w (l.getD i SetX.zero).e ye := by
 obtain ⟨cs,h1,ce,rfl,h3⟩ := h.at SetX.zero i hi
 obtain ⟨ye,rfl,h4⟩ := ex_R h3
 exact ⟨ye,h1,h4⟩
theorem nG {bl : List Nat} {w : World} {l : List ColX} {y : SL} {xs : List Value} (h : SlR colKd bl w l y xs) (i : Nat) (hi : i < l.length) : (xs.drop (i * 3)).take 3 = [.string (B (l.getD i ColX.zero).n),.int .i64 (l.getD i ColX.zero).k,.bool (l.getD i ColX.zero).b] := by
 obtain ⟨cs,h1,rfl⟩ := h.at ColX.zero i hi
 exact h1
theorem nH {bl : List Nat} {w : World} {l : List OrdX} {y : SL} {xs : List Value} (h : SlR ordKd bl w l y xs) (i : Nat) (hi : i < l.length) : (xs.drop (i * 2)).take 2 = [.string (B (l.getD i OrdX.zero).n),.bool (l.getD i OrdX.zero).b] := by
 obtain ⟨cs,h1,rfl⟩ := h.at OrdX.zero i hi
 exact h1
theorem kQ {bl : List Nat} {w : World} {l : List (List UInt8)} {y : SL} {xs : List Value} (h : SlR nameKd bl w l y xs) (i : Nat) (hi : i < l.length) : (xs.drop (i * 1)).take 1 = [.string (B (l.getD i []))] := by
 obtain ⟨cs,h1,rfl⟩ := h.at ([] : List UInt8) i hi
 exact h1
theorem jI {bl : List Nat} {w : World} {l : List (List Ex)} {y : SL} {xs : List Value} (h : SlR rowKd bl w l y xs) (i : Nat) (hi : i < l.length) : ∃ yr xr,(xs.drop (i * 1)).take 1 = [.slice yr.A (l.getD i []).length yr.k] ∧ SlR exKd bl w (l.getD i []) yr xr := by
 obtain ⟨cs,h1,v,rfl,h3⟩ := h.at ([] : List Ex) i hi
 obtain ⟨yr,xr,rfl,h4⟩ := sl_R h3
 exact ⟨yr,xr,h1,h4⟩
theorem ex_at {bl : List Nat} {w : World} {l : List Ex} {y : SL} {xs : List Value} (h : SlR exKd bl w l y xs) (i : Nat) (hi : i < l.length) : ∃ ye,(xs.drop (i * 8)).take 8 = bH (l.getD i Ex.zero) ye ∧ ExR bl w (l.getD i Ex.zero) ye := by
 obtain ⟨cs,h1,h3⟩ := h.at Ex.zero i hi
 obtain ⟨ye,rfl,h4⟩ := ex_R h3
 exact ⟨ye,h1,h4⟩
end Go.WK
namespace Go.WK
open Go.RowKit
theorem benv {P : Program} {n : Nat} {w w1 : World} {L : List Nat} {F : List Chunk} {pb : Nat} {A : Option Addr} {c : Nat} {l : List UInt8} {d m : Int} (h1 : Sat ⟨P,n,[],w,L⟩ (F ++ prD pb A c l d m) w1) {b t : Nat} {cs : List Value} {i : Nat} (hb : Nth F i (box b t cs)) :
  Rd w1 (some ⟨b,0,none⟩) cs ∧ b < w1.heap.size ∧ b ∉ prL pb A := by
 refine ⟨fun j u hj => ?_,h1.lt (List.mem_append_left _ hb.mem) (k := b) rfl,p6 h1 hb.mem (k := b) rfl⟩
 have hh : w1.heap[b]? = some (.cells cs.toArray t (0,0)) := h1.holds _ (List.mem_append_left _ hb.mem)
 exact ⟨_,rfl,by rw [iF,Nat.zero_add,cell_of_row w1 b j cs.toArray t (0,0) hh]; simpa using hj⟩
theorem kd_get {k : Int} (h : 1 ≤ k ∧ k ≤ 3) : ([.string (B []),.string (B [32,105,110,116]),.string (B [32,116,101,120,116]),.string (B [32,98,111,111,108])] : List Value)[k.toNat]? = some (.string (B (kindT k))) := by
 rcases (by omega : k = 1 ∨ k = 2 ∨ k = 3) with rfl | rfl | rfl <;> rfl
theorem mayCol_k {a : ColX} (h : gh a = true) : 1 ≤ a.k ∧ a.k ≤ 3 := by
 unfold gh at h
 simp only [Bool.and_eq_true,decide_eq_true_eq] at h
 exact h.2
theorem maySet_1 {a : SetX} (h : gi a = true) : a.e.may = true := by
 unfold gi at h
 simp only [Bool.and_eq_true] at h
 exact h.2
theorem rg {n k : Nat} (h : fL n k = true) : n ≤ k := by
 unfold fL at h
 simp only [Bool.and_eq_true,decide_eq_true_eq] at h
 exact h.2
theorem mayRow_p {l : List Ex} (h : fe l = true) : l.length ≤ 16 ∧ ∀ k,k < l.length → (l.getD k Ex.zero).may = true := by
 unfold fe at h
 simp only [Bool.and_eq_true] at h
 exact ⟨rg h.1,fun k hk => gU h.2 hk⟩
section
variable {s : StmtX}
theorem st_1 (h : s.k = 1) : dK s = cat (raw ([99,114,101,97,116,101,32,116,97,98,108,101,32] ++ (s.t ++ [32,40]))) (cat (ew (fun i => lM (s.cols.getD i ColX.zero)) s.cols.length) (raw [41])) := by unfold dK; rw [if_pos h]
theorem st_2 (h : s.k = 2) : dK s = raw ([100,114,111,112,32,116,97,98,108,101,32] ++ s.t) := by unfold dK; rw [if_neg (by omega),if_pos h]
theorem st_3 (h : s.k = 3) : dK s = cat (raw ([99,114,101,97,116,101,32] ++ ((if s.un = true then [117,110,105,113,117,101,32] else []) ++ ([105,110,100,101,120,32] ++ (s.n ++ ([32,111,110,32] ++ (s.t ++ [32,40]))))))) (cat (ew (fun i => raw (s.on.getD i [])) s.on.length) (raw [41])) := by unfold dK; rw [if_neg (by omega),if_neg (by omega),if_pos h]
theorem st_4 (h : s.k = 4) : dK s = raw ([100,114,111,112,32,105,110,100,101,120,32] ++ s.n) := by unfold dK; rw [if_neg (by omega),if_neg (by omega),if_neg (by omega),if_pos h]
theorem st_5 (h : s.k = 5) : dK s = cat (raw ([105,110,115,101,114,116,32,105,110,116,111,32] ++ (s.t ++ [32,118,97,108,117,101,115,32]))) (ew (fun i => rowT (s.rows.getD i [])) s.rows.length) := by unfold dK; rw [if_neg (by omega),if_neg (by omega),if_neg (by omega),if_neg (by omega),if_pos h]
theorem st_6 (h : s.k = 6) : dK s = cat (raw ([100,101,108,101,116,101,32,102,114,111,109,32] ++ s.t)) (fM s.wh) := by unfold dK; rw [if_neg (by omega),if_neg (by omega),if_neg (by omega),if_neg (by omega),if_neg (by omega),if_pos h]
theorem st_7 (h : s.k = 7) : dK s = cat (raw ([117,112,100,97,116,101,32] ++ (s.t ++ [32,115,101,116,32]))) (cat (ew (fun i => setT (s.sets.getD i SetX.zero)) s.sets.length) (fM s.wh)) := by unfold dK; rw [if_neg (by omega),if_neg (by omega),if_neg (by omega),if_neg (by omega),if_neg (by omega),if_neg (by omega),if_pos h]
theorem st_8 (h : s.k = 8) : dK s = qryT s.q := by unfold dK; rw [if_neg (by omega),if_neg (by omega),if_neg (by omega),if_neg (by omega),if_neg (by omega),if_neg (by omega),if_neg (by omega),if_pos h]
theorem st_9 (h : s.k = 9) : dK s = raw [98,101,103,105,110] := by unfold dK; rw [if_neg (by omega),if_neg (by omega),if_neg (by omega),if_neg (by omega),if_neg (by omega),if_neg (by omega),if_neg (by omega),if_neg (by omega),if_pos h]
theorem st_10 (h : s.k = 10) : dK s = raw [99,111,109,109,105,116] := by unfold dK; rw [if_neg (by omega),if_neg (by omega),if_neg (by omega),if_neg (by omega),if_neg (by omega),if_neg (by omega),if_neg (by omega),if_neg (by omega),if_neg (by omega),if_pos h]
theorem st_11 (h : s.k = 11) : dK s = raw [114,111,108,108,98,97,99,107] := by unfold dK; rw [if_neg (by omega),if_neg (by omega),if_neg (by omega),if_neg (by omega),if_neg (by omega),if_neg (by omega),if_neg (by omega),if_neg (by omega),if_neg (by omega),if_neg (by omega),if_pos h]
theorem part_1 (h : s.k = 1) : dv s = (nameOk s.t && (fL s.cols.length 16 && bY (fun i => gh (s.cols.getD i ColX.zero)) s.cols.length)) := by unfold dv; rw [if_pos h]
theorem part_2 (h : s.k = 2) : dv s = nameOk s.t := by unfold dv; rw [if_neg (by omega),if_pos h]
theorem part_3 (h : s.k = 3) : dv s = (nameOk s.t && (nameOk s.n && (fL s.on.length 16 && bY (fun i => nameOk (s.on.getD i [])) s.on.length))) := by unfold dv; rw [if_neg (by omega),if_neg (by omega),if_pos h]
theorem part_4 (h : s.k = 4) : dv s = nameOk s.n := by unfold dv; rw [if_neg (by omega),if_neg (by omega),if_neg (by omega),if_pos h]
theorem part_5 (h : s.k = 5) : dv s = (nameOk s.t && (decide (0 < s.rows.length) && bY (fun i => fe (s.rows.getD i [])) s.rows.length)) := by unfold dv; rw [if_neg (by omega),if_neg (by omega),if_neg (by omega),if_neg (by omega),if_pos h]
theorem p7 (h : s.k = 6) : dv s = (nameOk s.t && gB s.wh) := by unfold dv; rw [if_neg (by omega),if_neg (by omega),if_neg (by omega),if_neg (by omega),if_neg (by omega),if_pos h]
theorem p8 (h : s.k = 7) : dv s = (nameOk s.t && (fL s.sets.length 16 && (gB s.wh && bY (fun i => gi (s.sets.getD i SetX.zero)) s.sets.length))) := by unfold dv; rw [if_neg (by omega),if_neg (by omega),if_neg (by omega),if_neg (by omega),if_neg (by omega),if_neg (by omega),if_pos h]
theorem p9 (h : s.k = 8) : dv s = mayQ s.q := by unfold dv; rw [if_neg (by omega),if_neg (by omega),if_neg (by omega),if_neg (by omega),if_neg (by omega),if_neg (by omega),if_neg (by omega),if_pos h]
theorem nI (h : ¬ (1 ≤ s.k ∧ s.k ≤ 8)) : dv s = decide (9 ≤ s.k ∧ s.k ≤ 11) := by unfold dv; rw [if_neg (by omega),if_neg (by omega),if_neg (by omega),if_neg (by omega),if_neg (by omega),if_neg (by omega),if_neg (by omega),if_neg (by omega)]
end
end Go.WK
namespace Go.WK
open Go.RowKit
abbrev BIG_ : Nat := 70368744177664
structure QBd (q : QryX) : Prop where
 ni : q.items.length ≤ BIG_
 nf : q.from_.length ≤ BIG_
 no : q.ord.length ≤ BIG_
 items : ∀ i,i < q.items.length → (q.items.getD i ItemX.zero).e.size ≤ BIG_ ∧ (q.items.getD i ItemX.zero).s.length ≤ BIG_
 from_ : ∀ i,i < q.from_.length → (q.from_.getD i SrcX.zero).e.size ≤ BIG_ ∧ (q.from_.getD i SrcX.zero).t.length ≤ BIG_ ∧ (q.from_.getD i SrcX.zero).s.length ≤ BIG_
 ord : ∀ i,i < q.ord.length → (q.ord.getD i OrdX.zero).n.length ≤ BIG_
 wh : q.wh.size ≤ BIG_
structure SBd (s : StmtX) : Prop where
 t : s.t.length ≤ BIG_
 n : s.n.length ≤ BIG_
 nc : s.cols.length ≤ BIG_
 nn : s.on.length ≤ BIG_
 nr : s.rows.length ≤ BIG_
 ns : s.sets.length ≤ BIG_
 cols : ∀ i,i < s.cols.length → (s.cols.getD i ColX.zero).n.length ≤ BIG_
 on : ∀ i,i < s.on.length → (s.on.getD i []).length ≤ BIG_
 rows : ∀ i,i < s.rows.length → (s.rows.getD i []).length ≤ BIG_ ∧ ∀ j,j < (s.rows.getD i []).length → ((s.rows.getD i []).getD j Ex.zero).size ≤ BIG_
 sets : ∀ i,i < s.sets.length → (s.sets.getD i SetX.zero).e.size ≤ BIG_ ∧ (s.sets.getD i SetX.zero).n.length ≤ BIG_
 wh : s.wh.size ≤ BIG_
 q : QBd s.q
def mqA (q : QryX) : Bool := (((gB q.wh && decide ((q.from_.length : Int) ≤ 4)) && decide ((q.ord.length : Int) ≤ 16)) && decide (0 ≤ q.lim)) && (q.li || decide (q.lim = 0))
def mqB (q : QryX) : Bool := if q.st = true then decide ((q.items.length : Int) = 0) else fL q.items.length 16
theorem mayQ_eq (q : QryX) : ((((mqA q && mqB q) && bY (fun i => jE (q.items.getD i ItemX.zero)) q.items.length) && bY (fun i => lK i (q.from_.getD i SrcX.zero)) q.from_.length) && bY (fun i => nameOk (q.ord.getD i OrdX.zero).n) q.ord.length) = mayQ q := by
 unfold mayQ mqA mqB
 have e1 : decide ((q.from_.length : Int) ≤ 4) = decide (q.from_.length ≤ 4) := decide_eq_decide.2 (by omega)
 have e2 : decide ((q.ord.length : Int) ≤ 16) = decide (q.ord.length ≤ 16) := decide_eq_decide.2 (by omega)
 have e3 : decide ((q.items.length : Int) = 0) = decide (q.items.length = 0) := decide_eq_decide.2 (by omega)
 rw [e1,e2,e3]
 simp only [Bool.and_assoc]
theorem sv (b : Bool) (g : Nat → ItemX) (i : Nat) : (((b && bY (fun i => jE (g i)) i) && (g i).e.may) && (decide ((g i).s = []) || nameOk (g i).s)) = (b && bY (fun i => jE (g i)) (i + 1)) := by
 simp only [bY,jE,Bool.and_assoc]
theorem sw (b : Bool) (g : Nat → SrcX) (i : Nat) : ((((b && bY (fun i => lK i (g i)) i) && nameOk (g i).t) && (decide ((g i).s = []) || nameOk (g i).s)) && ((decide ((i : Int) = 0) && fk (g i).e) || (decide (0 < (i : Int)) && (g i).e.may))) = (b && bY (fun i => lK i (g i)) (i + 1)) := by
 simp only [bY,lK,Bool.and_assoc]
 by_cases h : i = 0
 · subst h
   rw [if_pos rfl,decide_eq_true (show ((0 : Nat) : Int) = 0 by rfl),decide_eq_false (show ¬ 0 < ((0 : Nat) : Int) by decide)]; simp
 · rw [if_neg h,decide_eq_false (show ¬ (i : Int) = 0 by omega),decide_eq_true (show 0 < (i : Int) by omega)]; simp
theorem mP (b : Bool) (g : Nat → List UInt8) (i : Nat) : ((b && bY (fun i => nameOk (g i)) i) && nameOk (g i)) = (b && bY (fun i => nameOk (g i)) (i + 1)) := by
 simp only [bY,Bool.and_assoc]
theorem col_step (b : Bool) (g : Nat → ColX) (i : Nat) : ((((b && bY (fun i => gh (g i)) i) && nameOk (g i).n) && decide (1 ≤ (g i).k)) && decide ((g i).k ≤ 3)) = (b && bY (fun i => gh (g i)) (i + 1)) := by
 simp only [bY,gh,Bool.and_assoc]
theorem set_step (b : Bool) (g : Nat → SetX) (i : Nat) : (((b && bY (fun i => gi (g i)) i) && nameOk (g i).n) && (g i).e.may) = (b && bY (fun i => gi (g i)) (i + 1)) := by
 simp only [bY,gi,Bool.and_assoc]
theorem ex_step (b : Bool) (g : Nat → Ex) (i : Nat) : ((b && bY (fun i => (g i).may) i) && (g i).may) = (b && bY (fun i => (g i).may) (i + 1)) := by
 simp only [bY,Bool.and_assoc]
theorem row_step (b : Bool) (g : Nat → List Ex) (i : Nat) : (((b && bY (fun i => fe (g i)) i) && fL (g i).length 16) && bY (fun k => ((g i).getD k Ex.zero).may) (g i).length) = (b && bY (fun i => fe (g i)) (i + 1)) := by
 simp only [bY,fe,Bool.and_assoc]
def restB (s t : StmtX) : Bool :=
 (((((((((((((((decide (s.t = t.t) && decide (s.n = t.n)) && decide ((s.cols.length : Int) = t.cols.length)) && decide ((s.on.length : Int) = t.on.length)) && (s.un == t.un)) && decide ((s.rows.length : Int) = t.rows.length)) && decide ((s.sets.length : Int) = t.sets.length)) && (decide (s.wh.o = t.wh.o) && (decide (t.wh.o ≠ 0) || fk s.wh))) && (s.q.di == t.q.di)) && (s.q.st == t.q.st)) && decide ((s.q.items.length : Int) = t.q.items.length)) && decide ((s.q.from_.length : Int) = t.q.from_.length)) && (decide (s.q.wh.o = t.q.wh.o) && (decide (t.q.wh.o ≠ 0) || fk s.q.wh))) && decide ((s.q.ord.length : Int) = t.q.ord.length)) && (s.q.li == t.q.li)) && decide (s.q.lim = t.q.lim))
theorem lackB (e : Ex) : fk e = decide (e = Ex.zero) := by
 rw [Bool.eq_iff_iff,kd,decide_eq_true_eq]
section
variable {s : StmtX}
theorem keep_1 (h : s.k = 1) : dS s = { StmtX.zero with k := 1,t := s.t,cols := s.cols } := by unfold dS; rw [if_pos h]
theorem keep_2 (h : s.k = 2) : dS s = { StmtX.zero with k := 2,t := s.t } := by unfold dS; rw [if_neg (by omega),if_pos h]
theorem keep_3 (h : s.k = 3) : dS s = { StmtX.zero with k := 3,t := s.t,n := s.n,on := s.on,un := s.un } := by unfold dS; rw [if_neg (by omega),if_neg (by omega),if_pos h]
theorem keep_4 (h : s.k = 4) : dS s = { StmtX.zero with k := 4,n := s.n } := by unfold dS; rw [if_neg (by omega),if_neg (by omega),if_neg (by omega),if_pos h]
theorem keep_5 (h : s.k = 5) : dS s = { StmtX.zero with k := 5,t := s.t,rows := s.rows } := by unfold dS; rw [if_neg (by omega),if_neg (by omega),if_neg (by omega),if_neg (by omega),if_pos h]
theorem keep_6 (h : s.k = 6) : dS s = { StmtX.zero with k := 6,t := s.t,wh := s.wh } := by unfold dS; rw [if_neg (by omega),if_neg (by omega),if_neg (by omega),if_neg (by omega),if_neg (by omega),if_pos h]
theorem keep_7 (h : s.k = 7) : dS s = { StmtX.zero with k := 7,t := s.t,sets := s.sets,wh := s.wh } := by unfold dS; rw [if_neg (by omega),if_neg (by omega),if_neg (by omega),if_neg (by omega),if_neg (by omega),if_neg (by omega),if_pos h]
theorem keep_8 (h : s.k = 8) : dS s = { StmtX.zero with k := 8,q := s.q } := by unfold dS; rw [if_neg (by omega),if_neg (by omega),if_neg (by omega),if_neg (by omega),if_neg (by omega),if_neg (by omega),if_neg (by omega),if_pos h]
theorem qg (h : ¬ (1 ≤ s.k ∧ s.k ≤ 8)) : dS s = { StmtX.zero with k := s.k } := by unfold dS; rw [if_neg (by omega),if_neg (by omega),if_neg (by omega),if_neg (by omega),if_neg (by omega),if_neg (by omega),if_neg (by omega),if_neg (by omega)]
end
theorem len0 {α : Type} (l : List α) : ((l.length : Int) = (([] : List α).length : Int)) ↔ l = [] := by
 rw [← List.length_eq_zero_iff]; simp
theorem rh (e : Ex) : (decide (e.o = Ex.zero.o) && (decide (Ex.zero.o ≠ 0) || fk e)) = true ↔ e = Ex.zero := by
 have h0 : Ex.zero.o = 0 := rfl
 rw [h0,lackB]
 simp only [ne_eq,not_true_eq_false,decide_false,Bool.false_or,Bool.and_eq_true,decide_eq_true_eq]
 exact ⟨fun h => h.2,fun h => ⟨by rw [h]; rfl,h⟩⟩
theorem ri {e : Ex} (h : gB e = true) : (decide (e.o = e.o) && (decide (e.o ≠ 0) || fk e)) = true := by
 rw [decide_eq_true rfl,Bool.true_and]
 by_cases h0 : e.o = 0
 · rw [su h h0]; rfl
 · rw [decide_eq_true h0]; rfl
theorem mayQ_wh {q : QryX} (h : mayQ q = true) : gB q.wh = true := by
 unfold mayQ at h
 simp only [Bool.and_eq_true] at h
 exact h.1.1
theorem ez {s t : StmtX} (hk : s.k = t.k) (hc : s.cols = t.cols ∨ t.cols = []) (hn : s.on = t.on ∨ t.on = []) (hr : s.rows = t.rows ∨ t.rows = []) (hs : s.sets = t.sets ∨ t.sets = []) (hw : (t.wh = s.wh ∧ gB s.wh = true) ∨ t.wh = Ex.zero)
  (hq : (t.q = s.q ∧ gB s.q.wh = true) ∨ t.q = QryX.zero) : restB s t = decide (s = t) := by
 have L : ∀ {α : Type} (a b : List α),(a = b ∨ b = []) → (((a.length : Int) = (b.length : Int)) ↔ a = b) := fun a b h => by
  rcases h with h | h
  · subst h; simp
  · subst h; exact len0 a
 have hW : (decide (s.wh.o = t.wh.o) && (decide (t.wh.o ≠ 0) || fk s.wh)) = true ↔ s.wh = t.wh := by
  rcases hw with ⟨h1,h2⟩ | h1
  · rw [h1]; exact iff_of_true (ri h2) rfl
  · rw [h1]; exact rh _
 have hV : (decide (s.q.wh.o = t.q.wh.o) && (decide (t.q.wh.o ≠ 0) || fk s.q.wh)) = true ↔ s.q.wh = t.q.wh := by
  rcases hq with ⟨h1,h2⟩ | h1
  · rw [h1]; exact iff_of_true (ri h2) rfl
  · rw [h1]; exact rh _
 have hI : s.q.items = t.q.items ∨ t.q.items = [] := by
  rcases hq with ⟨h1,_⟩ | h1
  · exact .inl (by rw [h1])
  · exact .inr (by rw [h1]; rfl)
 have hF : s.q.from_ = t.q.from_ ∨ t.q.from_ = [] := by
  rcases hq with ⟨h1,_⟩ | h1
  · exact .inl (by rw [h1])
  · exact .inr (by rw [h1]; rfl)
 have hO : s.q.ord = t.q.ord ∨ t.q.ord = [] := by
  rcases hq with ⟨h1,_⟩ | h1
  · exact .inl (by rw [h1])
  · exact .inr (by rw [h1]; rfl)
 rw [Bool.eq_iff_iff,decide_eq_true_eq]
 unfold restB
 obtain ⟨bW,hbW⟩ : ∃ b,b = (decide (s.wh.o = t.wh.o) && (decide (t.wh.o ≠ 0) || fk s.wh)) := ⟨_,rfl⟩
 obtain ⟨bV,hbV⟩ : ∃ b,b = (decide (s.q.wh.o = t.q.wh.o) && (decide (t.q.wh.o ≠ 0) || fk s.q.wh)) := ⟨_,rfl⟩
 rw [← hbW] at hW ⊢
 rw [← hbV] at hV ⊢
 simp only [Bool.and_eq_true,decide_eq_true_eq,beq_iff_eq,hW,hV,L _ _ hc,L _ _ hn,L _ _ hr,L _ _ hs,L _ _ hI,L _ _ hF,L _ _ hO]
 obtain ⟨k1,t1,n1,c1,o1,u1,r1,s1,w1,⟨d1,st1,i1,f1,v1,or1,l1,m1⟩⟩ := s
 obtain ⟨k2,t2,n2,c2,o2,u2,r2,s2,w2,⟨d2,st2,i2,f2,v2,or2,l2,m2⟩⟩ := t
 simp only at hk
 simp only [StmtX.mk.injEq,QryX.mk.injEq]
 constructor
 · rintro ⟨⟨⟨⟨⟨⟨⟨⟨⟨⟨⟨⟨⟨⟨⟨a1,a2⟩,a3⟩,a4⟩,a5⟩,a6⟩,a7⟩,a8⟩,a9⟩,b1⟩,b2⟩,b3⟩,b4⟩,b5⟩,b6⟩,b7⟩
   exact ⟨hk,a1,a2,a3,a4,a5,a6,a7,a8,a9,b1,b2,b3,b4,b5,b6,b7⟩
 · rintro ⟨_,a1,a2,a3,a4,a5,a6,a7,a8,a9,b1,b2,b3,b4,b5,b6,b7⟩
   exact ⟨⟨⟨⟨⟨⟨⟨⟨⟨⟨⟨⟨⟨⟨⟨a1,a2⟩,a3⟩,a4⟩,a5⟩,a6⟩,a7⟩,a8⟩,a9⟩,b1⟩,b2⟩,b3⟩,b4⟩,b5⟩,b6⟩,b7⟩
theorem rest_may (s : StmtX) : (dv s && restB s (dS s)) = lL s := by
 unfold lL
 cases hp : dv s with
 | false => rfl
 | true =>
  rw [Bool.true_and,Bool.true_and]
  have hcs : s.k = 1 ∨ s.k = 2 ∨ s.k = 3 ∨ s.k = 4 ∨ s.k = 5 ∨ s.k = 6 ∨ s.k = 7 ∨ s.k = 8 ∨ ¬ (1 ≤ s.k ∧ s.k ≤ 8) := by omega
  rcases hcs with h | h | h | h | h | h | h | h | h
  · rw [keep_1 h]; exact ez h (.inl rfl) (.inr rfl) (.inr rfl) (.inr rfl) (.inr rfl) (.inr rfl)
  · rw [keep_2 h]; exact ez h (.inr rfl) (.inr rfl) (.inr rfl) (.inr rfl) (.inr rfl) (.inr rfl)
  · rw [keep_3 h]; exact ez h (.inr rfl) (.inl rfl) (.inr rfl) (.inr rfl) (.inr rfl) (.inr rfl)
  · rw [keep_4 h]; exact ez h (.inr rfl) (.inr rfl) (.inr rfl) (.inr rfl) (.inr rfl) (.inr rfl)
  · rw [keep_5 h]; exact ez h (.inr rfl) (.inr rfl) (.inl rfl) (.inr rfl) (.inr rfl) (.inr rfl)
  · rw [p7 h,Bool.and_eq_true] at hp
    rw [keep_6 h]; exact ez h (.inr rfl) (.inr rfl) (.inr rfl) (.inr rfl) (.inl ⟨rfl,hp.2⟩) (.inr rfl)
  · rw [p8 h] at hp
    simp only [Bool.and_eq_true] at hp
    rw [keep_7 h]; exact ez h (.inr rfl) (.inr rfl) (.inr rfl) (.inl rfl) (.inl ⟨rfl,hp.2.2.1⟩) (.inr rfl)
  · rw [p9 h] at hp
    rw [keep_8 h]; exact ez h (.inr rfl) (.inr rfl) (.inr rfl) (.inr rfl) (.inr rfl) (.inl ⟨rfl,mayQ_wh hp⟩)
  · rw [qg h]; exact ez rfl (.inr rfl) (.inr rfl) (.inr rfl) (.inr rfl) (.inr rfl) (.inr rfl)
end Go.WK
namespace Go.WK
open Go.RowKit
inductive OT
 | nil
 | fix (i : Nat) (t : OT)
 | op (i : Nat) (t : OT)
 | two (i j : Nat) (s t : OT)
def OT.len : OT → Nat
 | .nil => 0
 | .fix _ t => t.len + 1
 | .op _ t => t.len + 1
 | .two _ _ s _ => s.len + 1
def dT (md : Region.Mode) (ops : Array Oper) : OT → Array Bool → Bool
 | .nil,listed => (Region.ready md ops listed).isEmpty
 | .fix i t,listed => (Region.ready md ops listed).contains i && (Region.free md ops listed i && dT md ops t (listed.setIfInBounds i true))
 | .op i t,listed => Region.ready md ops listed == [i] && dT md ops t (listed.setIfInBounds i true)
 | .two i j s t,listed => Region.ready md ops listed == [i,j] && (s.len == t.len && (dT md ops s (listed.setIfInBounds i true) && dT md ops t (listed.setIfInBounds j true)))
def mixBT (md : Region.Mode) (ops : Array Oper) (t : OT) : Bool := Region.noSelect ops && ((t.len == ops.size) && dT md ops t (Array.replicate ops.size false))
def iy (P : Program) (ops : Array Oper) (C : World → Prop) (Q : Act → World → Prop) : OT → Act → World → Prop
 | .nil,a,w => Q a w
 | .fix i t,a,w => ∃ o v,ops[i]? = some o ∧ YieldsF P ops C o v a ∧ ∀ w',Chg [] w w' → iy P ops C Q t (a.put o.dst v) w'
 | .op i t,a,w => wpOp P ops gc i (fun a' w' => C w' ∧ ∀ w'',Chg [] w' w'' → iy P ops C Q t a' w'') a w
 | .two i j s t,a,w => wpOp P ops gc i (fun a' w' => C w' ∧ ∀ w'',Chg [] w' w'' → iy P ops C Q s a' w'') a w ∧ wpOp P ops gc j (fun a' w' => C w' ∧ ∀ w'',Chg [] w' w'' → iy P ops C Q t a' w'') a w
section
variable {P : Program} {ops : Array Oper} {md : Region.Mode} {C : World → Prop}
theorem dB {Q : Act → World → Prop} (hs : Region.noSelect ops = true) (hext : ∀ w w',C w → Chg [] w w' → C w') : ∀ (t : OT) (listed : Array Bool) (a : Act) (w : World),
  dT md ops t listed = true → Shut md ops listed → C w → iy P ops C Q t a w → dI P md ops C (fun _ => true) Q t.len listed a w
 | .nil,_,_,_,hB,_,_,h => ⟨by simpa [dT] using hB,h⟩
 | .fix i t,listed,a,w,hB,hcl,hC,h => by
  obtain ⟨o,v,hi,hy,hk⟩ := h
  simp only [dT,Bool.and_eq_true] at hB
  obtain ⟨hr,hf,hB'⟩ := hB
  exact fv hi (Region.noSelect_spec hs) hext (fun lst j hs' hi' hji hj => rfl) t.len listed a w hcl (Region.free_spec hi hf) (by simpa using hr) hy hC
   (fun w' hw' => dB hs hext t _ _ w' hB' (hcl.set (by simpa using hr)) (hext _ _ hC hw') (hk w' hw'))
 | .op i t,listed,a,w,hB,hcl,hC,h => by
  simp only [dT,Bool.and_eq_true,beq_iff_eq] at hB
  obtain ⟨hr,hB'⟩ := hB
  show dI P md ops C _ Q (t.len + 1) listed a w
  refine ⟨fun h0 => (by rw [hr] at h0; cases h0),fun j hj => ?_⟩
  rw [hr] at hj
  obtain rfl : j = i := by simpa using hj
  exact wpOp_mono (fun a' w' h' => ⟨fun _ => h'.1,fun w'' hw'' => dB hs hext t _ a' w'' hB' (hcl.set (by rw [hr]; exact List.mem_cons_self)) (hext _ _ h'.1 (cW hw'')) (h'.2 w'' (cW hw''))⟩) h
 | .two i k s t,listed,a,w,hB,hcl,hC,h => by
  simp only [dT,Bool.and_eq_true,beq_iff_eq] at hB
  obtain ⟨hr,hl,hB1,hB2⟩ := hB
  show dI P md ops C _ Q (s.len + 1) listed a w
  refine ⟨fun h0 => (by rw [hr] at h0; cases h0),fun j hj => ?_⟩
  have hj0 := hj
  rw [hr] at hj
  rcases (by simpa using hj : j = i ∨ j = k) with rfl | rfl
  · exact wpOp_mono (fun a' w' h' => ⟨fun _ => h'.1,fun w'' hw'' => dB hs hext s _ a' w'' hB1 (hcl.set hj0) (hext _ _ h'.1 (cW hw'')) (h'.2 w'' (cW hw''))⟩) h.1
  · rw [hl]
    exact wpOp_mono (fun a' w' h' => ⟨fun _ => h'.1,fun w'' hw'' => dB hs hext t _ a' w'' hB2 (hcl.set hj0) (hext _ _ h'.1 (cW hw'')) (h'.2 w'' (cW hw''))⟩) h.2
end
section
variable {cx : Cx} {fs : aR} {H C : List Chunk} {Q : bT} {ops : Array Oper}
def lO (cx : Cx) (C : List Chunk) (ops : Array Oper) (fs : aR) (H : List Chunk) (t : OT) (Q : bT) : Prop :=
 ∀ a w,Has cx.n cx.ds fs a → Sat cx H w → iy cx.P ops (Sat cx C) (fun a w => gG cx Q .normal a w) t a w
theorem tri_mixT {id : Nat} {l : List Oper} (C : List Chunk) (t : OT) (hm : cx.P.follows .mixedOrders = true) (hB : mixBT .any l.toArray t = true) (hC : ∀ w,Sat cx H w → Sat cx C w)
  (h : lO cx C l.toArray fs H t Q) : Tri cx fs H (.region id l.toArray true) Q := fun a w ha hw => by
 simp only [mixBT,Bool.and_eq_true,beq_iff_eq] at hB
 have h1 := dB hB.1 (fun w w' h k => h.ext k) t _ a _ hB.2.2 (fun j oj _ hj => by rw [fC] at hj; cases hj) (hC _ hw.drew) (h a _ ha hw.drew)
 rw [hB.2.1] at h1
 exact wp_region_any hm (dF _ _ _ _ h1)
theorem oS (h : Q .normal fs H) : lO cx C ops fs H .nil Q := fun _ _ ha hw => ⟨fs,H,ha,hw,h⟩
theorem jJ {i : Nat} {o : Oper} {t : OT} (hi : ops[i]? = some o) (h : TriX true cx ops fs C [o] (fun e fs' _ => e = .normal ∧ lO cx C ops fs' H t Q)) : lO cx C ops fs H (.fix i t) Q := fun a w ha hw => by
 have h1 := h a ha
 unfold ee at h1
 by_cases hw' : Region.wanted o (yielded ops a.tmps) = true
 · rw [if_pos hw'] at h1
   obtain ⟨v,h2,fs',h3,_,h4⟩ := h1
   exact ⟨o,v,hi,.inl ⟨hw',h2⟩,fun w' hc => h4 _ w' h3 (hw.ext hc)⟩
 · rw [if_neg hw'] at h1
   obtain ⟨fs',h3,_,h4⟩ := h1
   exact ⟨o,undef,hi,.inr ⟨by simpa using hw',rfl⟩,fun w' hc => h4 _ w' h3 (hw.ext hc)⟩
theorem lP {i : Nat} {o : Oper} {t : OT} (hi : ops[i]? = some o) (h : TriX false cx ops fs H [o] (fun e fs' H' => e = .normal ∧ (∀ w,Sat cx H' w → Sat cx C w) ∧ lO cx C ops fs' H' t Q)) (a : Act) (w : World) (ha : Has cx.n cx.ds fs a) (hw : Sat cx H w) :
  wpOp cx.P ops gc i (fun a' w' => Sat cx C w' ∧ ∀ w'',Chg [] w' w'' → iy cx.P ops (Sat cx C) (fun a w => gG cx Q .normal a w) t a' w'') a w := by
 have h1 := h a w ha hw
 unfold wpList at h1
 unfold wpOp
 simp only [hi]
 have key : ∀ a' w',wpList cx.P ops (gG cx (fun e fs' H' => e = .normal ∧ (∀ w,Sat cx H' w → Sat cx C w) ∧ lO cx C ops fs' H' t Q)) [] a' w' →
   Sat cx C w' ∧ ∀ w'',Chg [] w' w'' → iy cx.P ops (Sat cx C) (fun a w => gG cx Q .normal a w) t a' w'' := by
  rintro a' w' ⟨fs',H',h2,h3,_,h4,h5⟩
  exact ⟨h4 _ h3,fun w'' hc => h5 _ _ h2 (h3.ext hc)⟩
 split
 · rename_i hw'
   rw [if_pos hw'] at h1
   rcases h1 with h1 | ⟨_,a',w',fs',H',_,_,h2,_⟩
   · exact .inl (ef key (fun _ _ _ ⟨_,_,_,_,h,_⟩ => by cases h) (fun _ _ ⟨_,_,_,_,h,_⟩ => by cases h) _ h1)
   · cases h2
 · rename_i hw'
   rw [if_neg hw'] at h1
   exact key _ _ h1
theorem iQ {i : Nat} {o : Oper} {t : OT} (hi : ops[i]? = some o) (h : TriX false cx ops fs H [o] (fun e fs' H' => e = .normal ∧ (∀ w,Sat cx H' w → Sat cx C w) ∧ lO cx C ops fs' H' t Q)) : lO cx C ops fs H (.op i t) Q := fun a w ha hw => lP hi h a w ha hw
theorem mixT_two {i j : Nat} {o p : Oper} {s t : OT} (hi : ops[i]? = some o) (hj : ops[j]? = some p) (h : TriX false cx ops fs H [o] (fun e fs' H' => e = .normal ∧ (∀ w,Sat cx H' w → Sat cx C w) ∧ lO cx C ops fs' H' s Q))
  (k : TriX false cx ops fs H [p] (fun e fs' H' => e = .normal ∧ (∀ w,Sat cx H' w → Sat cx C w) ∧ lO cx C ops fs' H' t Q)) : lO cx C ops fs H (.two i j s t) Q := fun a w ha hw => ⟨lP hi h a w ha hw,lP hj k a w ha hw⟩
end
end Go.WK
namespace Go.WK
open Go.RowKit
section ops
variable {cx : Cx} {fs : aR} {H : List Chunk} {Q : bT} {ops : Array Oper} {rest : List Oper} {g : Option (Nat × Bool)} {d : Nat} {ty : TypeId} {pos : String} {af : Array Edge}
theorem cE {x y : Operand} {t bt b o i z : Nat} {cs vs : List Value} {v : Value} (cs' : List Value) (hz : szB cx.P t = some z) (hn : Nth H i (box b bt cs)) (hok : okW ops fs g = true) (hx : ev fs x = some (.pointer (some ⟨b,o,none⟩))) (hy : ev fs y = some v)
  (hv : v.cells = vs.toArray) (hl : vs.length = z) (hfit : o + z ≤ cs.length) (h1 : allOne vs = true) (he : setL cs o vs = cs') (k : TriX false cx ops fs (ga H i (box b bt cs')) rest Q) : TriX false cx ops fs H (⟨none,.store t x y,ty,pos,af,g⟩ :: rest) Q :=
 aI hz hn hok hx hy hv hl hfit h1 (by rw [he]; exact k)
end ops
end Go.WK
namespace Go.WK
open Go.RowKit
theorem exC_R {w : World} {e : Ex} {cs : List Value} (h : ExC w e cs) : ∃ y xs,cs = bH e y ∧ e.as.length ≤ y.k ∧ Rd w y.A xs ∧ ExsC w e.as xs := by
 obtain ⟨o,v,t,n,c,as⟩ := e
 obtain ⟨A,k,xs,h1,h2,h3,h4⟩ := h
 exact ⟨⟨A,k⟩,xs,h1,h2,h3,h4⟩
theorem eA {α : Type} {a b : List α} (z : α) (h : a.length = b.length) (hs : ∀ j,j < a.length → a.getD j z = b.getD j z) : a = b := by
 apply List.ext_getElem h
 intro i h1 h2
 have := hs i h1
 simpa [List.getD,h1,h2] using this
theorem ex_eq {a b : Ex} (h : ((((((decide (a.o ≠ b.o) || !decide (a.v = b.v)) || decide (a.t ≠ b.t)) || decide (a.n ≠ b.n)) || decide (a.c ≠ b.c)) || decide ((a.as.length : Int) ≠ b.as.length))) = false) (hs : ∀ j,j < a.as.length → a.as.getD j Ex.zero = b.as.getD j Ex.zero) : a = b := by
 simp only [Bool.or_eq_false_iff,Bool.not_eq_false',decide_eq_true_eq,decide_eq_false_iff_not,Decidable.not_not] at h
 obtain ⟨⟨⟨⟨⟨h1,h2⟩,h3⟩,h4⟩,h5⟩,h6⟩ := h
 rw [Ex.eta a,Ex.eta b,h1,h2,h3,h4,h5,eA Ex.zero (by omega) hs]
theorem ex_len {a b : Ex} (h : ((((((decide (a.o ≠ b.o) || !decide (a.v = b.v)) || decide (a.t ≠ b.t)) || decide (a.n ≠ b.n)) || decide (a.c ≠ b.c)) || decide ((a.as.length : Int) ≠ b.as.length))) = false) : a.as.length = b.as.length := by
 simp only [Bool.or_eq_false_iff,decide_eq_false_iff_not,Decidable.not_not] at h
 omega
theorem ex_ne {a b : Ex} (h : ((((((decide (a.o ≠ b.o) || !decide (a.v = b.v)) || decide (a.t ≠ b.t)) || decide (a.n ≠ b.n)) || decide (a.c ≠ b.c)) || decide ((a.as.length : Int) ≠ b.as.length))) = true) : a ≠ b := fun e => by
 subst e
 simp at h
theorem rj {e : Ex} {i : Nat} (hi : i < e.as.length) : (e.as.getD i Ex.zero).size < e.size := by
 obtain ⟨o,v,t,n,c,as⟩ := e
 exact Ex.size_at hi
theorem as_len {e : Ex} : e.as.length < e.size := by
 obtain ⟨o,v,t,n,c,as⟩ := e
 have := Exs.len_size as
 simp only [Ex.size,Ex.as]; omega
end Go.WK
namespace Go.WK
open Go.RowKit
theorem col_same (a b : ColX) : eU a.cs b.cs = decide (a = b) := by
 have h1 : eU a.cs b.cs = (a.n == b.n && (a.k == b.k && (a.b == b.b && true))) := by simp [ColX.cs,eU,mw]
 rw [h1,Bool.eq_iff_iff]
 obtain ⟨n,k,b1⟩ := a
 obtain ⟨n',k',b2⟩ := b
 simp
theorem ord_same (a b : OrdX) : eU a.cs b.cs = decide (a = b) := by
 have h1 : eU a.cs b.cs = (a.n == b.n && (a.b == b.b && true)) := by simp [OrdX.cs,eU,mw]
 rw [h1,Bool.eq_iff_iff]
 obtain ⟨n,b1⟩ := a
 obtain ⟨n',b2⟩ := b
 simp
def colKs : List SK := [.str,.int .i64,.bool]
def ordKs : List SK := [.str,.bool]
theorem oT (a : ColX) : er colKs a.cs = true := by simp [colKs,ColX.cs,er,SK.fits]
theorem oU (a : OrdX) : er ordKs a.cs = true := by simp [ordKs,OrdX.cs,er,SK.fits]
section ops
variable {m : Bool} {cx : Cx} {fs : aR} {H : List Chunk} {Q : bT} {ops : Array Oper} {rest : List Oper} {g : Option (Nat × Bool)} {d : Nat} {ty : TypeId} {pos : String} {af : Array Edge}
theorem o_neqCol {x y : Operand} {t yt : TypeId} {a b : ColX} (hf : fU cx.P t = some colKs) (hok : okS cx.n ops fs d g = true) (hx : ev fs x = some (.agg a.cs.toArray)) (hy : ev fs y = some (.agg b.cs.toArray)) (k : TriX m cx ops ((d,.bool (!decide (a = b))) :: fs) H rest Q) :
  TriX m cx ops fs H (⟨some d,.binOp .neq t x y yt,ty,pos,af,g⟩ :: rest) Q := pq hf hok hx hy (oT a) (oT b) (by rw [col_same]; exact k)
theorem o_neqOrd {x y : Operand} {t yt : TypeId} {a b : OrdX} (hf : fU cx.P t = some ordKs) (hok : okS cx.n ops fs d g = true) (hx : ev fs x = some (.agg a.cs.toArray)) (hy : ev fs y = some (.agg b.cs.toArray)) (k : TriX m cx ops ((d,.bool (!decide (a = b))) :: fs) H rest Q) :
  TriX m cx ops fs H (⟨some d,.binOp .neq t x y yt,ty,pos,af,g⟩ :: rest) Q := pq hf hok hx hy (oU a) (oU b) (by rw [ord_same]; exact k)
end ops
section ops
variable {m : Bool} {cx : Cx} {fs : aR} {H : List Chunk} {Q : bT} {ops : Array Oper} {rest : List Oper} {g : Option (Nat × Bool)} {ty : TypeId} {pos : String} {af : Array Edge}
theorem bB {d : Nat} {op : Op} (hw : fx ops fs g = some false) (hd : Nat.blt d cx.n = true) (k : TriX m cx ops ((d,undef) :: fs) H rest Q) : TriX m cx ops fs H (⟨some d,op,ty,pos,af,g⟩ :: rest) Q := by
 cases m with
 | false =>
  intro a w ha hs
  unfold wpList
  rw [if_neg (by rw [cA ha hw _ rfl]; simp)]
  exact k _ _ (ha.put hd undef) hs
 | true =>
  intro a ha
  unfold ee
  rw [if_neg (by rw [cA ha hw _ rfl]; simp)]
  exact k _ (ha.put hd undef)
end ops
theorem upd {α : Type} {f g : Nat → α} {i : Nat} (h : ∀ j,j < i → f j = g j) (h1 : f i = g i) : ∀ j,j < i + 1 → f j = g j := fun j hj => by
 rcases Nat.lt_or_ge j i with h2 | h2
 · exact h j h2
 · have e : j = i := by omega
   rw [e]; exact h1
theorem qh {α : Type} {l m : List α} (h : (l.length : Int) ≠ (m.length : Int)) : l ≠ m := fun e => h (by rw [e])
theorem at_ne {α : Type} {l m : List α} {i : Nat} {z : α} (h : l.getD i z ≠ m.getD i z) : l ≠ m := fun e => h (by rw [e])
theorem rk {a b : ItemX} (h : a.s ≠ b.s ∨ a.e ≠ b.e) : a ≠ b := fun e => by subst e; rcases h with h | h <;> exact h rfl
theorem item_eq {a b : ItemX} (h : a.s = b.s) (h1 : a.e = b.e) : a = b := by cases a; cases b; simp_all
theorem qi {a b : SrcX} (h : a.t ≠ b.t ∨ a.s ≠ b.s ∨ a.e ≠ b.e) : a ≠ b := fun e => by subst e; rcases h with h | h | h <;> exact h rfl
theorem src_eq {a b : SrcX} (h : a.t = b.t) (h1 : a.s = b.s) (h2 : a.e = b.e) : a = b := by cases a; cases b; simp_all
theorem set_ne {a b : SetX} (h : a.n ≠ b.n ∨ a.e ≠ b.e) : a ≠ b := fun e => by subst e; rcases h with h | h <;> exact h rfl
theorem set_eq {a b : SetX} (h : a.n = b.n) (h1 : a.e = b.e) : a = b := by cases a; cases b; simp_all
def sqB (a b : QryX) : Bool := (((((((a.di != b.di) || (a.st != b.st)) || (a.li != b.li)) || decide (a.lim ≠ b.lim)) || decide ((a.items.length : Int) ≠ b.items.length)) || decide ((a.from_.length : Int) ≠ b.from_.length)) || decide ((a.ord.length : Int) ≠ b.ord.length)) || !decide (a.wh = b.wh)
theorem sq_ne {a b : QryX} (h : sqB a b = true) : a ≠ b := fun e => by
 subst e
 simp [sqB] at h
theorem sq_no {a b : QryX} (h : sqB a b = false) : (a.di = b.di ∧ a.st = b.st ∧ a.li = b.li ∧ a.lim = b.lim ∧ a.wh = b.wh) ∧ a.items.length = b.items.length ∧ a.from_.length = b.from_.length ∧ a.ord.length = b.ord.length := by
 unfold sqB at h
 simp only [Bool.or_eq_false_iff,bne_eq_false_iff_eq,decide_eq_false_iff_not,Decidable.not_not,Bool.not_eq_false',decide_eq_true_eq] at h
 obtain ⟨⟨⟨⟨⟨⟨⟨h1,h2⟩,h3⟩,h4⟩,h5⟩,h6⟩,h7⟩,h8⟩ := h
 exact ⟨⟨h1,h2,h3,h4,h8⟩,by omega,by omega,by omega⟩
theorem sq_eq {a b : QryX} (h : sqB a b = false) (h1 : ∀ j,j < a.items.length → a.items.getD j ItemX.zero = b.items.getD j ItemX.zero) (h2 : ∀ j,j < a.from_.length → a.from_.getD j SrcX.zero = b.from_.getD j SrcX.zero) (h3 : ∀ j,j < a.ord.length → a.ord.getD j OrdX.zero = b.ord.getD j OrdX.zero) : a = b := by
 obtain ⟨⟨k1,k2,k3,k4,k5⟩,k6,k7,k8⟩ := sq_no h
 have e1 := eA ItemX.zero k6 h1
 have e2 := eA SrcX.zero k7 h2
 have e3 := eA OrdX.zero k8 h3
 cases a; cases b; simp_all
def ssB (a b : StmtX) : Bool := (((((((((decide (a.k ≠ b.k) || decide (a.t ≠ b.t)) || decide (a.n ≠ b.n)) || (a.un != b.un)) || !decide (a.cols = b.cols)) || !decide (a.on = b.on)) || !decide (a.wh = b.wh)) || !decide (a.q = b.q)) || decide ((a.rows.length : Int) ≠ b.rows.length)) || decide ((a.sets.length : Int) ≠ b.sets.length))
theorem ss_ne {a b : StmtX} (h : ssB a b = true) : a ≠ b := fun e => by
 subst e
 simp [ssB] at h
theorem ss_no {a b : StmtX} (h : ssB a b = false) : (a.k = b.k ∧ a.t = b.t ∧ a.n = b.n ∧ a.un = b.un ∧ a.cols = b.cols ∧ a.on = b.on ∧ a.wh = b.wh ∧ a.q = b.q) ∧ a.rows.length = b.rows.length ∧ a.sets.length = b.sets.length := by
 unfold ssB at h
 simp only [Bool.or_eq_false_iff,bne_eq_false_iff_eq,decide_eq_false_iff_not,Decidable.not_not,Bool.not_eq_false',decide_eq_true_eq] at h
 obtain ⟨⟨⟨⟨⟨⟨⟨⟨⟨h1,h2⟩,h3⟩,h4⟩,h5⟩,h6⟩,h7⟩,h8⟩,h9⟩,h10⟩ := h
 exact ⟨⟨h1,h2,h3,h4,h5,h6,h7,h8⟩,by omega,by omega⟩
theorem ss_eq {a b : StmtX} (h : ssB a b = false) (h1 : ∀ j,j < a.rows.length → a.rows.getD j [] = b.rows.getD j []) (h2 : ∀ j,j < a.sets.length → a.sets.getD j SetX.zero = b.sets.getD j SetX.zero) : a = b := by
 obtain ⟨⟨k1,k2,k3,k4,k5,k6,k7,k8⟩,k9,k10⟩ := ss_no h
 have e1 := eA ([] : List Ex) k9 h1
 have e2 := eA SetX.zero k10 h2
 cases a; cases b; simp_all
theorem rows_ne {s t : StmtX} {i : Nat} (h : s.rows.getD i [] ≠ t.rows.getD i []) : s ≠ t := fun e => h (by rw [e])
theorem rl {s t : StmtX} {i : Nat} (h : s.sets.getD i SetX.zero ≠ t.sets.getD i SetX.zero) : s ≠ t := fun e => h (by rw [e])
theorem oV {s t : QryX} {i : Nat} (h : s.items.getD i ItemX.zero ≠ t.items.getD i ItemX.zero) : s ≠ t := fun e => h (by rw [e])
theorem nJ {s t : QryX} {i : Nat} (h : s.from_.getD i SrcX.zero ≠ t.from_.getD i SrcX.zero) : s ≠ t := fun e => h (by rw [e])
theorem ords_ne {s t : QryX} {i : Nat} (h : s.ord.getD i OrdX.zero ≠ t.ord.getD i OrdX.zero) : s ≠ t := fun e => h (by rw [e])
end Go.WK
namespace Go.WK
open Go.RowKit Lib
def kf (r : PX Ex) (e : Ex) (us : List Tok) (d n : Nat) : Prop := (r = .ok (e,us) ∧ d + n ≤ 24) ∨ ((∃ a,r = .error (191,a)) ∧ 24 < d + n)
theorem oW (k : Int) (s : List UInt8) (ts : List Tok) : atT k s ts = decide (kt (hd ts) = (k,s)) := by
 unfold atT kt
 rw [Bool.eq_iff_iff]; simp
def hM : List Opr → KT → Option Int
 | [],_ => none
 | o :: l,x => if x = (o.k,o.t) then some o.a else hM l x
theorem eB (l : List Opr) (ts : List Tok) : findO l ts = hM l (kt (hd ts)) := by
 induction l with
 | nil => rfl
 | cons o l ih =>
  unfold findO hM
  rw [oW,ih]
  by_cases h : kt (hd ts) = (o.k,o.t)
  · rw [if_pos h,if_pos (decide_eq_true h)]
  · rw [if_neg h,if_neg (by simpa using h)]
def noC (lv : Nat) (x : KT) : Bool := (decide (1 < lv) || decide (hM orO x = none)) && ((decide (2 < lv) || decide (hM andO x = none)) && ((decide (4 < lv) || (decide (hM cmpO x = none) && decide (x ≠ (1,isB)))) && ((decide (5 < lv) || decide (hM sumO x = none)) && ((decide (6 < lv) || decide (hM mulO x = none)) && decide (x ≠ (4,[46]))))))
structure NoC (lv : Nat) (us : List Tok) : Prop where
 o1 : lv ≤ 1 → findO orO us = none
 o2 : lv ≤ 2 → findO andO us = none
 o4 : lv ≤ 4 → findO cmpO us = none ∧ atT 1 isB us = false
 o5 : lv ≤ 5 → findO sumO us = none
 o6 : lv ≤ 6 → findO mulO us = none
 dot : atT 4 [46] us = false
theorem NoC.of {lv : Nat} {us : List Tok} {x : KT} (hx : kt (hd us) = x) (h : noC lv x = true) : NoC lv us := by
 subst hx
 unfold noC at h
 simp only [Bool.and_eq_true,Bool.or_eq_true,decide_eq_true_eq] at h
 obtain ⟨h1,h2,h4,h5,h6,h7⟩ := h
 refine ⟨fun h => ?_,fun h => ?_,fun h => ⟨?_, ?_⟩,fun h => ?_,fun h => ?_, ?_⟩
 · rw [eB]; exact h1.resolve_left (by omega)
 · rw [eB]; exact h2.resolve_left (by omega)
 · rw [eB]; exact (h4.resolve_left (by omega)).1
 · rw [oW]; exact decide_eq_false (h4.resolve_left (by omega)).2
 · rw [eB]; exact h5.resolve_left (by omega)
 · rw [eB]; exact h6.resolve_left (by omega)
 · rw [oW]; exact decide_eq_false h7
theorem NoC.mono {lv lv' : Nat} {us : List Tok} (h : NoC lv us) (hl : lv ≤ lv') : NoC lv' us :=
 ⟨fun k => h.o1 (by omega),fun k => h.o2 (by omega),fun k => h.o4 (by omega),fun k => h.o5 (by omega),fun k => h.o6 (by omega),h.dot⟩
def kg (lv : Nat) : List Opr := if lv = 1 then orO else if lv = 2 then andO else if lv = 5 then sumO else mulO
def fm (lv : Nat) : Prop := lv = 1 ∨ lv = 2 ∨ lv = 5 ∨ lv = 6
theorem rm {lv f d : Nat} {ts : List Tok} (h : fm lv) : exP (f + 1) lv d ts = ge (exP f (lv + 1) d) (kg lv) ts := by
 rcases h with rfl | rfl | rfl | rfl
 · exact exP1 f d ts
 · exact exP2 f d ts
 · exact exP5 f d ts
 · exact exP6 f d ts
theorem oprs_ok {lv : Nat} (h : fm lv) : ∀ o ∈ kg lv,o.k ≠ 5 := by
 rcases h with rfl | rfl | rfl | rfl <;> exact fb _ (by simp [kg])
theorem NoC.row {lv : Nat} {us : List Tok} (h : NoC lv us) (hr : fm lv) : findO (kg lv) us = none := by
 rcases hr with rfl | rfl | rfl | rfl
 · exact h.o1 (by omega)
 · exact h.o2 (by omega)
 · exact h.o5 (by omega)
 · exact h.o6 (by omega)
section
variable {us ts : List Tok} {e : Ex} {d n : Nat}
theorem desc1 {f lv : Nat} (h : fm lv) (hn : findO (kg lv) us = none) (hr : kf (exP f (lv + 1) d ts) e us d n) : kf (exP (f + 1) lv d ts) e us d n := by
 rw [rm h]; unfold ge
 rcases hr with ⟨hr,hd⟩ | ⟨⟨a,hr⟩,hd⟩
 · left; rw [hr]; exact ⟨j0 hn,hd⟩
 · right; rw [hr]; exact ⟨⟨a,rfl⟩,hd⟩
theorem desc {us ts : List Tok} {e : Ex} {d n : Nat} : ∀ (m lv f : Nat),1 ≤ lv → lv + m ≤ 8 → NoC lv us → (lv ≤ 3 → 3 < lv + m → atT 1 fa ts = false) → (lv ≤ 7 → 7 < lv + m → atT 4 [45] ts = false) → kf (exP f (lv + m) d ts) e us d n → kf (exP (f + m) lv d ts) e us d n := by
 intro m
 induction m with
 | zero => intro lv f _ _ _ _ _ h; exact h
 | succ m ih =>
  intro lv f h1 h2 hn h3 h7 h
  have := ih (lv + 1) f (by omega) (by omega) (hn.mono (by omega)) (fun a b => h3 (by omega) (by omega)) (fun a b => h7 (by omega) (by omega)) (by rw [show lv + 1 + m = lv + (m + 1) by omega]; exact h)
  rw [show f + (m + 1) = (f + m) + 1 by omega]
  have hc : fm lv ∨ lv = 3 ∨ lv = 4 ∨ lv = 7 := by unfold fm; omega
  rcases hc with hc | rfl | rfl | rfl
  · exact desc1 hc (hn.row hc) this
  · rw [exP3,if_neg (by rw [h3 (by omega) (by omega)]; decide)]; exact this
  · rw [exP4]
    rcases this with ⟨hr,hd⟩ | ⟨⟨a,hr⟩,hd⟩
    · left; rw [hr]
      refine ⟨?_,hd⟩
      simp only [gz,(hn.o4 (by omega)).1]
      rw [if_neg (by rw [(hn.o4 (by omega)).2]; decide)]
    · right; rw [hr]; exact ⟨⟨a,rfl⟩,hd⟩
  · rw [exP7,if_neg (by rw [h7 (by omega) (by omega)]; decide)]; exact this
end
theorem Good.app {l us : List Tok} (h : Good us) : Good (l ++ us) := by
 induction l with
 | nil => exact h
 | cons t l ih => exact .inr ih
theorem kh {α : Type} {l m : List α} (h : l ≠ []) : (l ++ m).head? = l.head? := by cases l with | nil => exact absurd rfl h | cons x l => rfl
theorem tk_ne : ∀ (m : Nat) (e : Ex),e.size < m → e.may = true → ∀ low : Int,e.tk low ≠ [] ∧ (4 ≤ low → (e.tk low).head? ≠ some (1,fa)) ∧ (8 ≤ low → (e.tk low).head? ≠ some (4,[45])) := by
 intro m
 induction m with
 | zero => intro e h; omega
 | succ m ih =>
  intro e hs hm low
  by_cases hlow : lvl e.o < low
  · rw [kP hlow]
    exact ⟨by simp,fun _ => by simp,fun _ => by simp⟩
  rw [nB hlow]
  have hv := view hm
  cases hv with
  | cst v hv h0 =>
   rw [k_cst]
   refine ⟨by simp,fun _ => ?_,fun _ => ?_⟩ <;> unfold valK <;> (repeat' split) <;> simp [iZ,gf,dl,fa]
  | nam t n hn ht =>
   have key : ∀ s,nameOk s = true → s ≠ fa := fun s h e => by subst e; revert h; decide
   rw [k_nam]
   by_cases h1 : t = []
   · rw [if_pos h1]; exact ⟨by simp,fun _ => by simpa using key n hn,fun _ => by simp⟩
   · rw [if_neg h1]; exact ⟨by simp,fun _ => by simpa using key t (ht.resolve_left h1),fun _ => by simp⟩
  | un o a ho ha =>
   have hsz := iP o a
   have ih := ih a (by omega) ha
   have hlow : ¬ lvl o < low := hlow
   have hcs : o = 5 ∨ o = 4 ∨ o = 6 ∨ o = 7 := by omega
   rcases hcs with rfl | rfl | rfl | rfl
   · have : lvl 5 = 3 := by decide
     rw [k_not]; exact ⟨by simp,fun _ => by omega,fun _ => by simp⟩
   · have : lvl 4 = 7 := by decide
     rw [k_neg]; exact ⟨by simp,fun _ => by simp,fun _ => by omega⟩
   · have : lvl 6 = 4 := by decide
     have h5 := ih 5
     rw [k_nul]
     refine ⟨by simp,fun _ => ?_,fun _ => by omega⟩
     rw [kh h5.1]; exact h5.2.1 (by omega)
   · have : lvl 7 = 4 := by decide
     have h5 := ih 5
     rw [nC]
     refine ⟨by simp,fun _ => ?_,fun _ => by omega⟩
     rw [kh h5.1]; exact h5.2.1 (by omega)
  | bin o a b ho ha hb =>
   have hsz := gD o a b
   have ih := ih a (by omega) ha
   have hlow : ¬ lvl o < low := hlow
   have hl := lvl_op ho
   rw [oQ a b o ho.1]
   have h5 := ih (if lvl o = 4 then 5 else lvl o)
   refine ⟨by simp,fun h4 => ?_,fun _ => by omega⟩
   rw [kh h5.1]; exact h5.2.1 (by split <;> omega)
theorem jK {ts us : List Tok} {ks : List KT} (k : Int) (s : List UInt8) (h : ts.map kt = ks) (hne : ks ≠ []) : atT k s (ts ++ us) = decide (ks.head? = some (k,s)) := by
 cases ts with
 | nil => simp at h; exact absurd h hne
 | cons t l => subst h; rw [oW]; simp [hd]
def Pex (e : Ex) : Prop := ∀ (lv d f : Nat) (ts us : List Tok),d ≤ 24 → 1 ≤ lv → lv ≤ 8 → Good us → ts.map kt = e.tk lv → NoC lv us → 8 * (ts ++ us).length + (9 - lv) ≤ f → kf (exP f lv d (ts ++ us)) e us d (e.txt lv).2
def Rex (e : Ex) : Prop := ∀ (lv d f : Nat) (ts us : List Tok),d ≤ 24 → fm lv → Good us → ts.map kt = e.tk lv → NoC (lv + 1) us → 8 * (ts ++ us).length + (8 - lv) ≤ f →
 (ge (exP f (lv + 1) d) (kg lv) (ts ++ us) = hY (exP f (lv + 1) d) (kg lv) us.length e us ∧ d + (e.txt lv).2 ≤ 24) ∨ ((∃ a,ge (exP f (lv + 1) d) (kg lv) (ts ++ us) = .error (191,a)) ∧ 24 < d + (e.txt lv).2)
theorem dec_itoa {n : Int} (h : inR n = true) : hZ (itoa n) = n := by unfold hZ; rw [ln h]
theorem cp (t : Tok) (l : List Tok) : hd (t :: l) = t := rfl
theorem cz {t : Tok} {l : List Tok} {x : KT} (h : kt t = x) (k : Int) (s : List UInt8) : atT k s (t :: l) = decide (x = (k,s)) := by rw [oW,cp,h]
theorem jL {t : Tok} {k : Int} {s : List UInt8} (h : kt t = (k,s)) : t.k = k ∧ t.t = s := by simpa [kt] using h
theorem sx {v : Val} (hv : may v = true) (h0 : v.k = 1 → 0 ≤ v.n) (ho : v.ok) (op : List Tok → PX Ex) (d : Nat) (t : Tok) (us : List Tok) (ht : kt t = valK v) : cO op d (t :: us) = .ok (cst v,us) := by
 unfold valK at ht
 unfold may at hv
 unfold cO
 by_cases h1 : v.k = 1
 · rw [if_pos h1] at ht
   obtain ⟨a1,a2⟩ := jL ht
   simp [h1] at hv
   have hr : inR v.n = true := iM.2 (by unfold Val.ok at ho; omega)
   rw [cp,if_pos a1,a2,dec_itoa hr]
   obtain ⟨k,n,s⟩ := v
   simp only at h1 hv; subst h1; subst hv; rfl
 rw [if_neg h1] at ht
 by_cases h2 : v.k = 2
 · rw [if_pos h2] at ht
   obtain ⟨a1,a2⟩ := jL ht
   simp [h2] at hv
   rw [cp,if_neg (by omega),if_pos a1,a2]
   obtain ⟨k,n,s⟩ := v
   simp only at h2 hv; obtain ⟨hv,_⟩ := hv; subst h2; subst hv; rfl
 rw [if_neg h2] at ht
 by_cases h3 : v.k = 3
 · rw [if_pos h3] at ht
   simp [h3] at hv
   obtain ⟨hs,hn⟩ := hv
   obtain ⟨k,n,s⟩ := v
   simp only at h3 hs hn ht; subst h3; subst hs
   rcases hn with rfl | rfl
   · rw [if_neg (by decide)] at ht
     have a1 := (jL ht).1
     rw [cp,if_neg (by omega),if_neg (by omega),cz ht,cz ht,cz ht]; rfl
   · rw [if_pos rfl] at ht
     have a1 := (jL ht).1
     rw [cp,if_neg (by omega),if_neg (by omega),cz ht,cz ht]; rfl
 · rw [if_neg h3] at ht
   have h0 : v.k = 0 := by
    simp [h1,h2,h3] at hv
    exact hv.1
   simp [h0] at hv
   obtain ⟨k,n,s⟩ := v
   simp only at h0 hv; obtain ⟨hn,hs⟩ := hv; subst h0; subst hn; subst hs
   have a1 := (jL ht).1
   rw [cp,if_neg (by omega),if_neg (by omega),cz ht]; rfl
theorem nm_kt {t : Tok} {l : List Tok} {s : List UInt8} (h : kt t = (1,s)) (hs : nameOk s = true) : nmT (t :: l) = true := by
 obtain ⟨a1,a2⟩ := jL h
 unfold nmT
 rw [cp,a1,a2,hs]; rfl
theorem mQ {t : Tok} {l : List Tok} {s : List UInt8} (h : kt t = (1,s)) (hs : nameOk s = true) (op : List Tok → PX Ex) (d : Nat) : cO op d (t :: l) = iV (t :: l) := by
 have a1 := (jL h).1
 have key : ∀ x : List UInt8,nameOk x = false → decide (((1 : Int),s) = (1,x)) = false := fun x hx => decide_eq_false (fun e => by cases e; rw [hs] at hx; cases hx)
 unfold cO
 rw [cp,if_neg (by omega),if_neg (by omega),cz h,cz h,cz h,cz h,key _ (by decide),key _ (by decide),key _ (by decide)]
 rw [if_neg (by decide),if_neg (by decide),if_neg (by decide),if_neg (by simp)]
theorem refTok1 {t : Tok} {us : List Tok} {n : List UInt8} (h : kt t = (1,n)) (hn : nameOk n = true) (hd_ : atT 4 [46] us = false) : iV (t :: us) = .ok (.mk 2 Val.zero [] n 0 [],us) := by
 unfold iV ct
 rw [if_pos (nm_kt h hn)]
 simp only [List.drop_succ_cons,List.drop_zero,cp]
 rw [if_neg (by rw [hd_]; decide),(jL h).2]
theorem refTok2 {t p q : Tok} {us : List Tok} {m n : List UInt8} (h : kt t = (1,m)) (hp : kt p = (4,[46])) (hq : kt q = (1,n)) (hm : nameOk m = true) (hn : nameOk n = true) : iV (t :: p :: q :: us) = .ok (.mk 2 Val.zero m n 0 [],us) := by
 unfold iV ct
 rw [if_pos (nm_kt h hm)]
 simp only [List.drop_succ_cons,List.drop_zero,cp]
 rw [if_pos (by rw [cz hp]; decide),if_pos (nm_kt hq hn),(jL h).2]
 simp only [(jL hq).2]
theorem lvl_nat (o : Int) : ∃ k : Nat,lvl o = (k : Int) ∧ 1 ≤ k ∧ k ≤ 8 := by
 obtain ⟨h1,h2⟩ := lN o
 exact ⟨(lvl o).toNat,by omega,by omega,by omega⟩
theorem op_row {o : Int} (h : 8 ≤ o ∧ o ≤ 21) (h4 : lvl o ≠ 4) {lv : Nat} (hl : lvl o = (lv : Int)) : fm lv ∧ hM (kg lv) (opK o) = some o := by
 have hcs : o = 8 ∨ o = 9 ∨ o = 10 ∨ o = 11 ∨ o = 12 ∨ o = 13 ∨ o = 14 ∨ o = 15 ∨ o = 16 ∨ o = 17 ∨ o = 18 ∨ o = 19 ∨ o = 20 ∨ o = 21 := by omega
 unfold fm
 rcases hcs with rfl | rfl | rfl | rfl | rfl | rfl | rfl | rfl | rfl | rfl | rfl | rfl | rfl | rfl
 case _ => obtain rfl : lv = 5 := Int.ofNat.inj hl.symm; exact ⟨by decide,by decide⟩
 case _ => obtain rfl : lv = 5 := Int.ofNat.inj hl.symm; exact ⟨by decide,by decide⟩
 case _ => obtain rfl : lv = 6 := Int.ofNat.inj hl.symm; exact ⟨by decide,by decide⟩
 case _ => obtain rfl : lv = 6 := Int.ofNat.inj hl.symm; exact ⟨by decide,by decide⟩
 case _ => obtain rfl : lv = 6 := Int.ofNat.inj hl.symm; exact ⟨by decide,by decide⟩
 case _ => obtain rfl : lv = 5 := Int.ofNat.inj hl.symm; exact ⟨by decide,by decide⟩
 case _ => exact absurd rfl h4
 case _ => exact absurd rfl h4
 case _ => exact absurd rfl h4
 case _ => exact absurd rfl h4
 case _ => exact absurd rfl h4
 case _ => exact absurd rfl h4
 case _ => obtain rfl : lv = 2 := Int.ofNat.inj hl.symm; exact ⟨by decide,by decide⟩
 case _ => obtain rfl : lv = 1 := Int.ofNat.inj hl.symm; exact ⟨by decide,by decide⟩
theorem op_noc {o : Int} (h : 8 ≤ o ∧ o ≤ 21) {lv : Nat} (hl : lvl o = (lv : Int)) : noC (lv + 1) (opK o) = true := by
 have hcs : o = 8 ∨ o = 9 ∨ o = 10 ∨ o = 11 ∨ o = 12 ∨ o = 13 ∨ o = 14 ∨ o = 15 ∨ o = 16 ∨ o = 17 ∨ o = 18 ∨ o = 19 ∨ o = 20 ∨ o = 21 := by omega
 rcases hcs with rfl | rfl | rfl | rfl | rfl | rfl | rfl | rfl | rfl | rfl | rfl | rfl | rfl | rfl
 case _ => obtain rfl : lv = 5 := Int.ofNat.inj hl.symm; decide
 case _ => obtain rfl : lv = 5 := Int.ofNat.inj hl.symm; decide
 case _ => obtain rfl : lv = 6 := Int.ofNat.inj hl.symm; decide
 case _ => obtain rfl : lv = 6 := Int.ofNat.inj hl.symm; decide
 case _ => obtain rfl : lv = 6 := Int.ofNat.inj hl.symm; decide
 case _ => obtain rfl : lv = 5 := Int.ofNat.inj hl.symm; decide
 case _ => obtain rfl : lv = 4 := Int.ofNat.inj hl.symm; decide
 case _ => obtain rfl : lv = 4 := Int.ofNat.inj hl.symm; decide
 case _ => obtain rfl : lv = 4 := Int.ofNat.inj hl.symm; decide
 case _ => obtain rfl : lv = 4 := Int.ofNat.inj hl.symm; decide
 case _ => obtain rfl : lv = 4 := Int.ofNat.inj hl.symm; decide
 case _ => obtain rfl : lv = 4 := Int.ofNat.inj hl.symm; decide
 case _ => obtain rfl : lv = 2 := Int.ofNat.inj hl.symm; decide
 case _ => obtain rfl : lv = 1 := Int.ofNat.inj hl.symm; decide
theorem op_cmp {o : Int} (h : 8 ≤ o ∧ o ≤ 21) (h4 : lvl o = 4) : hM cmpO (opK o) = some o := by
 have hcs : o = 14 ∨ o = 15 ∨ o = 16 ∨ o = 17 ∨ o = 18 ∨ o = 19 := by
  unfold lvl at h4
  repeat' split at h4
  all_goals omega
 rcases hcs with rfl | rfl | rfl | rfl | rfl | rfl <;> decide
end Go.WK
namespace Go.WK
open Go.RowKit Lib
theorem gV {ts : List Tok} {a b : List KT} (h : ts.map kt = a ++ b) : ∃ x y,ts = x ++ y ∧ x.map kt = a ∧ y.map kt = b := by
 obtain ⟨x,y,h1,h2,h3⟩ := List.map_eq_append_iff.1 h
 exact ⟨x,y,h1,h2,h3⟩
theorem cg {ts : List Tok} {a : KT} {b : List KT} (h : ts.map kt = a :: b) : ∃ x y,ts = x :: y ∧ kt x = a ∧ y.map kt = b := by
 obtain ⟨x,y,h1,h2,h3⟩ := List.map_eq_cons_iff.1 h
 exact ⟨x,y,h1,h2,h3⟩
theorem iz {ts : List Tok} (h : ts.map kt = []) : ts = [] := List.map_eq_nil_iff.1 h
theorem eR {a f : Nat} (h : a < f) : ∃ g,f = g + 1 := ⟨f - 1,by omega⟩
theorem sy (f lv d : Nat) : ∀ us,Good us → fX us (exP f lv d us) := fun us h => cT f lv d us h
def RowR (e : Ex) (k d f n : Nat) (ts us : List Tok) : Prop := (ge (exP f (k + 1) d) (kg k) (ts ++ us) = hY (exP f (k + 1) d) (kg k) us.length e us ∧ d + n ≤ 24) ∨ ((∃ a,ge (exP f (k + 1) d) (kg k) (ts ++ us) = .error (191,a)) ∧ 24 < d + n)
theorem row_done {e : Ex} {k d f n : Nat} {ts us : List Tok} (hk : fm k) (hn : NoC k us) (h : RowR e k d f n ts us) : kf (exP (f + 1) k d (ts ++ us)) e us d n := by
 rw [rm hk]
 rcases h with ⟨h,hd⟩ | h
 · left; rw [h]; exact ⟨j0 (hn.row hk),hd⟩
 · exact .inr h
theorem bin_row {o : Int} {a b : Ex} {k d f : Nat} {ts us : List Tok} (ho : 8 ≤ o ∧ o ≤ 21) (h4 : lvl o ≠ 4) (hk : lvl o = (k : Int)) (hra : Rex a) (hpb : Pex b) (hg : Good us) (ht : ts.map kt = (bin o a b).kcore) (hn : NoC (k + 1) us) (hd : d ≤ 24) (hf : 8 * (ts ++ us).length + (8 - k) ≤ f) : RowR (bin o a b) k d f (bin o a b).core.2 ts us := by
 obtain ⟨hrow,hfind⟩ := op_row ho h4 hk
 have hk7 : k ≤ 7 := by unfold fm at hrow; omega
 have hk1 : 1 ≤ k := by unfold fm at hrow; omega
 rw [oQ a b o ho.1,if_neg h4,hk] at ht
 obtain ⟨ta,tr,rfl,hta,htr⟩ := gV ht
 obtain ⟨t,tb,rfl,hto,htb⟩ := cg htr
 have e1 : (ta ++ t :: tb) ++ us = ta ++ (t :: (tb ++ us)) := by simp
 rw [e1] at hf
 have hg2 : Good (t :: (tb ++ us)) := .inr hg.app
 have hfo : findO (kg k) (t :: (tb ++ us)) = some o := by rw [eB,cp,hto]; exact hfind
 have r1 := hra k d f ta (t :: (tb ++ us)) hd hrow hg2 hta (NoC.of (x := opK o) (by rw [cp,hto]) (op_noc ho hk)) hf
 have r2 := hpb (k + 1) d f tb us hd (by omega) (by omega) hg (by rw [htb]; rfl) hn (by simp only [List.length_append,List.length_cons] at hf ⊢; omega)
 have hmx : (bin o a b).core.2 = max (a.txt (k : Int)).2 (b.txt ((k + 1 : Nat) : Int)).2 := by rw [oR a b o ho.1,if_neg h4,hk]; rfl
 unfold RowR
 rw [hmx,e1]
 rcases r1 with ⟨r1,d1⟩ | ⟨r1,d1⟩
 · rcases r2 with ⟨r2,d2⟩ | ⟨⟨x,r2⟩,d2⟩
   · left
     rw [r1]
     exact ⟨mF (oprs_ok hrow) (sy f (k + 1) d) hg2 hfo r2,by omega⟩
   · right
     refine ⟨⟨x, ?_⟩,by omega⟩
     rw [r1]
     exact oF hg2 hfo r2
 · exact .inr ⟨r1,by omega⟩
def kC (e : Ex) (k : Nat) : Prop := ∀ (d f : Nat) (ts us : List Tok),d ≤ 24 → Good us → ts.map kt = e.kcore → NoC k us → 8 * (ts ++ us).length + (9 - k) ≤ f → kf (exP f k d (ts ++ us)) e us d e.core.2
def CoreW (e : Ex) (k : Nat) : Prop := ∀ (d f : Nat) (ts us : List Tok),d ≤ 24 → Good us → ts.map kt = e.kcore → NoC (k + 1) us → 8 * (ts ++ us).length + (8 - k) ≤ f → RowR e k d f e.core.2 ts us
theorem fN {lv : Nat} (h : lv = 3 ∨ lv = 4 ∨ lv = 7 ∨ lv = 8) : ¬ fm lv := by unfold fm; omega
theorem core_cst {v : Val} (hv : may v = true) (h0 : v.k = 1 → 0 ≤ v.n) (ho : v.ok) : kC (cst v) 8 := fun d f ts us hd hg ht hn hf => by
 obtain ⟨f,rfl⟩ := eR (show 0 < f by omega)
 rw [k_cst] at ht
 obtain ⟨t,tr,rfl,hto,htr⟩ := cg ht
 obtain rfl := iz htr
 rw [exP8]
 exact .inl ⟨sx hv h0 ho _ d t us hto,hd⟩
theorem core_nam {t n : List UInt8} (hn : nameOk n = true) (ht : t = [] ∨ nameOk t = true) : kC (.mk 2 Val.zero t n 0 []) 8 := fun d f ts us hd hg htk hc hf => by
 obtain ⟨f,rfl⟩ := eR (show 0 < f by omega)
 rw [k_nam] at htk
 rw [exP8]
 by_cases h1 : t = []
 · rw [if_pos h1] at htk
   subst h1
   obtain ⟨x,tr,rfl,hto,htr⟩ := cg htk
   obtain rfl := iz htr
   left
   exact ⟨(mQ hto hn _ d).trans (refTok1 hto hn hc.dot),hd⟩
 · have ht := ht.resolve_left h1
   rw [if_neg h1] at htk
   obtain ⟨x,tr,rfl,hx,htr⟩ := cg htk
   obtain ⟨y,tr,rfl,hy,htr⟩ := cg htr
   obtain ⟨z,tr,rfl,hz,htr⟩ := cg htr
   obtain rfl := iz htr
   left
   exact ⟨(mQ hx ht _ d).trans (refTok2 hx hy hz ht hn),hd⟩
theorem core_not {a : Ex} (hp : Pex a) : kC (un 5 a) 3 := fun d f ts us hd hg ht hn hf => by
 obtain ⟨f,rfl⟩ := eR (show 0 < f by omega)
 rw [k_not] at ht
 obtain ⟨t,ta,rfl,hto,hta⟩ := cg ht
 rw [List.cons_append,exP3,if_pos (by rw [cz hto]; decide),c_not]
 show kf _ _ _ _ ((a.txt ((3 : Nat) : Int)).2 + 1)
 by_cases h24 : 24 < d + 1
 · rw [if_pos h24]; exact .inr ⟨⟨_,rfl⟩,by omega⟩
 · rw [if_neg h24]
   have r := hp 3 (d + 1) f ta us (by omega) (by omega) (by omega) hg hta hn (by simp only [List.cons_append,List.length_cons] at hf ⊢; omega)
   rcases r with ⟨r,hd2⟩ | ⟨⟨x,r⟩,hd2⟩
   · left
     have r : exP f 3 (d + 1) ((t :: (ta ++ us)).drop 1) = .ok (a,us) := r
     rw [r]; exact ⟨rfl,by omega⟩
   · right
     have r : exP f 3 (d + 1) ((t :: (ta ++ us)).drop 1) = .error (191,x) := r
     rw [r]; exact ⟨⟨x,rfl⟩,by omega⟩
theorem core_neg {a : Ex} (hp : Pex a) : kC (un 4 a) 7 := fun d f ts us hd hg ht hn hf => by
 obtain ⟨f,rfl⟩ := eR (show 0 < f by omega)
 rw [k_neg] at ht
 obtain ⟨t,ta,rfl,hto,hta⟩ := cg ht
 rw [List.cons_append,exP7,if_pos (by rw [cz hto]; decide),c_neg]
 show kf _ _ _ _ ((a.txt ((7 : Nat) : Int)).2 + 1)
 by_cases h24 : 24 < d + 1
 · rw [if_pos h24]; exact .inr ⟨⟨_,rfl⟩,by omega⟩
 · rw [if_neg h24]
   have r := hp 7 (d + 1) f ta us (by omega) (by omega) (by omega) hg hta hn (by simp only [List.cons_append,List.length_cons] at hf ⊢; omega)
   rcases r with ⟨r,hd2⟩ | ⟨⟨x,r⟩,hd2⟩
   · left
     have r : exP f 7 (d + 1) ((t :: (ta ++ us)).drop 1) = .ok (a,us) := r
     rw [r]; exact ⟨rfl,by omega⟩
   · right
     have r : exP f 7 (d + 1) ((t :: (ta ++ us)).drop 1) = .error (191,x) := r
     rw [r]; exact ⟨⟨x,rfl⟩,by omega⟩
theorem core_nul {a : Ex} (hp : Pex a) : kC (un 6 a) 4 := fun d f ts us hd hg ht hn hf => by
 obtain ⟨f,rfl⟩ := eR (show 0 < f by omega)
 rw [k_nul] at ht
 obtain ⟨ta,tr,rfl,hta,htr⟩ := gV ht
 obtain ⟨x,tr,rfl,hx,htr⟩ := cg htr
 obtain ⟨y,tr,rfl,hy,htr⟩ := cg htr
 obtain rfl := iz htr
 have e1 : (ta ++ [x,y]) ++ us = ta ++ (x :: y :: us) := by simp
 rw [e1] at hf ⊢
 have r := hp 5 d f ta (x :: y :: us) hd (by omega) (by omega) (.inr (.inr hg)) hta (NoC.of (x := (1,isB)) (by rw [cp,hx]) (by decide)) (by omega)
 rw [exP4,c_nul]
 rcases r with ⟨r,hd2⟩ | ⟨⟨z,r⟩,hd2⟩
 · left
   rw [r]
   refine ⟨?_,hd2⟩
   simp only [gz,eB,cp,hx]
   rw [show hM cmpO (1,isB) = none by decide]
   simp only [cz hx,List.drop_succ_cons,List.drop_zero,cz hy]
   rfl
 · right; rw [r]; exact ⟨⟨z,rfl⟩,hd2⟩
theorem sz {a : Ex} (hp : Pex a) : kC (un 7 a) 4 := fun d f ts us hd hg ht hn hf => by
 obtain ⟨f,rfl⟩ := eR (show 0 < f by omega)
 rw [nC] at ht
 obtain ⟨ta,tr,rfl,hta,htr⟩ := gV ht
 obtain ⟨x,tr,rfl,hx,htr⟩ := cg htr
 obtain ⟨y,tr,rfl,hy,htr⟩ := cg htr
 obtain ⟨z,tr,rfl,hz,htr⟩ := cg htr
 obtain rfl := iz htr
 have e1 : (ta ++ [x,y,z]) ++ us = ta ++ (x :: y :: z :: us) := by simp
 rw [e1] at hf ⊢
 have r := hp 5 d f ta (x :: y :: z :: us) hd (by omega) (by omega) (.inr (.inr (.inr hg))) hta (NoC.of (x := (1,isB)) (by rw [cp,hx]) (by decide)) (by omega)
 rw [exP4,nD]
 rcases r with ⟨r,hd2⟩ | ⟨⟨q,r⟩,hd2⟩
 · left
   rw [r]
   refine ⟨?_,hd2⟩
   simp only [gz,eB,cp,hx]
   rw [show hM cmpO (1,isB) = none by decide]
   simp only [cz hx,List.drop_succ_cons,List.drop_zero,cz hy,cz hz]
   rfl
 · right; rw [r]; exact ⟨⟨q,rfl⟩,hd2⟩
theorem core_cmp {o : Int} {a b : Ex} (ho : 8 ≤ o ∧ o ≤ 21) (h4 : lvl o = 4) (hpa : Pex a) (hpb : Pex b) : kC (bin o a b) 4 := fun d f ts us hd hg ht hn hf => by
 obtain ⟨f,rfl⟩ := eR (show 0 < f by omega)
 rw [oQ a b o ho.1,if_pos h4,h4] at ht
 obtain ⟨ta,tr,rfl,hta,htr⟩ := gV ht
 obtain ⟨t,tb,rfl,hto,htb⟩ := cg htr
 have e1 : (ta ++ t :: tb) ++ us = ta ++ (t :: (tb ++ us)) := by simp
 rw [e1] at hf ⊢
 have r1 := hpa 5 d f ta (t :: (tb ++ us)) hd (by omega) (by omega) (.inr hg.app) hta (NoC.of (x := opK o) (by rw [cp,hto]) (op_noc (lv := 4) ho h4)) (by omega)
 have r2 := hpb 5 d f tb us hd (by omega) (by omega) hg htb (hn.mono (by omega)) (by simp only [List.length_append,List.length_cons] at hf ⊢; omega)
 have hmx : (bin o a b).core.2 = max (a.txt 5).2 (b.txt 5).2 := by rw [oR a b o ho.1,if_pos h4,h4]; rfl
 have n1 : (a.txt 5).2 = (a.txt ((5 : Nat) : Int)).2 := rfl
 have n2 : (b.txt 5).2 = (b.txt ((5 : Nat) : Int)).2 := rfl
 rw [exP4,hmx,n1,n2]
 rcases r1 with ⟨r1,d1⟩ | ⟨⟨z,r1⟩,d1⟩
 · rw [r1]
   simp only [gz,eB,cp,hto,op_cmp ho h4,List.drop_succ_cons,List.drop_zero]
   rcases r2 with ⟨r2,d2⟩ | ⟨⟨z,r2⟩,d2⟩
   · left; rw [r2]; exact ⟨rfl,by omega⟩
   · right; rw [r2]; exact ⟨⟨z,rfl⟩,by omega⟩
 · right; rw [r1]; exact ⟨⟨z,rfl⟩,by omega⟩
theorem e0 {e : Ex} (hm : e.may = true) {k : Nat} (hk : lvl e.o = (k : Int)) (hk1 : 1 ≤ k) (hk8 : k ≤ 8) (hC : kC e k) (hW : fm k → CoreW e k) : Pex e ∧ Rex e := by
  have hne := tk_ne (e.size + 1) e (by omega) hm
  have hcore : ∀ low : Int,low ≤ (k : Int) → e.tk low = e.kcore ∧ e.txt low = e.core := fun low h => ⟨nB (by omega),dX (by omega)⟩
  have hwrap : ∀ low : Int,(k : Int) < low → e.tk low = (4,[40]) :: (e.kcore ++ [(4,[41])]) ∧ (e.txt low).2 = e.core.2 + 1 := fun low h => ⟨kP (by omega),by rw [iw (by omega)]⟩
  have hlow : ∀ (lv d f : Nat) (ts us : List Tok),d ≤ 24 → 1 ≤ lv → lv ≤ k → Good us → ts.map kt = e.kcore → NoC lv us → 8 * (ts ++ us).length + (9 - lv) ≤ f → kf (exP f lv d (ts ++ us)) e us d e.core.2 := by
    intro lv d f ts us hd h1 h2 hg ht hn hf
    obtain ⟨f,rfl⟩ : ∃ g,f = g + (k - lv) := ⟨f - (k - lv),by omega⟩
    refine desc (k - lv) lv f h1 (by omega) hn (fun _ h => ?_) (fun _ h => ?_) ?_
    · have e4 := hcore 4 (by omega)
      have := hne 4
      rw [e4.1] at this
      rw [jK 1 fa ht this.1]
      exact decide_eq_false (this.2.1 (by omega))
    · have e8 := hcore 8 (by omega)
      have := hne 8
      rw [e8.1] at this
      rw [jK 4 [45] ht this.1]
      exact decide_eq_false (this.2.2 (by omega))
    · rw [show lv + (k - lv) = k by omega]
      exact hC d f ts us hd hg ht (hn.mono h2) (by omega)
  have h8 : k < 8 → ∀ (d f : Nat) (ts us : List Tok),d ≤ 24 → Good us → ts.map kt = (4,[40]) :: (e.kcore ++ [(4,[41])]) → NoC 8 us → 8 * (ts ++ us).length + 1 ≤ f → kf (exP f 8 d (ts ++ us)) e us d (e.core.2 + 1) := by
    intro hk7 d f ts us hd hg ht hn hf
    obtain ⟨f,rfl⟩ := eR (show 0 < f by omega)
    obtain ⟨t,tr,rfl,hto,htr⟩ := cg ht
    obtain ⟨tc,ty,rfl,htc,hty⟩ := gV htr
    obtain ⟨y,tz,rfl,hy,htz⟩ := cg hty
    obtain rfl := iz htz
    have e1 : (t :: (tc ++ [y])) ++ us = t :: (tc ++ (y :: us)) := by simp
    rw [e1] at hf ⊢
    have a1 := (jL hto).1
    rw [exP8]
    unfold cO
    rw [cp,if_neg (by omega),if_neg (by omega),cz hto,cz hto,cz hto,cz hto,if_neg (by simp),if_neg (by simp),if_neg (by simp),if_pos (by simp)]
    by_cases h24 : 24 < d + 1
    · rw [if_pos h24]; exact .inr ⟨⟨_,rfl⟩,by omega⟩
    · rw [if_neg h24,List.drop_succ_cons,List.drop_zero]
      have r := hlow 1 (d + 1) f tc (y :: us) (by omega) (Nat.le_refl 1) hk1 (.inr hg) htc (NoC.of (x := (4,[41])) (by rw [cp,hy]) (by decide)) (by simp only [List.length_cons,List.length_append] at hf ⊢; omega)
      rcases r with ⟨r,d2⟩ | ⟨⟨z,r⟩,d2⟩
      · left
        rw [r]
        unfold ls
        simp only [cz hy,decide_true,if_true,List.drop_succ_cons,List.drop_zero]
        exact ⟨trivial,by omega⟩
      · right; rw [r]; exact ⟨⟨z,rfl⟩,by omega⟩
  have hP : Pex e := by
    intro lv d f ts us hd h1 h2 hg ht hn hf
    by_cases hlv : lv ≤ k
    · have e1 := hcore (lv : Int) (by omega)
      rw [e1.1] at ht
      rw [e1.2]
      exact hlow lv d f ts us hd h1 hlv hg ht hn hf
    · have e1 := hwrap (lv : Int) (by omega)
      rw [e1.1] at ht
      rw [e1.2]
      obtain ⟨f,rfl⟩ : ∃ g,f = g + (8 - lv) := ⟨f - (8 - lv),by omega⟩
      have hat : ∀ (q : Int) (s : List UInt8),(q,s) ≠ (4,[40]) → atT q s (ts ++ us) = false := fun q s hq => by
        rw [jK q s ht (by simp)]
        exact decide_eq_false (fun e => by simp at e; exact hq (by rw [← e.1, ← e.2]))
      refine desc (8 - lv) lv f h1 (by omega) hn (fun _ _ => hat _ _ (by decide)) (fun _ _ => hat _ _ (by decide)) ?_
      rw [show lv + (8 - lv) = 8 by omega]
      exact h8 (by omega) d f ts us hd hg ht (hn.mono h2) (by omega)
  refine ⟨hP, ?_⟩
  intro lv d f ts us hd hrow hg ht hn hf
  have hl : 1 ≤ lv ∧ lv ≤ 6 := by unfold fm at hrow; omega
  by_cases hlv : lv = k
  · subst hlv
    have e1 := hcore (lv : Int) (by omega)
    rw [e1.1] at ht
    rw [e1.2]
    exact hW hrow d f ts us hd hg ht hn hf
  · have e1 : e.tk (lv : Int) = e.tk ((lv + 1 : Nat) : Int) ∧ e.txt (lv : Int) = e.txt ((lv + 1 : Nat) : Int) := by
      unfold Ex.tk Ex.txt i7 eW
      simp only [hk]
      by_cases h : (k : Int) < (lv : Int)
      · rw [if_pos h,if_pos h,if_pos (by omega),if_pos (by omega)]; exact ⟨rfl,rfl⟩
      · rw [if_neg h,if_neg h,if_neg (by omega),if_neg (by omega)]; exact ⟨rfl,rfl⟩
    rw [e1.1] at ht
    rw [e1.2]
    have r := hP (lv + 1) d f ts us hd (by omega) (by omega) hg ht hn (by omega)
    unfold ge
    rcases r with ⟨r,d2⟩ | ⟨⟨z,r⟩,d2⟩
    · left; rw [r]; exact ⟨rfl,d2⟩
    · right; rw [r]; exact ⟨⟨z,rfl⟩,d2⟩
theorem ex_parse : ∀ (m : Nat) (e : Ex),e.size < m → e.may = true → e.ok → Pex e ∧ Rex e := by
 intro m
 induction m with
 | zero => intro e h; omega
 | succ m ih =>
  intro e hs hm ho
  have hv := view hm
  cases hv with
  | cst v hv h0 =>
   obtain ⟨_,hov,_⟩ := ho
   exact e0 hm (k := 8) rfl (by omega) (by omega) (core_cst hv h0 hov) (fun h => absurd h (fN (by omega)))
  | nam t n hn ht => exact e0 hm (k := 8) rfl (by omega) (by omega) (core_nam hn ht) (fun h => absurd h (fN (by omega)))
  | un o a ho4 ha =>
   have hsz := iP o a
   obtain ⟨_,_,_,hoa,_⟩ := ho
   have hp := (ih a (by omega) ha hoa).1
   have hcs : o = 5 ∨ o = 4 ∨ o = 6 ∨ o = 7 := by omega
   rcases hcs with rfl | rfl | rfl | rfl
   · exact e0 hm (k := 3) rfl (by omega) (by omega) (core_not hp) (fun h => absurd h (fN (by omega)))
   · exact e0 hm (k := 7) rfl (by omega) (by omega) (core_neg hp) (fun h => absurd h (fN (by omega)))
   · exact e0 hm (k := 4) rfl (by omega) (by omega) (core_nul hp) (fun h => absurd h (fN (by omega)))
   · exact e0 hm (k := 4) rfl (by omega) (by omega) (sz hp) (fun h => absurd h (fN (by omega)))
  | bin o a b ho8 ha hb =>
   have hsz := gD o a b
   obtain ⟨_,_,_,hoa,hob,_⟩ := ho
   have ha := ih a (by omega) ha hoa
   have hb := ih b (by omega) hb hob
   by_cases h4 : lvl o = 4
   · exact e0 hm (k := 4) h4 (by omega) (by omega) (core_cmp ho8 h4 ha.1 hb.1) (fun h => absurd h (fN (by omega)))
   · obtain ⟨k,hk,hk1,hk8⟩ := lvl_nat o
     have hrow := (op_row ho8 h4 hk).1
     have hW : CoreW (bin o a b) k := fun d f ts us hd hg ht hn hf => bin_row ho8 h4 hk ha.2 hb.1 hg ht hn hd hf
     refine e0 hm hk hk1 hk8 (fun d f ts us hd hg ht hn hf => ?_) (fun _ => hW)
     obtain ⟨f,rfl⟩ := eR (show 0 < f by omega)
     exact row_done hrow hn (hW d f ts us hd hg ht (hn.mono (by omega)) (by omega))
end Go.WK
namespace Go.WK
open Go.RowKit Lib
def BrP (ks : List KT) (e : Ex) (n : Nat) : Prop := ∀ (d f : Nat) (ts us : List Tok),d ≤ 24 → Good us → ts.map kt = ks → NoC 1 us → 8 * (ts ++ us).length + 8 ≤ f → kf (exP f 1 d (ts ++ us)) e us d n
def brK (ks : List KT) : List KT := (4,[40]) :: (ks ++ [(4,[41])])
theorem BrP.more {ks : List KT} {e : Ex} {n : Nat} (h : BrP ks e n) : BrP (brK ks) e (n + 1) := by
 intro d f ts us hd hg ht hn hf
 have hat : ∀ (q : Int) (s : List UInt8),(q,s) ≠ (4,[40]) → atT q s (ts ++ us) = false := fun q s hq => by
  rw [jK q s ht (by simp [brK])]
  exact decide_eq_false (fun e => by simp [brK] at e; exact hq (by rw [← e.1, ← e.2]))
 obtain ⟨f,rfl⟩ : ∃ g,f = g + 7 := ⟨f - 7,by omega⟩
 refine desc 7 1 f (by omega) (by omega) hn (fun _ _ => hat _ _ (by decide)) (fun _ _ => hat _ _ (by decide)) ?_
 obtain ⟨f,rfl⟩ := eR (show 0 < f by omega)
 obtain ⟨t,tr,rfl,hto,htr⟩ := cg ht
 obtain ⟨tc,ty,rfl,htc,hty⟩ := gV htr
 obtain ⟨y,tz,rfl,hy,htz⟩ := cg hty
 obtain rfl := iz htz
 have e1 : (t :: (tc ++ [y])) ++ us = t :: (tc ++ (y :: us)) := by simp
 rw [e1] at hf ⊢
 have a1 := (jL hto).1
 show kf (exP (f + 1) 8 d _) _ _ _ _
 rw [exP8]
 unfold cO
 rw [cp,if_neg (by omega),if_neg (by omega),cz hto,cz hto,cz hto,cz hto,if_neg (by simp),if_neg (by simp),if_neg (by simp),if_pos (by simp)]
 by_cases h24 : 24 < d + 1
 · rw [if_pos h24]; exact .inr ⟨⟨_,rfl⟩,by omega⟩
 · rw [if_neg h24,List.drop_succ_cons,List.drop_zero]
   have r := h (d + 1) f tc (y :: us) (by omega) (.inr hg) htc (NoC.of (x := (4,[41])) (by rw [cp,hy]) (by decide)) (by simp only [List.length_cons,List.length_append] at hf ⊢; omega)
   rcases r with ⟨r,d2⟩ | ⟨⟨z,r⟩,d2⟩
   · left
     rw [r]
     unfold ls
     simp only [cz hy,decide_true,if_true,List.drop_succ_cons,List.drop_zero]
     exact ⟨trivial,by omega⟩
   · right; rw [r]; exact ⟨⟨z,rfl⟩,by omega⟩
theorem BrP.ex {e : Ex} (hm : e.may = true) (ho : e.ok) : BrP (e.tk 1) e (e.txt 1).2 := fun d f ts us hd hg ht hn hf =>
 (ex_parse (e.size + 1) e (by omega) hm ho).1 1 d f ts us hd (Nat.le_refl 1) (by omega) hg ht hn (by omega)
def lQ (x : KT) : Bool := if x.1 = 2 ∨ x.1 = 3 then true else if x.1 = 4 then decide (x.2 = [40]) || decide (x.2 = [45]) else if x.1 = 1 then (if x.2 = dl ∨ x.2 = iZ ∨ x.2 = gf ∨ x.2 = fa then true else nameOk x.2) else false
theorem begT_kt (ts : List Tok) : it ts = lQ (kt (hd ts)) := by
 unfold it lQ nmT kt
 by_cases h2 : (hd ts).k = 2 ∨ (hd ts).k = 3
 · rw [if_pos h2,if_pos h2]
 rw [if_neg h2,if_neg h2]
 by_cases h4 : (hd ts).k = 4
 · rw [if_pos h4,if_pos h4]
 rw [if_neg h4,if_neg h4]
 by_cases h1 : (hd ts).k = 1
 · rw [if_pos h1,if_pos h1,decide_eq_true h1]; rfl
 · rw [if_neg h1,if_neg h1]
theorem lR {n : List UInt8} (h : nameOk n = true) : lQ (1,n) = true := by
 unfold lQ
 simp only
 rw [if_neg (by omega),if_neg (by omega),if_pos trivial]
 split
 · rfl
 · exact h
theorem tk_beg : ∀ (m : Nat) (e : Ex),e.size < m → e.may = true → ∀ low : Int, ∃ x l,e.tk low = x :: l ∧ lQ x = true := by
 intro m
 induction m with
 | zero => intro e h; omega
 | succ m ih =>
  intro e hs hm low
  by_cases hlow : lvl e.o < low
  · exact ⟨_,_,kP hlow,by decide⟩
  rw [nB hlow]
  have app : ∀ {a b : List KT} {x : KT} {l : List KT},a = x :: l → lQ x = true → ∃ x l,a ++ b = x :: l ∧ lQ x = true := fun {a b x l} h hb => ⟨x,l ++ b,by rw [h]; rfl,hb⟩
  have hv := view hm
  cases hv with
  | cst v hv h0 =>
   refine ⟨_,_,k_cst v, ?_⟩
   unfold valK
   by_cases h1 : v.k = 1
   · rw [if_pos h1]; rfl
   rw [if_neg h1]
   by_cases h2 : v.k = 2
   · rw [if_pos h2]; rfl
   rw [if_neg h2]
   by_cases h3 : v.k = 3
   · rw [if_pos h3]
     by_cases h4 : v.n = 1
     · rw [if_pos h4]; decide
     · rw [if_neg h4]; decide
   · rw [if_neg h3]; decide
  | nam t n hn ht =>
   rw [k_nam]
   by_cases h1 : t = []
   · rw [if_pos h1]; exact ⟨_,_,rfl,lR hn⟩
   · rw [if_neg h1]; exact ⟨_,_,rfl,lR (ht.resolve_left h1)⟩
  | un o a ho ha =>
   have hsz := iP o a
   have ih := ih a (by omega) ha
   have hcs : o = 5 ∨ o = 4 ∨ o = 6 ∨ o = 7 := by omega
   rcases hcs with rfl | rfl | rfl | rfl
   · exact ⟨_,_,k_not a,by decide⟩
   · exact ⟨_,_,k_neg a,by decide⟩
   · obtain ⟨x,l,h1,h2⟩ := ih 5
     rw [k_nul]; exact app h1 h2
   · obtain ⟨x,l,h1,h2⟩ := ih 5
     rw [nC]; exact app h1 h2
  | bin o a b ho ha hb =>
   have hsz := gD o a b
   obtain ⟨x,l,h1,h2⟩ := ih a (by omega) ha (if lvl o = 4 then 5 else lvl o)
   rw [oQ a b o ho.1]; exact app h1 h2
def dG (x : Ex) : StmtX := { StmtX.zero with k := 8,q := { QryX.zero with items := [⟨x,[]⟩] } }
theorem sA {ks : List KT} {x : Ex} {n f : Nat} {ts : List Tok} (hb : BrP ks x n) (hk : ∃ y l,ks = y :: l ∧ lQ y = true) (ht : ts.map kt = (1,du) :: (ks ++ [(5,[])])) (hf : 8 * ts.length + 8 ≤ f) :
  (j5 f ts = .ok (dG x) ∧ n ≤ 24) ∨ ((∃ a,j5 f ts = .error (191,a)) ∧ 24 < n) := by
 obtain ⟨t,tr,rfl,hto,htr⟩ := cg ht
 obtain ⟨tc,ty,rfl,htc,hty⟩ := gV htr
 obtain ⟨y,tz,rfl,hy,htz⟩ := cg hty
 obtain rfl := iz htz
 obtain ⟨z,l,rfl,hz⟩ := hk
 have hend : ∀ k s,k ≠ 5 → atT k s [y] = false := fun k s hk => by rw [cz hy]; exact decide_eq_false (fun e => by cases e; exact hk rfl)
 have hyk : (hd [y]).k = 5 := (jL hy).1
 have hat : ∀ (q : Int) (s : List UInt8),lQ (q,s) = false → atT q s (tc ++ [y]) = false := fun q s hq => by
  rw [jK q s htc (by simp)]
  refine decide_eq_false (fun e => ?_)
  have e : z = (q,s) := by simpa using e
  rw [e,hq] at hz; cases hz
 have hbt : it (tc ++ [y]) = true := by
  rw [begT_kt]
  cases tc with
  | nil => simp at htc
  | cons u tc =>
   have : kt u = z := by simpa using (List.cons.inj htc).1
   rw [List.cons_append,cp,this]; exact hz
 have r := hb 0 f tc [y] (by omega) (.inl (jL hy).1) htc (NoC.of (x := (5,[])) hy (by decide)) (by simp only [List.length_cons,List.length_append] at hf ⊢; omega)
 have hlist : ∀ {τ : Type} (g : Nat → Nat),True := fun _ => trivial
 unfold j5 jC
 rw [cz hto,cz hto,cz hto,cz hto,cz hto,cz hto,if_neg (by decide),if_neg (by decide),if_neg (by decide),if_neg (by decide),if_neg (by decide),if_pos (by decide)]
 unfold fY cP
 simp only [List.drop_succ_cons,List.drop_zero]
 have hdist : co (tc ++ [y]) = tc ++ [y] := by unfold co; rw [hat _ _ (by decide)]; rfl
 rw [hdist]
 unfold fK
 rw [hat 4 [42] (by decide),hat 1 bu (by decide)]
 simp only [Bool.false_eq_true,if_false]
 unfold dm
 rw [if_pos (.inl rfl),if_pos rfl,hbt,if_pos rfl,if_neg (by decide)]
 unfold fI
 rcases r with ⟨r,d2⟩ | ⟨⟨a,r⟩,d2⟩
 · left
   refine ⟨?_,by omega⟩
   rw [r]
   simp only [asP,hend 1 asB (by decide),Bool.false_eq_true,if_false]
   unfold dm
   rw [if_neg (by rw [hend 4 [44] (by decide)]; simp)]
   simp only [eH,hend 1 lC (by decide),dZ,hend 1 pL (by decide),ea,hend 1 j3 (by decide),eM,hend 1 j4 (by decide),hend 4 [59] (by decide),Bool.false_eq_true,if_false]
   rw [if_pos hyk]; rfl
 · right
   rw [r]
   exact ⟨⟨a,rfl⟩,by omega⟩
def br : Nat → List UInt8 → List UInt8
 | 0,t => t
 | n + 1,t => br n (40 :: (t ++ [41]))
def brI : Nat → List UInt8 → List UInt8
 | 0,t => t
 | n + 1,t => 40 :: (brI n t ++ [41])
theorem br_in (n : Nat) : ∀ t,br n (40 :: (t ++ [41])) = 40 :: (br n t ++ [41]) := by
 induction n with
 | zero => intro t; rfl
 | succ n ih => intro t; exact ih _
theorem br_brI (n : Nat) (t : List UInt8) : br n t = brI n t := by
 induction n with
 | zero => rfl
 | succ n ih => rw [brI, ← ih, ← br_in]; rfl
theorem nK (n : Nat) (t : List UInt8) : (br n t).length = t.length + 2 * n := by
 rw [br_brI]
 induction n with
 | zero => rfl
 | succ n ih => rw [brI]; simp only [List.length_cons,List.length_append,List.length_nil,ih]; omega
def brKs : Nat → List KT → List KT
 | 0,ks => ks
 | n + 1,ks => brK (brKs n ks)
theorem BrP.iter {ks : List KT} {e : Ex} {n : Nat} (h : BrP ks e n) : ∀ m,BrP (brKs m ks) e (n + m)
 | 0 => h
 | m + 1 => (BrP.iter h m).more
theorem brKs_beg {ks : List KT} (h : ∃ y l,ks = y :: l ∧ lQ y = true) : ∀ m, ∃ y l,brKs m ks = y :: l ∧ lQ y = true
 | 0 => h
 | m + 1 => ⟨_,_,rfl,by decide⟩
theorem mR {t : List UInt8} {ks : List KT} (h : ∀ r js,Stop r → cU r js → cU (t ++ r) (ks ++ js)) : ∀ m r js,Stop r → cU r js → cU (brI m t ++ r) (brKs m ks ++ js)
 | 0,r,js,hr,hl => h r js hr hl
 | m + 1,r,js,hr,hl => by
  have h1 := cf (c := 41) (.inl (by decide)) hl
  have h2 := mR h m (41 :: r) _ (dY (by decide)) h1
  have h3 := cf (c := 40) (.inl (by decide)) h2
  simpa [brI,brKs,brK] using h3
theorem lexL_of {s : List UInt8} {ks : List KT} (h : cU s ks) (hl : s.length ≤ 4096) : ∃ ts,eK s = .ok ts ∧ ts.map kt = ks ++ [(5,[])] := by
 obtain ⟨ts,h1,h2⟩ := h (s.length + 1) 0 (by omega)
 exact ⟨ts,by unfold eK; rw [if_neg (by omega),h1],h2⟩
def cI : List UInt8 := [115,101,108,101,99,116,32]
theorem oX {x : Ex} (hm : x.may = true) (ho : x.ok) (m : Nat) (hl : (br m (x.txt 1).1).length ≤ 4089) :
  (cy (cI ++ br m (x.txt 1).1) = .ok (dG x) ∧ (x.txt 1).2 + m ≤ 24) ∨ ((∃ a,cy (cI ++ br m (x.txt 1).1) = .error (191,a)) ∧ 24 < (x.txt 1).2 + m) := by
 have h0 := mR (fun r js hr hl => (ex_lexes (x.size + 1) x (by omega) hm ho 1 r js hr hl).1) m [] [] stop_nil sm
 rw [List.append_nil,List.append_nil] at h0
 have h1 : cU (cI ++ br m (x.txt 1).1) ((1,du) :: brKs m (x.tk 1)) := by
  have := cd (s := du) (by decide) (dY (by decide)) (cF h0)
  rw [br_brI]; simpa [cI,du] using this
 obtain ⟨ts,h2,h3⟩ := lexL_of h1 (by simp only [List.length_append,cI,List.length_cons,List.length_nil]; omega)
 have hb := tk_beg (x.size + 1) x (by omega) hm 1
 have := sA (f := 8 * ts.length + 8) ((BrP.ex hm ho).iter m) (brKs_beg hb m) h3 (by omega)
 unfold cy
 rw [h2]
 exact this
theorem mS {x : List UInt8} {ts : List Tok} (h : eK (cI ++ x) = .ok ts) : atT 1 du ts = true := by
 unfold eK at h
 split at h
 · cases h
 · have hg : gap (cI ++ x) = 0 := by show dw false (115 :: _) = 0; unfold dw; rw [if_neg (by decide),if_neg (fun h => absurd h.1 (by decide))]
   have hq : (cI ++ x).drop (gap (cI ++ x)) = 115 :: ([101,108,101,99,116,32] ++ x) := by rw [hg]; rfl
   rw [iI hq] at h
   have ht : bZ (115 :: ([101,108,101,99,116,32] ++ x)) = ⟨1,du,6,0⟩ := by
    rw [iG (by rfl)]
    rfl
   rw [ht] at h
   simp only [ne_eq,not_true_eq_false,if_false] at h
   cases hx : jt (cI ++ x).length (0 + gap (cI ++ x) + 6) ((115 :: ([101,108,101,99,116,32] ++ x)).drop 6) with
   | error p => rw [hx] at h; cases h
   | ok l => rw [hx] at h; cases h; rfl
end Go.WK
namespace Go.WK
open Go.RowKit
def nmX (s : List UInt8) : Ex := .mk 2 Val.zero [] s 0 []
def eC : StmtX := { StmtX.zero with k := 8,q := { QryX.zero with items := [⟨nmX [97],[]⟩,⟨.mk 2 Val.zero [116] [98] 0 [],[99]⟩],from_ := [⟨[116],[],Ex.zero⟩] } }
def awT1 : List UInt8 := [83,69,76,69,67,84,32,97,44,32,116,46,98,32,65,83,32,99,32,70,82,79,77,32,116]
def awT2 : List UInt8 := [115,101,108,101,99,116,32,97,32,61,32,98,32,61,32,99]
def awT3 : List UInt8 := [115,101,108,101,99,116,32,97,44,32,116,46,98,32,97,115,32,99,32,102,114,111,109,32,116]
def notA : Ex := .mk 5 Val.zero [] [] 0 [nmX [97]]
theorem aw_1 : cy awT1 = .ok eC := by kernel_rfl
theorem aw_2 : cy awT2 = .error (190,13) := by kernel_rfl
theorem aw_3 : prS eC = (awT3,0) := by kernel_rfl
theorem aw_4 : prX notA = ([110,111,116,32,97],0) := by kernel_rfl
theorem aw_5 : lL eC = true := by kernel_rfl
theorem aw_6 : (dK eC).1.length = 25 := by kernel_rfl
theorem aw_7 : (notA.txt 1).1.length = 5 := by kernel_rfl
theorem aw_8 : notA.size = 3 := by kernel_rfl
theorem aw_s1 (ts : List Tok) (h : eK awT1 = .ok ts) : atT 1 du ts = true := by
 have e : eK awT1 = .ok [⟨1,[115,101,108,101,99,116],0⟩,⟨1,[97],7⟩,⟨4,[44],8⟩,⟨1,[116],10⟩,⟨4,[46],11⟩,⟨1,[98],12⟩,⟨1,[97,115],14⟩,⟨1,[99],17⟩,⟨1,[102,114,111,109],19⟩,⟨1,[116],24⟩,⟨5,[],25⟩] := by kernel_rfl
 rw [e] at h; cases h; rfl
theorem aw_s2 (ts : List Tok) (h : eK awT2 = .ok ts) : atT 1 du ts = true := by
 have e : eK awT2 = .ok [⟨1,[115,101,108,101,99,116],0⟩,⟨1,[97],7⟩,⟨4,[61],9⟩,⟨1,[98],11⟩,⟨4,[61],13⟩,⟨1,[99],15⟩,⟨5,[],16⟩] := by kernel_rfl
 rw [e] at h; cases h; rfl
def awY (b c : Nat) : Lay := { Lay.nil with q := ⟨⟨some ⟨b,0,none⟩,2⟩,⟨some ⟨c,0,none⟩,1⟩,SL.nil,SL.nil⟩ }
def awI : List Value := bH (nmX [97]) SL.nil ++ ([.string (B [])] ++ (bH (.mk 2 Val.zero [116] [98] 0 []) SL.nil ++ [.string (B [99])]))
def awF : List Value := [.string (B [116]),.string (B [])] ++ bH Ex.zero SL.nil
theorem mT (bl : List Nat) (w : World) (o : Int) (v : Val) (t n : List UInt8) (c : Int) : ExR bl w (.mk o v t n c []) SL.nil := ⟨none,0,[],rfl,Nat.le_refl _,Rd.nil _ _,(fun _ h => by cases h),rfl⟩
theorem jM {α : Type} (K : Kd α) (bl : List Nat) (w : World) : SlR K bl w [] SL.nil [] := ⟨Nat.le_refl _,Rd.nil _ _,(fun _ h => by cases h),rfl⟩
theorem aw_at {w : World} {b c : Nat} (hI : Rd w (some ⟨b,0,none⟩) awI) (hF : Rd w (some ⟨c,0,none⟩) awF) : SAt [b,c] w eC (awY b c) := by
 refine ⟨[],[],[],[],awI,awF,[],jM _ _ _,jM _ _ _,jM _ _ _,jM _ _ _,mT _ _ _ _ _ _ _,⟨⟨Nat.le_refl _,hI,fun a ha _ => ?_, ?_⟩,⟨Nat.le_refl _,hF,fun a ha _ => ?_, ?_⟩,mT _ _ _ _ _ _ _,jM _ _ _⟩⟩
 · cases ha; simp
 · exact ⟨bH (nmX [97]) SL.nil ++ [.string (B [])],bH (.mk 2 Val.zero [116] [98] 0 []) SL.nil ++ [.string (B [99])],rfl,⟨_,rfl,mT _ _ _ _ _ _ _⟩,_,[],by simp,⟨_,rfl,mT _ _ _ _ _ _ _⟩,rfl⟩
 · cases ha; simp
 · exact ⟨awF,[],by simp,⟨_,rfl,mT _ _ _ _ _ _ _⟩,rfl⟩
theorem nota_at {w : World} {b : Nat} (h : Rd w (some ⟨b,0,none⟩) (bH (nmX [97]) SL.nil)) : ExR [b] w notA ⟨some ⟨b,0,none⟩,1⟩ :=
 ⟨some ⟨b,0,none⟩,1,bH (nmX [97]) SL.nil,rfl,Nat.le_refl _,h,(fun a ha _ => by cases ha; simp),bH (nmX [97]) SL.nil,[],by simp,mT _ _ _ _ _ _ _,rfl⟩
theorem nm_ok (s : List UInt8) : (nmX s).ok := ⟨by omega,by unfold Val.ok Val.zero; simp,by omega,trivial⟩
theorem nota_ok : notA.ok := ⟨by omega,by unfold Val.ok Val.zero; simp,by omega,nm_ok _,trivial⟩
theorem nL : Ex.zero.ok := ⟨by omega,by unfold Val.ok Val.zero; simp,by omega,trivial⟩
theorem aw_ok : SOk eC := by
 refine ⟨⟨by decide,by decide⟩,fun i hi => absurd hi (by simp [eC,StmtX.zero]),fun i hi => absurd hi (by simp [eC,StmtX.zero]),fun i hi => absurd hi (by simp [eC,StmtX.zero]),nL,⟨fun i hi => ?_,fun i hi => ?_,nL,rfl⟩⟩
 · have hi : i < 2 := hi
   rcases (by omega : i = 0 ∨ i = 1) with rfl | rfl
   · exact nm_ok _
   · exact ⟨by omega,by unfold Val.ok Val.zero; simp,by omega,trivial⟩
 · have hi : i < 1 := hi
   obtain rfl : i = 0 := by omega
   exact nL
theorem aw_bd : SBd eC := by
 refine ⟨by decide,by decide,by decide,by decide,by decide,by decide,fun i hi => absurd hi (by simp [eC,StmtX.zero]),fun i hi => absurd hi (by simp [eC,StmtX.zero]),fun i hi => absurd hi (by simp [eC,StmtX.zero]),fun i hi => absurd hi (by simp [eC,StmtX.zero]),by decide,⟨by decide,by decide,by decide,fun i hi => ?_,fun i hi => ?_,fun i hi => absurd hi (by simp [eC,QryX.zero]),by decide⟩⟩
 · have hi : i < 2 := hi
   rcases (by omega : i = 0 ∨ i = 1) with rfl | rfl
   · exact ⟨by decide,by decide⟩
   · exact ⟨by decide,by decide⟩
 · have hi : i < 1 := hi
   obtain rfl : i = 0 := by omega
   exact ⟨by decide,by decide,by decide⟩
theorem stCs_inj {s : StmtX} {y z : Lay} (h : bL s y = bL s z) : y = z := by
 obtain ⟨⟨a1,a2⟩,⟨b1,b2⟩,⟨c1,c2⟩,⟨d1,d2⟩,⟨e1,e2⟩,⟨⟨f1,f2⟩,⟨g1,g2⟩,⟨i1,i2⟩,⟨j1,j2⟩⟩⟩ := y
 obtain ⟨⟨a1',a2'⟩,⟨b1',b2'⟩,⟨c1',c2'⟩,⟨d1',d2'⟩,⟨e1',e2'⟩,⟨⟨f1',f2'⟩,⟨g1',g2'⟩,⟨i1',i2'⟩,⟨j1',j2'⟩⟩⟩ := z
 simp only [bL,List.cons.injEq,Value.slice.injEq,true_and,and_true] at h
 simp only [Lay.mk.injEq,SL.mk.injEq,QLay.mk.injEq]
 obtain ⟨h1,h2,h3,h4,h5,h6,h7,h8,h9⟩ := h
 exact ⟨h1,h2,h3,h4,h5,h6,h7,h8,h9⟩
theorem qj {bl : List Nat} {w : World} {s : StmtX} {y : Lay} (h : StK bl w s (bL s y)) : SAt bl w s y := by
 obtain ⟨y',h1,h2⟩ := st_at h
 rw [stCs_inj h1]; exact h2
end Go.WK
namespace Go.WK
open Go.RowKit
theorem Sat.set2 {cx : Cx} {x c c' : Chunk} {H : List Chunk} {w : World} (h : Sat cx (x :: c :: H) w) (hf : ∀ k,c'.fp k → c.fp k) (hc : c.holds w → c'.holds w) : Sat cx (x :: c' :: H) w := by
 refine ⟨h.chg,fun d hd => ?_,fun d hd k hk => ?_, ?_⟩
 · rcases List.mem_cons.1 hd with rfl | hd
   · exact h.holds _ List.mem_cons_self
   · rcases List.mem_cons.1 hd with rfl | hd
     · exact hc (h.holds _ (List.mem_cons_of_mem _ List.mem_cons_self))
     · exact h.holds _ (List.mem_cons_of_mem _ (List.mem_cons_of_mem _ hd))
 · rcases List.mem_cons.1 hd with rfl | hd
   · exact h.fresh _ List.mem_cons_self k hk
   · rcases List.mem_cons.1 hd with rfl | hd
     · exact h.fresh _ (List.mem_cons_of_mem _ List.mem_cons_self) k (hf k hk)
     · exact h.fresh _ (List.mem_cons_of_mem _ (List.mem_cons_of_mem _ hd)) k hk
 · have ha := h.apart
   rw [List.pairwise_cons,List.pairwise_cons] at ha ⊢
   obtain ⟨a1,a2,a3⟩ := ha
   refine ⟨fun d hd k hk hk2 => ?_,fun d hd k hk hk2 => a2 d hd k (hf k hk) hk2,a3⟩
   rcases List.mem_cons.1 hd with rfl | hd
   · exact a1 c List.mem_cons_self k hk (hf k hk2)
   · exact a1 d (List.mem_cons_of_mem _ hd) k hk hk2
def selC (bl : List Nat) (e : Ex) (y : Lay) (xI : List Value) (ya : SL) : Chunk :=
 ofC bl (fun w => StK bl w (dG e) (bL (dG e) y) ∧ SlR itemKd bl w [⟨e,[]⟩] y.q.I xI ∧ ExR bl w e ya) (fun _ _ hs h => ⟨h.1.stab hs,h.2.1.stab hs,h.2.2.stab hs⟩)
theorem sel_open {bl : List Nat} {w : World} {e : Ex} {cs : List Value} (h : StK bl w (dG e) cs) : ∃ y xI ya,cs = bL (dG e) y ∧ (xI.drop (0 * 9)).take 9 = bH e ya ++ [.string (B [])] ∧ xI.length = 1 * 9 ∧ StK bl w (dG e) (bL (dG e) y) ∧ SlR itemKd bl w [⟨e,[]⟩] y.q.I xI ∧ ExR bl w e ya := by
 obtain ⟨y,rfl,hs⟩ := st_at h
 obtain ⟨xC,xN,xR,xS,xI,xF,xO,hs⟩ := hs
 have hI : SlR itemKd bl w [⟨e,[]⟩] y.q.I xI := hs.q.I
 obtain ⟨ya,h1,h2⟩ := jH hI 0 (by simp)
 exact ⟨y,xI,ya,rfl,h1,hI.len,h,hI,h2⟩
theorem Tri.sel {cx : Cx} {fs : aR} {x : Chunk} {H : List Chunk} {bl : List Nat} {e : Ex} {cs : List Value} {c : Code} {Q : bT}
  (k : ∀ y xI ya,cs = bL (dG e) y → (xI.drop (0 * 9)).take 9 = bH e ya ++ [.string (B [])] → xI.length = 1 * 9 → Tri cx fs (x :: selC bl e y xI ya :: H) c Q) : Tri cx fs (x :: stC bl (dG e) cs :: H) c Q := fun a w ha hw => by
 have hc := hw.holds _ (List.mem_cons_of_mem _ List.mem_cons_self)
 obtain ⟨y,xI,ya,h1,h2,h4,h3⟩ := sel_open hc.1
 exact k y xI ya h1 h2 h4 a w ha (hw.set2 (c' := selC bl e y xI ya) (fun _ hk => hk) (fun _ => ⟨h3,hc.2⟩))
theorem sel_bd {e : Ex} (h : e.size ≤ BIG_) : SBd (dG e) := by
 have z : 0 ≤ BIG_ := Nat.zero_le _
 have o : 1 ≤ BIG_ := by decide
 refine ⟨z,z,z,z,z,z,fun i hi => absurd hi (by simp [dG,StmtX.zero]),fun i hi => absurd hi (by simp [dG,StmtX.zero]),fun i hi => absurd hi (by simp [dG,StmtX.zero]),fun i hi => absurd hi (by simp [dG,StmtX.zero]),o,⟨o,z,z,fun i hi => ?_,fun i hi => absurd hi (by simp [dG,StmtX.zero,QryX.zero]),fun i hi => absurd hi (by simp [dG,StmtX.zero,QryX.zero]),o⟩⟩
 have hi : i < 1 := hi
 obtain rfl : i = 0 := by omega
 exact ⟨h,z⟩
def fcS : Except Flt StmtX → Int × Int
 | .ok _ => (0,0)
 | .error x => (x.1,x.2)
theorem prX_ok {e : Ex} (h : (decide ((prX e).2 ≠ 0) || decide (4000 < ((prX e).1.length : Int))) = false) : e.may = true ∧ (prX e).1 = (e.txt 1).1 ∧ (e.txt 1).1.length ≤ 4000 ∧ (e.txt 1).2 ≤ 24 := by
 simp only [Bool.or_eq_false_iff,decide_eq_false_iff_not,Decidable.not_not] at h
 obtain ⟨h1,h2⟩ := h
 unfold prX at h1 h2 ⊢
 by_cases hm : e.may = true
 · rw [if_pos hm] at h1 h2 ⊢
   by_cases h3 : 24 < (e.txt 1).2
   · rw [if_pos h3] at h1; cases h1
   rw [if_neg h3] at h1 h2 ⊢
   by_cases h4 : 4096 < (e.txt 1).1.length
   · rw [if_pos h4] at h1; cases h1
   rw [if_neg h4] at h1 h2 ⊢
   exact ⟨hm,rfl,by simp only at h2; omega,by omega⟩
 · rw [if_neg hm] at h1; cases h1
theorem sel_one {x : Ex} (hm : x.may = true) (ho : x.ok) (hl : (x.txt 1).1.length ≤ 4000) (hd : (x.txt 1).2 ≤ 24) : cy (cI ++ (x.txt 1).1) = .ok (dG x) := by
 rcases oX hm ho 0 (by show (x.txt 1).1.length ≤ 4089; omega) with ⟨h,_⟩ | ⟨_,h⟩
 · exact h
 · omega
theorem sel_more {x : Ex} (hm : x.may = true) (ho : x.ok) (hl : (x.txt 1).1.length ≤ 4000) {m : Nat} (h20 : m ≤ 20) (h : decide ((fcS (cy (cI ++ br m (x.txt 1).1))).1 = 191) = false) : cy (cI ++ br m (x.txt 1).1) = .ok (dG x) := by
 rcases oX hm ho m (by rw [nK]; omega) with ⟨h,_⟩ | ⟨⟨a,h2⟩,_⟩
 · exact h
 · rw [h2] at h; exact absurd h (by simp [fcS])
section ops
variable {m : Bool} {cx : Cx} {fs : aR} {H : List Chunk} {Q : bT} {ops : Array Oper} {rest : List Oper} {g : Option (Nat × Bool)} {d : Nat} {ty : TypeId} {pos : String} {af : Array Edge}
theorem o_fieldV {x : Operand} {t : TypeId} {f : Nat} {fds : Array Field} {fd : Field} {vs : List Value} {v : Value} (hu : cx.P.underlying t = some (.struct fds)) (hf : fds[f]? = some fd) (hg : cu cx.P fd.type = some false) (hok : okS cx.n ops fs d g = true) (hx : ev fs x = some (.agg vs.toArray)) (hv : vs[fd.offset]? = some v)
  (k : TriX m cx ops ((d,v) :: fs) H rest Q) : TriX m cx ops fs H (⟨some d,.field t x f,ty,pos,af,g⟩ :: rest) Q :=
 aV v hok (fun a w ha _ => by simp [execOp,ha.eval hx,Instr.field,run_underlying hu,hf,asAgg,part,c7 hg,hv]) k
end ops
end Go.WK
namespace Go.WK
open Go.RowKit Go.ChangeShapes Go.WideShapes Go.ChangeAt Go.ChangeMaps
variable {H : Type} {enc : TypeId × Value → H}
theorem mm {P : Program} {w0 : World} {laid : List (String × DataW Unit)} (args : Array Value) (hf : w0.layFits P laid [] = true) (hi : w0.layIfaces P laid (w0.layVars P laid) = true) : laidMet P laid ((w0.layVars P laid).forCall (fun _ _ => 0) ⟨#[],args,[]⟩).memory := by
 have e1 : (laid.filter fun x => (laid.map (·.1)).contains x.1) = laid := List.filter_eq_self.2 fun x hx => List.contains_iff_mem.2 (List.mem_map.2 ⟨x,hx,rfl⟩)
 have e2 : (laid.filter fun x => !(laid.map (·.1)).contains x.1) = [] := List.filter_eq_nil_iff.2 fun x hx => by rw [List.contains_iff_mem.2 (List.mem_map.2 ⟨x,hx,rfl⟩)]; simp
 have h : laidMet P laid (w0.layVars P laid) := laidMet_layVars (w0 := w0) (laid.map (·.1)) [] (by rw [e1]) (by rw [e1]; exact hf) (by rw [e1]; exact hi) (by rw [e2]; exact LaidIn.none)
 exact h.of_heap (by simp [World.memory,World.forCall,Input.heap])
theorem lS {P : Program} {laid : List (String × DataW Unit)} {w : World} {x : String × DataW Unit} (h : laidMetH P laid w) (e : (laid.filter fun x => x.2.handleName?.isSome) = [x]) : laidMet P (laid.filter fun x => x.2.handleName?.isNone) w ∧ handlesMet P [x] w := by
 unfold laidMetH at h
 rw [e] at h
 exact h
theorem mn {P : Program} {laid l2 : List (String × DataW Unit)} {w : World} {x : String × DataW Unit} (e : (laid.filter fun x => x.2.handleName?.isSome) = [x]) (e2 : (laid.filter fun x => x.2.handleName?.isNone) = l2) (h1 : laidMet P l2 w) (h2 : handlesMet P [x] w) : laidMetH P laid w := by
 unfold laidMetH
 rw [e,e2]
 exact ⟨h1,h2⟩
end Go.WK
namespace Go.WK
open Go.RowKit Go.ChangeShapes Go.WideShapes Go.ChangeAt Go.ChangeMaps
section
variable {H : Type} {enc : TypeId × Value → H}
theorem jh {C : Checked} {os : Os} {f : FuncId} {fn : Func} {s : OpenSpec} {conds : List PathCond} {apart : Bool} {laid : List (String × DataW Unit)} (modest : Bool) (w0 : World) (args : Array Value) (hos : w0.os = os)
  (hsh : (w0.forCall (fun _ _ => 0) ⟨#[],args,[]⟩).Shaped C.prog)
  (hok : Input.okWideB C.prog (w0.forCall (fun _ _ => 0) ⟨#[],args,[]⟩) f ⟨#[],args,[]⟩ = true)
  (hrow : s.preRow enc C.prog fn conds apart laid (w0.forCall (fun _ _ => 0) ⟨#[],args,[]⟩).memory args) :
  ∃ (w : World) (tape : Tape) (i : Input),w.os = os ∧ (w.forCall tape i).Shaped C.prog ∧ i.vars = [] ∧ Input.okWide C.prog (w.forCall tape i) .any w.heap.size f i ∧
   s.preRow enc C.prog fn conds apart laid (w.forCall tape i).memory i.args ∧ ({ modest := modest } : Assume).holds C.prog (lone (Frame.enter C.prog f i.args .normal) [] (w.forCall tape i)) :=
 ⟨w0,fun _ _ => 0,⟨#[],args,[]⟩,hos,hsh,(Input.okWide_of_okWideB (base := 0) hok).1,(Input.okWide_of_okWideB hok).2,hrow,by
  simp only [Assume.holds]
  exact ⟨by simp,by simp,fun _ => Modest.zero,by simp,by simp⟩⟩
end
mutual
theorem ExC.k {w : World} : ∀ (e : Ex) (cs : List Value),ExC w e cs → ∃ bl,(∀ k ∈ bl,k < w.heap.size) ∧ ExK bl w e cs
 | .mk o v t n c as,cs,h => by
  obtain ⟨A,k,xs,h1,h2,h3,h4⟩ := h
  obtain ⟨bl,hb,hx⟩ := ExsC.k as xs h4
  by_cases hn : as = []
  · exact ⟨bl,hb,A,k,xs,h1,h2,h3,fun _ _ h => absurd hn h,hx⟩
  · have hl := h4.len
    have hp : 0 < as.length := List.length_pos_iff.2 hn
    obtain ⟨u,hu⟩ : ∃ u,xs[0]? = some u := ⟨_,List.getElem?_eq_getElem (by omega)⟩
    obtain ⟨a,rfl,hc⟩ := h3 0 u hu
    have ha : a.block < w.heap.size := World.block_lt_of_cell? w (a.add 0) hc
    refine ⟨a.block :: bl,fun k hk => ?_,some a,k,xs,h1,h2,h3,fun a' e _ => ?_,ExsK.mono (fun k hk => List.mem_cons_of_mem _ hk) as xs hx⟩
    · rcases List.mem_cons.1 hk with rfl | hk
      · exact ha
      · exact hb k hk
    · cases e; exact List.mem_cons_self
theorem ExsC.k {w : World} : ∀ (l : List Ex) (xs : List Value),ExsC w l xs → ∃ bl,(∀ k ∈ bl,k < w.heap.size) ∧ ExsK bl w l xs
 | [],xs,h => ⟨[],(by simp),h⟩
 | e :: es,xs,h => by
  obtain ⟨y,ys,h1,h2,h3⟩ := h
  obtain ⟨b1,k1,m1⟩ := ExC.k e y h2
  obtain ⟨b2,k2,m2⟩ := ExsC.k es ys h3
  refine ⟨b1 ++ b2,fun k hk => ?_,y,ys,h1,ExK.mono (fun k hk => List.mem_append_left _ hk) e y m1,ExsK.mono (fun k hk => List.mem_append_right _ hk) es ys m2⟩
  rcases List.mem_append.1 hk with hk | hk
  · exact k1 k hk
  · exact k2 k hk
end
section
variable {H : Type} {enc : TypeId × Value → H} {P : Program}
theorem open_exA {w : World} {r : Reach} {bb : Nat} {vv : Value} {d : DataW H} {p : List MemPlace} {e ev ti ts ta t0 t1 t2 : TypeId} {n0 n1 n2 n3 n4 n5 g0 g1 g2 g3 g4 g5 p0 p1 p2 p3 p4 p5 : String} {b0 b1 b2 b3 b4 b5 : Nat} {q0 q1 q2 q3 q4 q5 : Bool} {m0 m1 m2 x0 x1 x2 y0 y1 y2 : String} {z0 z1 z2 : Nat}
  (he : P.underlying e = some (.struct #[⟨n0,ti,0,q0,g0,p0,b0⟩,⟨n1,ev,1,q1,g1,p1,b1⟩,⟨n2,ts,4,q2,g2,p2,b2⟩,⟨n3,ts,5,q3,g3,p3,b3⟩,⟨n4,ti,6,q4,g4,p4,b4⟩,⟨n5,ta,7,q5,g5,p5,b5⟩]))
  (hev : P.underlying ev = some (.struct #[⟨m0,t0,0,false,x0,y0,z0⟩,⟨m1,t1,1,false,x1,y1,z1⟩,⟨m2,t2,2,false,x2,y2,z2⟩]))
  (hti : P.underlying ti = some (.int .i64)) (hts : P.underlying ts = some .string) (hta : P.underlying ta = some (.slice e))
  (h0 : P.underlying t0 = some (.int .i64)) (h1 : P.underlying t1 = some (.int .i64)) (h2 : P.underlying t2 = some .string)
  (cti : P.cellsOf ti = 1) (cts : P.cellsOf ts = 1) (cta : P.cellsOf ta = 1) (cev : P.cellsOf ev = 3) (c0 : P.cellsOf t0 = 1) (c1 : P.cellsOf t1 = 1) (c2 : P.cellsOf t2 = 1) (hc : P.cellsOf e = 8)
  (hv : Value.okWide P w r bb e vv) (h : DataW.Trod enc P w 0 (fun _ => true) true e vv d p) :
  ∃ (x : Ex) (y : SL) (bl : List Nat),vv = .agg (bH x y).toArray ∧ ExR bl w x y ∧ (∀ k ∈ bl,k < w.heap.size) ∧ x.ok ∧ Like x d := by
 obtain ⟨cs,rfl,_⟩ := okWide_struct he hv
 obtain ⟨fuel,hf⟩ := h
 have hf : DataW.trod enc P w 0 (fun _ => true) true fuel e cs.toList = some (d,p) := hf
 obtain ⟨x,k1,k2,k3⟩ := open_ex he hev hti hts hta h0 h1 h2 cti cts cta cev c0 c1 c2 hc _ fuel cs.toList d p (Nat.lt_succ_self _) hf
 obtain ⟨bl,hb,hk⟩ := ExC.k x _ k1
 obtain ⟨y,e1,e2⟩ := ex_R hk
 exact ⟨x,y,bl,by rw [← e1],e2,hb,k2,k3⟩
end
theorem op_len (o : Int) : (gv o).length ≤ 3 := by
 have key : ∀ (c : Prop) [Decidable c] (a b : List UInt8),a.length ≤ 3 → b.length ≤ 3 → (if c then a else b).length ≤ 3 := by intro c _ a b h1 h2; split <;> assumption
 unfold gv
 iterate 14 (refine key _ _ _ (by decide) ?_)
 decide
theorem prV_len (v : Val) (h : v.ok) : (prV v).1.length ≤ 2 * v.s.length + 20 := by
 have hi : (Lib.itoa v.n).length ≤ 20 := by
  have hn := h.2
  by_cases h0 : v.n < 0
  · rw [oB h0]
    have := qS (u := v.n.natAbs) (by omega)
    simp only [List.length_cons]; omega
  · rw [im h0]
    have := qS (u := v.n.toNat) (by omega)
    omega
 have hd := nq v.s
 unfold prV
 split
 · simp only
   split
   · omega
   · split
     · simp only [List.length_cons,List.length_append,List.length_nil]; omega
     · split
       · split <;> simp only [List.length_cons,List.length_nil] <;> omega
       · simp only [List.length_cons,List.length_nil]; omega
 · simp only [List.length_nil]; omega
theorem txt_len : ∀ (m : Nat) (e : Ex),e.size < m → e.may = true → e.ok → ∀ low : Int,(e.txt low).1.length ≤ 32 * e.size := by
 intro m
 induction m with
 | zero => intro e h; omega
 | succ m ih =>
  intro e hs hm ho low
  have core : e.core.1.length + 2 ≤ 32 * e.size := by
   have hv := view hm
   cases hv with
   | cst v hv h0 =>
    rw [c_cst]
    have := prV_len v ho.2.1
    have e1 : (cst v).size = v.s.length + 1 := by simp [cst,Ex.size,Exs.size]
    simp only; omega
   | nam t n hn ht =>
    rw [c_nam]
    have e1 : (Ex.mk 2 Val.zero t n 0 []).size = t.length + n.length + 1 := by simp [Ex.size,Exs.size,Val.zero]
    simp only
    split
    · omega
    · simp only [List.length_append,List.length_cons]; omega
   | un o a ho' ha =>
    have hsz := iP o a
    have ih := ih a (by omega) ha ho.2.2.2.1
    have hcs : o = 5 ∨ o = 4 ∨ o = 6 ∨ o = 7 := by omega
    rcases hcs with rfl | rfl | rfl | rfl
    · rw [c_not]; have := ih 3; simp only [List.length_append,List.length_cons,List.length_nil]; omega
    · rw [c_neg]; have := ih 7; simp only [List.length_append,List.length_cons]; split <;> simp only [List.length_cons,List.length_nil] <;> omega
    · rw [c_nul]; have := ih 5; simp only [List.length_append,List.length_cons,List.length_nil]; omega
    · rw [nD]; have := ih 5; simp only [List.length_append,List.length_cons,List.length_nil]; omega
   | bin o a b ho' ha hb =>
    have hsz := gD o a b
    have hs2 : (bin o a b).size = a.size + b.size + 1 := by simp [bin,Ex.size,Exs.size,Val.zero]
    have iha := ih a (by omega) ha ho.2.2.2.1 (if lvl o = 4 then 5 else lvl o)
    have ihb := ih b (by omega) hb ho.2.2.2.2.1 (lvl o + 1)
    have := op_len o
    rw [oR a b o ho'.1]
    simp only [List.length_append,List.length_cons,List.length_nil]; omega
  by_cases hlow : lvl e.o < low
  · rw [iw hlow]; simp only [List.length_append,List.length_cons,List.length_nil]; omega
  · rw [dX hlow]; omega
end Go.WK
