/- Parts of the proof, joined and made shorter by a program: Tree5, Tree6, Par3, Par4, Par5, Prn1, Prn2, Value5, Prn3, Back1, Back2, Prn4, Prn5, Prn6, Prn7, Wk13, Prn8, Prn9, Prn10, Back4, Prn11, Prn13, Prn14, Prn15, PLaid, PCard, POpen. -/
import Derived.Test.YtjbpkcbefmpfgaaGreatDoorX1
import Derived.Recover
import Derived.Lib.AppendStr
import Derived.Laws.Entries
import Derived.WideLaws
import Derived.KernelRfl
import Derived.LaidMore
import Derived.LaidHandle
import Derived.Lay
import Derived.HandedShaped
import Derived.Stop.LaidErr
import Derived.Lib.LaidTab
import Derived.Deep.DeepHandedRow
namespace Go.WK
open Go.RowKit
structure ColX where
 n : List UInt8
 k : Int
 b : Bool
structure ItemX where
 e : Ex
 s : List UInt8
structure SrcX where
 t : List UInt8
 s : List UInt8
 e : Ex
structure OrdX where
 n : List UInt8
 b : Bool
structure SetX where
 n : List UInt8
 e : Ex
structure QryX where
 di : Bool
 st : Bool
 items : List ItemX
 from_ : List SrcX
 wh : Ex
 ord : List OrdX
 li : Bool
 lim : Int
structure StmtX where
 k : Int
 t : List UInt8
 n : List UInt8
 cols : List ColX
 on : List (List UInt8)
 un : Bool
 rows : List (List Ex)
 sets : List SetX
 wh : Ex
 q : QryX
def QryX.zero : QryX := ⟨false,false,[],[],Ex.zero,[],false,0⟩
def StmtX.zero : StmtX := ⟨0,[],[],[],[],false,[],[],Ex.zero,QryX.zero⟩
abbrev PT (α : Type) := Except Flt (α × List Tok)
def W (s : List UInt8) (ts : List Tok) : Bool := atT 1 s ts
def whereB : List UInt8 := [119,104,101,114,101]
def asB : List UInt8 := [97,115]
def nE : List UInt8 := [102,114,111,109]
def pm : List UInt8 := [106,111,105,110]
def onB : List UInt8 := [111,110]
def mx : List UInt8 := [111,114,100,101,114]
def byB : List UInt8 := [98,121]
def jP : List UInt8 := [100,101,115,99]
def my : List UInt8 := [108,105,109,105,116]
def bJ : List UInt8 := [100,105,115,116,105,110,99,116]
def gZ : List UInt8 := [115,101,108,101,99,116]
def oc : List UInt8 := [99,114,101,97,116,101]
def tableB : List UInt8 := [116,97,98,108,101]
def dropB : List UInt8 := [100,114,111,112]
def indexB : List UInt8 := [105,110,100,101,120]
def od : List UInt8 := [105,110,115,101,114,116]
def intoB : List UInt8 := [105,110,116,111]
def valuesB : List UInt8 := [118,97,108,117,101,115]
def oe : List UInt8 := [100,101,108,101,116,101]
def og : List UInt8 := [117,112,100,97,116,101]
def setB : List UInt8 := [115,101,116]
def rT : List UInt8 := [117,110,105,113,117,101]
def beginB : List UInt8 := [98,101,103,105,110]
def commitB : List UInt8 := [99,111,109,109,105,116]
def th : List UInt8 := [114,111,108,108,98,97,99,107]
def intB : List UInt8 := [105,110,116]
def textB : List UInt8 := [116,101,120,116]
def boolB : List UInt8 := [98,111,111,108]
def eY (f d : Nat) (ts : List Tok) : PX Ex := if atT 1 whereB ts = true then exP f 1 d (ts.drop 1) else .ok (Ex.zero,ts)
def kC (ts : List Tok) : Bool :=
 if (hd ts).k = 2 ∨ (hd ts).k = 3 then true
 else if (hd ts).k = 4 then decide ((hd ts).t = [40]) || decide ((hd ts).t = [45])
 else if (hd ts).k = 1 then (if (hd ts).t = gj ∨ (hd ts).t = mo ∨ (hd ts).t = jZ ∨ (hd ts).t = kR then true else nmT ts)
 else false
def dV {τ : Type} (can : List Tok → Bool) (one : τ → List Tok → PT τ) : Nat → Nat → τ → List Tok → PT τ
 | 0,_,s,ts => .ok (s,ts)
 | f + 1,n,s,ts =>
  if n = 0 ∨ atT 4 [44] ts = true then
   (if can (if n = 0 then ts else ts.drop 1) = true then
    (if n = 16 then .error (3,(hd (if n = 0 then ts else ts.drop 1)).a) else match one s (if n = 0 then ts else ts.drop 1) with
     | .error x => .error x
     | .ok (s',us) => dV can one f (n + 1) s' us)
   else badT (if n = 0 then ts else ts.drop 1))
  else .ok (s,ts)
def asP (ts : List Tok) : PT (List UInt8) := if atT 1 asB ts = true then cH (ts.drop 1) else .ok ([],ts)
def hD (f d : Nat) (l : List ItemX) (ts : List Tok) : PT (List ItemX) := match exP f 1 d ts with
 | .error x => .error x
 | .ok (e,us) => match asP us with
  | .error x => .error x
  | .ok (n,vs) => .ok (l ++ [⟨e,n⟩],vs)
def gG (ts : List Tok) : PT (List UInt8 × List UInt8) := match cH ts with
 | .error x => .error x
 | .ok (t,us) => match asP us with
  | .error x => .error x
  | .ok (n,vs) => .ok ((t,n),vs)
def mz (l : List OrdX) (ts : List Tok) : PT (List OrdX) := match cH ts with
 | .error x => .error x
 | .ok (n,us) => .ok (l ++ [⟨n,atT 1 jP us⟩],if atT 1 jP us = true then us.drop 1 else us)
def dD (s : List UInt8) (ts : List Tok) : Except Flt (List Tok) := if atT 1 s ts = true then .ok (ts.drop 1) else .error (190,(hd ts).a)
def qC (s : List UInt8) (ts : List Tok) : Except Flt (List Tok) := if atT 4 s ts = true then .ok (ts.drop 1) else .error (190,(hd ts).a)
def gk (f d : Nat) (l : List SrcX) (ts : List Tok) : PT (List SrcX) :=
 if nmT ts = true ∧ l.length = 4 then .error (3,(hd ts).a) else match gG ts with
 | .error x => .error x
 | .ok ((t,s),us) => match dD onB us with
  | .error x => .error x
  | .ok vs => match exP f 1 d vs with
   | .error x => .error x
   | .ok (e,zs) => .ok (l ++ [⟨t,s,e⟩],zs)
def eZ (f d : Nat) : Nat → List SrcX → List Tok → PT (List SrcX)
 | 0,l,ts => .ok (l,ts)
 | k + 1,l,ts => if atT 1 pm ts = true then (match gk f d l (ts.drop 1) with | .error x => .error x | .ok (l',us) => eZ f d k l' us) else .ok (l,ts)
def fJ (f d : Nat) (ts : List Tok) : PT (List SrcX) := if atT 1 nE ts = true then (match gG (ts.drop 1) with | .error x => .error x | .ok ((t,s),us) => eZ f d 5 [⟨t,s,Ex.zero⟩] us) else .ok ([],ts)
def hG (f d : Nat) (ts : List Tok) : PT (List ItemX) := if atT 4 [42] ts = true then .ok ([],ts.drop 1) else dV kC (hD f d) 17 0 [] ts
def fa (ts : List Tok) : PT (List OrdX) := if atT 1 mx ts = true then (match dD byB (ts.drop 1) with | .error x => .error x | .ok us => dV nmT mz 17 0 [] us) else .ok ([],ts)
def fW (ts : List Tok) : PT (Bool × Int) := if atT 1 my ts = true then (if (hd (ts.drop 1)).k = 2 then .ok ((true,jH (hd (ts.drop 1)).t),(ts.drop 1).drop 1) else badT (ts.drop 1)) else .ok ((false,0),ts)
def cF (ts : List Tok) : List Tok := if atT 1 bJ ts = true then ts.drop 1 else ts
def dh (f d : Nat) (ts : List Tok) : PT QryX := match hG f d (cF ts) with
 | .error x => .error x
 | .ok (its,t1) => match fJ f d t1 with
  | .error x => .error x
  | .ok (fr,t2) => match eY f d t2 with
   | .error x => .error x
   | .ok (wh,t3) => match fa t3 with
    | .error x => .error x
    | .ok (os,t4) => match fW t4 with
     | .error x => .error x
     | .ok ((li,lim),t5) => .ok (⟨atT 1 bJ ts,atT 4 [42] (cF ts),its,fr,wh,os,li,lim⟩,t5)
def oh (ts : List Tok) : Int := if atT 1 intB ts = true then 1 else if atT 1 textB ts = true then 2 else if atT 1 boolB ts = true then 3 else 0
def colP (l : List ColX) (ts : List Tok) : PT (List ColX) := match cH ts with
 | .error x => .error x
 | .ok (n,us) => if oh us = 0 then badT us else
  if atT 1 kR (us.drop 1) = true then (match dD gj ((us.drop 1).drop 1) with | .error x => .error x | .ok vs => .ok (l ++ [⟨n,oh us,true⟩],vs)) else .ok (l ++ [⟨n,oh us,false⟩],us.drop 1)
def onP (l : List (List UInt8)) (ts : List Tok) : PT (List (List UInt8)) := match cH ts with
 | .error x => .error x
 | .ok (n,us) => .ok (l ++ [n],us)
def setP (f d : Nat) (l : List SetX) (ts : List Tok) : PT (List SetX) := match cH ts with
 | .error x => .error x
 | .ok (n,us) => match qC [61] us with
  | .error x => .error x
  | .ok vs => match exP f 1 d vs with
   | .error x => .error x
   | .ok (e,zs) => .ok (l ++ [⟨n,e⟩],zs)
def exsP (f d : Nat) (l : List Ex) (ts : List Tok) : PT (List Ex) := match exP f 1 d ts with
 | .error x => .error x
 | .ok (e,us) => .ok (l ++ [e],us)
def inP {τ : Type} (can : List Tok → Bool) (one : List τ → List Tok → PT (List τ)) (ts : List Tok) : PT (List τ) := match qC [40] ts with
 | .error x => .error x
 | .ok us => match dV can one 17 0 [] us with
  | .error x => .error x
  | .ok (l,vs) => match qC [41] vs with
   | .error x => .error x
   | .ok zs => .ok (l,zs)
def rowsP (f d : Nat) : Nat → List (List Ex) → List Tok → PT (List (List Ex))
 | 0,l,ts => .ok (l,ts)
 | k + 1,l,ts => match inP kC (exsP f d) ts with
  | .error x => .error x
  | .ok (r,us) => if atT 4 [44] us = true then rowsP f d k (l ++ [r]) (us.drop 1) else .ok (l ++ [r],us)
def createP (ts : List Tok) : PT StmtX :=
 if atT 1 tableB ts = true then (match cH (ts.drop 1) with
  | .error x => .error x
  | .ok (t,us) => match inP nmT colP us with
   | .error x => .error x
   | .ok (l,vs) => .ok ({ StmtX.zero with k := 1,t := t,cols := l },vs))
 else match dD indexB (if atT 1 rT ts = true then ts.drop 1 else ts) with
  | .error x => .error x
  | .ok us => match cH us with
   | .error x => .error x
   | .ok (n,vs) => match dD onB vs with
    | .error x => .error x
    | .ok zs => match cH zs with
     | .error x => .error x
     | .ok (t,xs) => match inP nmT onP xs with
      | .error x => .error x
      | .ok (l,ys) => .ok ({ StmtX.zero with k := 3,un := atT 1 rT ts,n := n,t := t,on := l },ys)
def dropP (ts : List Tok) : PT StmtX :=
 if atT 1 tableB ts = true then (match cH (ts.drop 1) with | .error x => .error x | .ok (t,us) => .ok ({ StmtX.zero with k := 2,t := t },us))
 else match dD indexB ts with
  | .error x => .error x
  | .ok us => match cH us with | .error x => .error x | .ok (n,vs) => .ok ({ StmtX.zero with k := 4,n := n },vs)
def insertP (f d : Nat) (ts : List Tok) : PT StmtX := match dD intoB ts with
 | .error x => .error x
 | .ok us => match cH us with
  | .error x => .error x
  | .ok (t,vs) => match dD valuesB vs with
   | .error x => .error x
   | .ok zs => match rowsP f d zs.length [] zs with
    | .error x => .error x
    | .ok (l,xs) => .ok ({ StmtX.zero with k := 5,t := t,rows := l },xs)
def deleteP (f d : Nat) (ts : List Tok) : PT StmtX := match dD nE ts with
 | .error x => .error x
 | .ok us => match cH us with
  | .error x => .error x
  | .ok (t,vs) => match eY f d vs with
   | .error x => .error x
   | .ok (e,zs) => .ok ({ StmtX.zero with k := 6,t := t,wh := e },zs)
def updateP (f d : Nat) (ts : List Tok) : PT StmtX := match cH ts with
 | .error x => .error x
 | .ok (t,us) => match dD setB us with
  | .error x => .error x
  | .ok vs => match dV nmT (setP f d) 17 0 [] vs with
   | .error x => .error x
   | .ok (l,zs) => match eY f d zs with
    | .error x => .error x
    | .ok (e,xs) => .ok ({ StmtX.zero with k := 7,t := t,sets := l,wh := e },xs)
def iN (f d : Nat) (ts : List Tok) : PT StmtX := match dh f d ts with
 | .error x => .error x
 | .ok (q,us) => .ok ({ StmtX.zero with k := 8,q := q },us)
def lB (f d : Nat) (ts : List Tok) : PT StmtX :=
 if atT 1 oc ts = true then createP (ts.drop 1)
 else if atT 1 dropB ts = true then dropP (ts.drop 1)
 else if atT 1 od ts = true then insertP f d (ts.drop 1)
 else if atT 1 oe ts = true then deleteP f d (ts.drop 1)
 else if atT 1 og ts = true then updateP f d (ts.drop 1)
 else if atT 1 gZ ts = true then iN f d (ts.drop 1)
 else if atT 1 beginB ts = true then .ok ({ StmtX.zero with k := 9 },ts.drop 1)
 else if atT 1 commitB ts = true then .ok ({ StmtX.zero with k := 10 },ts.drop 1)
 else if atT 1 th ts = true then .ok ({ StmtX.zero with k := 11 },ts.drop 1)
 else badT ts
def qD (f : Nat) (ts : List Tok) : Except Flt StmtX := match lB f 0 ts with
 | .error x => .error x
 | .ok (s,us) => if (hd (if atT 4 [59] us = true then us.drop 1 else us)).k = 5 then .ok s else .error (190,(hd (if atT 4 [59] us = true then us.drop 1 else us)).a)
def eJ (s : List UInt8) : Except Flt StmtX := match gB s with
 | .error x => .error x
 | .ok ts => qD (8 * ts.length + 8) ts
end Go.WK
namespace Go.WK
open Go.RowKit
structure Kd (α : Type) where
 z : Nat
 pos : 0 < z
 rel : List Nat → World → α → List Value → Prop
 len : ∀ {bl w a cs},rel bl w a cs → cs.length = z
 one : ∀ {bl w a cs},rel bl w a cs → allOne cs = true
 stab : ∀ {bl w w' a cs},(∀ k ∈ bl,w'.heap[k]? = w.heap[k]?) → rel bl w a cs → rel bl w' a cs
 mono : ∀ {bl bl' w a cs},(∀ k ∈ bl,k ∈ bl') → rel bl w a cs → rel bl' w a cs
section
variable {α : Type} (K : Kd α)
def Kd.seq (bl : List Nat) (w : World) : List α → List Value → Prop
 | [],xs => xs = []
 | a :: l,xs => ∃ y ys,xs = y ++ ys ∧ K.rel bl w a y ∧ Kd.seq bl w l ys
theorem Kd.seq_len {bl : List Nat} {w : World} : ∀ {l : List α} {xs : List Value},K.seq bl w l xs → xs.length = l.length * K.z
 | [],_,h => by have h : _ = [] := h; rw [h]; simp
 | a :: l,_,h => by
  obtain ⟨y,ys,rfl,h1,h2⟩ := h
  rw [List.length_append,K.len h1,Kd.seq_len h2,List.length_cons,Nat.add_mul,Nat.one_mul,Nat.add_comm]
theorem eA (a b : List Value) : allOne (a ++ b) = (allOne a && allOne b) := by
 induction a with
 | nil => rfl
 | cons x a ih => simp [allOne,ih,Bool.and_assoc]
theorem Kd.seq_stab {bl : List Nat} {w w' : World} (hs : ∀ k ∈ bl,w'.heap[k]? = w.heap[k]?) : ∀ {l : List α} {xs : List Value},K.seq bl w l xs → K.seq bl w' l xs
 | [],_,h => h
 | a :: l,_,h => by
  obtain ⟨y,ys,h0,h1,h2⟩ := h
  exact ⟨y,ys,h0,K.stab hs h1,Kd.seq_stab hs h2⟩
theorem Kd.seq_mono {bl bl' : List Nat} {w : World} (hs : ∀ k ∈ bl,k ∈ bl') : ∀ {l : List α} {xs : List Value},K.seq bl w l xs → K.seq bl' w l xs
 | [],_,h => h
 | a :: l,_,h => by
  obtain ⟨y,ys,h0,h1,h2⟩ := h
  exact ⟨y,ys,h0,K.mono hs h1,Kd.seq_mono hs h2⟩
theorem Kd.seq_app {bl : List Nat} {w : World} : ∀ {l m : List α} {xs ys : List Value},K.seq bl w l xs → K.seq bl w m ys → K.seq bl w (l ++ m) (xs ++ ys)
 | [],_,xs,_,h,k => by have h : xs = [] := h; subst h; exact k
 | a :: l,m,_,ys,h,k => by
  obtain ⟨y,zs,rfl,h1,h2⟩ := h
  exact ⟨y,zs ++ ys,by simp,h1,Kd.seq_app h2 k⟩
theorem Kd.seq_at {bl : List Nat} {w : World} (zero : α) : ∀ {l : List α} {xs : List Value} (i : Nat),K.seq bl w l xs → i < l.length → ∃ cs,(xs.drop (i * K.z)).take K.z = cs ∧ K.rel bl w (l.getD i zero) cs
 | [],_,i,_,hi => by simp at hi
 | a :: l,_,i,h,hi => by
  obtain ⟨y,ys,rfl,h2,h3⟩ := h
  have hy := K.len h2
  cases i with
  | zero =>
   refine ⟨y, ?_,h2⟩
   rw [Nat.zero_mul,List.drop_zero]
   exact List.take_left' hy
  | succ i =>
   obtain ⟨cs,k1,k2⟩ := Kd.seq_at zero i h3 (by simpa using hi)
   refine ⟨cs, ?_,by simpa using k2⟩
   rw [show (i + 1) * K.z = y.length + i * K.z by rw [hy,Nat.add_mul]; omega,List.drop_length_add_append]
   exact k1
def Kd.sl (bl : List Nat) (w : World) (l : List α) (v : Value) : Prop := ∃ (A : Option Addr) (k : Nat) (xs : List Value),v = .slice A l.length k ∧ l.length ≤ k ∧ Rd w A xs ∧ (∀ a,A = some a → l ≠ [] → a.block ∈ bl) ∧ K.seq bl w l xs
theorem Kd.sl_stab {bl : List Nat} {w w' : World} (hs : ∀ k ∈ bl,w'.heap[k]? = w.heap[k]?) {l : List α} {v : Value} (h : K.sl bl w l v) : K.sl bl w' l v := by
 obtain ⟨A,k,xs,h1,h2,h3,h4,h5⟩ := h
 refine ⟨A,k,xs,h1,h2,h3.same (fun a ha hne => hs _ (h4 a ha (fun e => hne ?_))),h4,K.seq_stab hs h5⟩
 rw [e] at h5
 exact h5
theorem Kd.sl_mono {bl bl' : List Nat} {w : World} (hs : ∀ k ∈ bl,k ∈ bl') {l : List α} {v : Value} (h : K.sl bl w l v) : K.sl bl' w l v := by
 obtain ⟨A,k,xs,h1,h2,h3,h4,h5⟩ := h
 exact ⟨A,k,xs,h1,h2,h3,fun a ha hne => hs _ (h4 a ha hne),K.seq_mono hs h5⟩
theorem Kd.sl_nil (bl : List Nat) (w : World) : K.sl bl w [] (.slice none 0 0) := ⟨none,0,[],rfl,Nat.le_refl _,Rd.nil _ _,(fun _ h => by cases h),rfl⟩
theorem lt_stab {bl : List Nat} {w w' : World} (h : ∀ k ∈ bl,k < w.heap.size) (hs : ∀ k,k ∈ bl → w'.heap[k]? = w.heap[k]?) : ∀ k ∈ bl,k < w'.heap.size := fun k hk => by
 have h1 := h k hk
 have h2 := hs k hk
 rcases Nat.lt_or_ge k w'.heap.size with h3 | h3
 · exact h3
 · rw [Array.getElem?_eq_none h3,Array.getElem?_eq_getElem h1] at h2; cases h2
def ofC (bl : List Nat) (φ : World → Prop) (st : ∀ w w',(∀ k ∈ bl,w'.heap[k]? = w.heap[k]?) → φ w → φ w') : Chunk where
 fp k := k ∈ bl
 holds w := φ w ∧ ∀ k ∈ bl,k < w.heap.size
 lt _ k h hk := h.2 k hk
 stab w w' h hs := ⟨st w w' hs h.1,lt_stab h.2 hs⟩
def fK (bl : List Nat) (l : List α) (xs : List Value) : Chunk := ofC bl (fun w => K.seq bl w l xs) (fun _ _ hs h => K.seq_stab hs h)
end
theorem Sat.nilSeq {α : Type} (K : Kd α) {cx : Cx} {H : List Chunk} {w : World} (h : Sat cx H w) : Sat cx (fK K [] [] [] :: H) w :=
 h.fuse (l := []) _ (fun _ => ⟨rfl,fun k hk => by cases hk⟩) (fun k hk => by cases hk)
theorem Sat.moreSeq {α : Type} (K : Kd α) {cx : Cx} {H : List Chunk} {w : World} {bl bm : List Nat} {l : List α} {xs cs ys : List Value} {a : α} {e : Ex} (h : Sat cx (fK K bl l xs :: gi bm e cs :: H) w) (hr : ∀ w,ExK bm w e cs → K.rel bm w a ys) : Sat cx (fK K (bl ++ bm) (l ++ [a]) (xs ++ ys) :: H) w := by
 refine Sat.fuse (l := [_,_]) h _ (fun hh => ?_) (fun j hj => ?_)
 · have h1 := hh _ List.mem_cons_self
   have h2 := hh _ (List.mem_cons_of_mem _ List.mem_cons_self)
   refine ⟨K.seq_app (K.seq_mono (fun k hk => List.mem_append_left _ hk) h1.1) ⟨ys,[],by simp,K.mono (fun k hk => List.mem_append_right _ hk) (hr w h2.1),rfl⟩,fun j hj => ?_⟩
   rcases List.mem_append.1 hj with hj | hj
   · exact h1.2 j hj
   · exact h2.2 j hj
 · rcases List.mem_append.1 hj with hj | hj
   · exact ⟨_,List.mem_cons_self,hj⟩
   · exact ⟨_,List.mem_cons_of_mem _ List.mem_cons_self,hj⟩
theorem Sat.moreSeq0 {α : Type} (K : Kd α) {cx : Cx} {H : List Chunk} {w : World} {bl : List Nat} {l : List α} {xs ys : List Value} {a : α} (h : Sat cx (fK K bl l xs :: H) w) (hr : ∀ w,K.rel bl w a ys) : Sat cx (fK K bl (l ++ [a]) (xs ++ ys) :: H) w := by
 refine Sat.fuse (l := [_]) h _ (fun hh => ?_) (fun j hj => ⟨_,List.mem_cons_self,hj⟩)
 have h1 := hh _ List.mem_cons_self
 exact ⟨K.seq_app h1.1 ⟨ys,[],by simp,hr w,rfl⟩,h1.2⟩
theorem ExK.len {bl : List Nat} {w : World} {e : Ex} {cs : List Value} (h : ExK bl w e cs) : cs.length = 8 := (ExK.c e cs h).len
theorem ExK.ones {bl : List Nat} {w : World} {e : Ex} {cs : List Value} (h : ExK bl w e cs) : allOne cs = true := by
 cases e with
 | mk o v t n c as => obtain ⟨A,k,xs,rfl,_⟩ := h; rfl
def exKd : Kd Ex := ⟨8,by decide,ExK,ExK.len,ExK.ones,fun hs h => ExK.stab hs _ _ h,fun hs h => ExK.mono hs _ _ h⟩
def itemKd : Kd ItemX := ⟨9,by decide,fun bl w a ys => ∃ cs,ys = cs ++ [.string (B a.s)] ∧ ExK bl w a.e cs,fun ⟨_,h1,h2⟩ => by rw [h1,List.length_append,h2.len]; rfl,fun ⟨_,h1,h2⟩ => by rw [h1,eA,h2.ones]; rfl,
 fun hs ⟨cs,h1,h2⟩ => ⟨cs,h1,ExK.stab hs _ _ h2⟩,fun hs ⟨cs,h1,h2⟩ => ⟨cs,h1,ExK.mono hs _ _ h2⟩⟩
def srcKd : Kd SrcX := ⟨10,by decide,fun bl w a ys => ∃ cs,ys = [.string (B a.t),.string (B a.s)] ++ cs ∧ ExK bl w a.e cs,fun ⟨_,h1,h2⟩ => by rw [h1,List.length_append,h2.len]; rfl,fun ⟨_,h1,h2⟩ => by rw [h1,eA,h2.ones]; rfl,
 fun hs ⟨cs,h1,h2⟩ => ⟨cs,h1,ExK.stab hs _ _ h2⟩,fun hs ⟨cs,h1,h2⟩ => ⟨cs,h1,ExK.mono hs _ _ h2⟩⟩
def setKd : Kd SetX := ⟨9,by decide,fun bl w a ys => ∃ cs,ys = [.string (B a.n)] ++ cs ∧ ExK bl w a.e cs,fun ⟨_,h1,h2⟩ => by rw [h1,List.length_append,h2.len]; rfl,fun ⟨_,h1,h2⟩ => by rw [h1,eA,h2.ones]; rfl,
 fun hs ⟨cs,h1,h2⟩ => ⟨cs,h1,ExK.stab hs _ _ h2⟩,fun hs ⟨cs,h1,h2⟩ => ⟨cs,h1,ExK.mono hs _ _ h2⟩⟩
def ColX.cs (a : ColX) : List Value := [.string (B a.n),.int .i64 a.k,.bool a.b]
def OrdX.cs (a : OrdX) : List Value := [.string (B a.n),.bool a.b]
def qE {α : Type} (z : Nat) (hz : 0 < z) (f : α → List Value) (h1 : ∀ a,(f a).length = z) (h2 : ∀ a,allOne (f a) = true) : Kd α :=
 ⟨z,hz,fun _ _ a ys => ys = f a,fun h => by rw [h,h1],fun h => by rw [h,h2],fun _ h => h,fun _ h => h⟩
def colKd : Kd ColX := qE 3 (by decide) ColX.cs (fun _ => rfl) (fun _ => rfl)
def ordKd : Kd OrdX := qE 2 (by decide) OrdX.cs (fun _ => rfl) (fun _ => rfl)
def nameKd : Kd (List UInt8) := qE 1 (by decide) (fun s => [.string (B s)]) (fun _ => rfl) (fun _ => rfl)
def rowKd : Kd (List Ex) := ⟨1,by decide,fun bl w l ys => ∃ v,ys = [v] ∧ exKd.sl bl w l v,fun ⟨_,h1,_⟩ => by rw [h1]; rfl,fun ⟨_,h1,h2⟩ => by obtain ⟨A,k,xs,rfl,_⟩ := h2; rw [h1]; rfl,
 fun hs ⟨v,h1,h2⟩ => ⟨v,h1,exKd.sl_stab hs h2⟩,fun hs ⟨v,h1,h2⟩ => ⟨v,h1,exKd.sl_mono hs h2⟩⟩
structure QK (bl : List Nat) (w : World) (q : QryX) (vI vF vO : Value) (ec : List Value) : Prop where
 items : itemKd.sl bl w q.items vI
 from_ : srcKd.sl bl w q.from_ vF
 wh : ExK bl w q.wh ec
 ord : ordKd.sl bl w q.ord vO
def qCs (q : QryX) (vI vF vO : Value) (ec : List Value) : List Value := [.bool q.di,.bool q.st,vI,vF] ++ (ec ++ [vO,.bool q.li,.int .i64 q.lim])
structure SK_ (bl : List Nat) (w : World) (s : StmtX) (vC vN vR vS vI vF vO : Value) (ec fc : List Value) : Prop where
 cols : colKd.sl bl w s.cols vC
 on : nameKd.sl bl w s.on vN
 rows : rowKd.sl bl w s.rows vR
 sets : setKd.sl bl w s.sets vS
 wh : ExK bl w s.wh ec
 q : QK bl w s.q vI vF vO fc
def sCs (s : StmtX) (vC vN vR vS vI vF vO : Value) (ec fc : List Value) : List Value := [.int .i64 s.k,.string (B s.t),.string (B s.n),vC,vN,.bool s.un,vR,vS] ++ (ec ++ qCs s.q vI vF vO fc)
def StK (bl : List Nat) (w : World) (s : StmtX) (cs : List Value) : Prop := ∃ vC vN vR vS vI vF vO ec fc,cs = sCs s vC vN vR vS vI vF vO ec fc ∧ SK_ bl w s vC vN vR vS vI vF vO ec fc
theorem QK.stab {bl : List Nat} {w w' : World} (hs : ∀ k ∈ bl,w'.heap[k]? = w.heap[k]?) {q : QryX} {vI vF vO : Value} {ec : List Value} (h : QK bl w q vI vF vO ec) : QK bl w' q vI vF vO ec :=
 ⟨itemKd.sl_stab hs h.items,srcKd.sl_stab hs h.from_,ExK.stab hs _ _ h.wh,ordKd.sl_stab hs h.ord⟩
theorem SK_.stab {bl : List Nat} {w w' : World} (hs : ∀ k ∈ bl,w'.heap[k]? = w.heap[k]?) {s : StmtX} {vC vN vR vS vI vF vO : Value} {ec fc : List Value} (h : SK_ bl w s vC vN vR vS vI vF vO ec fc) : SK_ bl w' s vC vN vR vS vI vF vO ec fc :=
 ⟨colKd.sl_stab hs h.cols,nameKd.sl_stab hs h.on,rowKd.sl_stab hs h.rows,setKd.sl_stab hs h.sets,ExK.stab hs _ _ h.wh,h.q.stab hs⟩
theorem StK.stab {bl : List Nat} {w w' : World} (hs : ∀ k ∈ bl,w'.heap[k]? = w.heap[k]?) {s : StmtX} {cs : List Value} (h : StK bl w s cs) : StK bl w' s cs := by
 obtain ⟨vC,vN,vR,vS,vI,vF,vO,ec,fc,h1,h2⟩ := h
 exact ⟨vC,vN,vR,vS,vI,vF,vO,ec,fc,h1,h2.stab hs⟩
def stC (bl : List Nat) (s : StmtX) (cs : List Value) : Chunk := ofC bl (fun w => StK bl w s cs) (fun _ _ hs h => h.stab hs)
def qryC (bl : List Nat) (q : QryX) (vI vF vO : Value) (ec : List Value) : Chunk := ofC bl (fun w => QK bl w q vI vF vO ec) (fun _ _ hs h => h.stab hs)
theorem kS {α : Type} (K : Kd α) {w : World} {A : Option Addr} {c e n : Nat} {bl : List Nat} {l : List α} {xs : List Value} (h : (row (.slice A n c) e K.z n xs).holds w) (hn : n = l.length) (hs : K.seq bl w l xs) : K.sl (A.toList.map (·.block) ++ bl) w l (.slice A n c) := by
 subst hn
 have ho : w.ownsRow 0 e K.z (.slice A l.length c) l.length xs := h
 have hlc : l.length ≤ c := by
  rcases ho.2 with ⟨h3,h4⟩ | ⟨g,cap,cur,hv,_,_,hcap,_⟩
  · injection h3 with _ _ h5; omega
  · injection hv with _ _ h5; omega
 exact ⟨A,c,xs,rfl,hlc,qv h,fun a ha _ => by subst ha; simp,K.seq_mono (fun k hk => List.mem_append_right _ hk) hs⟩
theorem jk {A : Option Addr} {n c e z : Nat} {m : Nat} {xs : List Value} {k : Nat} (hk : k ∈ A.toList.map (·.block)) : (row (.slice A n c) e z m xs).fp k := by
 cases A with
 | none => simp at hk
 | some a => simp at hk; subst hk; rfl
end Go.WK
namespace Go.WK
open Go.RowKit
theorem PEnv.chgL {w w' : World} {pb : Nat} {a : Addr} {k0 : Nat} {T : List Tok} {L : List Nat} (h : PEnv w pb a k0 T) (hc : Chg L w w') (hn : a.block ∉ L) : PEnv w' pb a k0 T :=
 ⟨h.rd.chg hc (fun a' ha => by cases ha; exact hn),h.ne,h.len,h.bnd,h.ok⟩
theorem At.subL {w w1 : World} {pb : Nat} {a : Addr} {k0 : Nat} {T ts us : List Tok} {d d' : Nat} {L : List Nat} (h : At w pb a k0 T ts d) (hc : Chg L w w1) (hn : a.block ∉ L) (hu : Cuts ts us) (hd' : d' ≤ 24) (hs : Sat ⟨default,0,[],w1,[pb]⟩ [pC pb a k0 T us d'] w1) : At w1 pb a k0 T us d' :=
 ⟨h.env.chgL hc hn,hu.1.trans h.suf,hu.2,hd',hs⟩
theorem PEnv.rdsL {w : World} {pb : Nat} {a : Addr} {k0 : Nat} {T : List Tok} {L : List Nat} (h : PEnv w pb a k0 T) (hn : a.block ∉ L) (us : List Tok) (hu : us <:+ T) (cx : Cx) (H : List Chunk) (e1 : cx.w0 = w) (e2 : cx.lent = L) : RdS cx H (some (a.add ((T.length - us.length) * 3))) (toksV us) := by
 refine RdS.lent ?_ (fun a' ha => ?_)
 · rw [e1]
   intro j u hj
   obtain ⟨a1,ha,hc⟩ := h.rd ((T.length - us.length) * 3 + j) u (by rw [← List.getElem?_drop,iI,mt hu]; exact hj)
   cases ha
   exact ⟨_,rfl,by rw [gU]; exact hc⟩
 · cases ha
   rw [e2,ip]; exact hn
theorem At.lt {w : World} {pb : Nat} {a : Addr} {k0 : Nat} {T ts : List Tok} {d : Nat} (h : At w pb a k0 T ts d) : a.block < w.heap.size := by
 have hT : 0 < T.length := Nat.lt_of_lt_of_le h.good.ne h.suf.length_le
 have h0 : ∃ u,(toksV T)[0]? = some u := by
  cases T with
  | nil => simp at hT
  | cons t l => exact ⟨_,rfl⟩
 obtain ⟨u,hu⟩ := h0
 obtain ⟨a',ha,hc⟩ := h.env.rd 0 u hu
 cases ha
 have := World.block_lt_of_cell? w _ hc
 rwa [ip] at this
theorem kT {pb t : Nat} {cs : List Value} {D : List Chunk} {L : List Nat} (h : ∀ c ∈ D,∀ k,c.fp k → k ∈ L) : ∀ c ∈ (box pb t cs :: D),∀ k,c.fp k → k ∈ pb :: L := fun c hc k hk => by
 rcases List.mem_cons.1 hc with rfl | hc
 · have : k = pb := hk
   rw [this]; exact List.mem_cons_self
 · exact List.mem_cons_of_mem _ (h c hc k hk)
theorem kU {pb t : Nat} {cs : List Value} {D : List Chunk} {L : List Nat} (h : ∀ k ∈ L, ∃ c ∈ D,c.fp k) : ∀ k ∈ pb :: L, ∃ c ∈ (box pb t cs :: D),c.fp k := fun k hk => by
 rcases List.mem_cons.1 hk with rfl | hk
 · exact ⟨_,List.mem_cons_self,rfl⟩
 · obtain ⟨c,hc,hf⟩ := h k hk
   exact ⟨c,List.mem_cons_of_mem _ hc,hf⟩
theorem notin_L {cx : Cx} {D : List Chunk} {L : List Nat} {w1 : World} {c : Chunk} {b : Nat} (h : Sat cx (c :: D) w1) (hl : ∀ k ∈ L, ∃ c ∈ D,c.fp k) (h1 : b < cx.w0.heap.size) (h2 : b ∉ cx.lent) : b ∉ L := fun hb => by
 obtain ⟨e,he,hf⟩ := hl b hb
 rcases h.fresh e (List.mem_cons_of_mem _ he) b hf with h3 | h3
 · omega
 · exact h2 h3
theorem kV {bl : List Nat} {e : Ex} {cs : List Value} {w : World} (h : (gi bl e cs).holds w) : ∃ (o k n c : Int) (s t m : ByteArray) (A : Option Addr) (l cap : Nat),cs = [.int .i64 o,.int .i64 k,.int .i64 n,.string s,.string t,.string m,.int .i64 c,.slice A l cap] := by
 obtain ⟨h,_⟩ := h
 cases e with
 | mk o v t n c as =>
  obtain ⟨A,k,xs,rfl,_⟩ := h
  exact ⟨_,_,_,_,_,_,_,_,_,_,rfl⟩
def iX {τ : Type} (can : List Tok → Bool) (one : τ → List Tok → PT τ) (f n : Nat) (s : τ) (us : List Tok) : PT τ :=
 if can us = true then (if n = 16 then .error (3,(hd us).a) else match one s us with | .error x => .error x | .ok (s',vs) => dV can one f (n + 1) s' vs) else badT us
theorem listP_0 {τ : Type} (can : List Tok → Bool) (one : τ → List Tok → PT τ) (f : Nat) (s : τ) (ts : List Tok) : dV can one (f + 1) 0 s ts = iX can one f 0 s ts := by
 rw [dV,if_pos (.inl rfl),if_pos rfl]; rfl
theorem listP_s {τ : Type} (can : List Tok → Bool) (one : τ → List Tok → PT τ) (f n : Nat) (s : τ) (ts : List Tok) (hn : n ≠ 0) (h : atT 4 [44] ts = true) : dV can one (f + 1) n s ts = iX can one f n s (ts.drop 1) := by
 rw [dV,if_pos (.inr h),if_neg hn]; rfl
theorem listP_e {τ : Type} (can : List Tok → Bool) (one : τ → List Tok → PT τ) (f n : Nat) (s : τ) (ts : List Tok) (hn : n ≠ 0) (h : atT 4 [44] ts = false) : dV can one (f + 1) n s ts = .ok (s,ts) := by
 rw [dV,if_neg (by rintro (h1 | h1); exact hn h1; rw [h] at h1; cases h1)]
theorem pn {τ : Type} {can : List Tok → Bool} {one : τ → List Tok → PT τ} {f n : Nat} {s : τ} {us : List Tok} (h : can us = false) : iX can one f n s us = .error (190,(hd us).a) := by
 rw [iX,if_neg (by rw [h]; decide)]; rfl
theorem nF {τ : Type} {can : List Tok → Bool} {one : τ → List Tok → PT τ} {f n : Nat} {s : τ} {us : List Tok} (h : can us = true) (hn : n = 16) : iX can one f n s us = .error (3,(hd us).a) := by
 rw [iX,if_pos h,if_pos hn]
theorem po {τ : Type} {can : List Tok → Bool} {one : τ → List Tok → PT τ} {f n : Nat} {s : τ} {us : List Tok} {x : Flt} (h : can us = true) (hn : ¬ n = 16) (ho : one s us = .error x) : iX can one f n s us = .error x := by
 rw [iX,if_pos h,if_neg hn,ho]
theorem rU {τ : Type} {can : List Tok → Bool} {one : τ → List Tok → PT τ} {f n : Nat} {s s' : τ} {us vs : List Tok} (h : can us = true) (hn : ¬ n = 16) (ho : one s us = .ok (s',vs)) : iX can one f n s us = dV can one f (n + 1) s' vs := by
 rw [iX,if_pos h,if_neg hn,ho]
theorem begT_1 {ts : List Tok} (h : (hd ts).k = 2 ∨ (hd ts).k = 3) : kC ts = true := by rw [kC,if_pos h]
theorem begT_2 {ts : List Tok} (h : (hd ts).k = 4) : kC ts = (decide ((hd ts).t = [40]) || decide ((hd ts).t = [45])) := by
 rw [kC,if_neg (by rw [h]; decide),if_pos h]
theorem ol {ts : List Tok} (h : (hd ts).k = 1) (h2 : (hd ts).t = gj ∨ (hd ts).t = mo ∨ (hd ts).t = jZ ∨ (hd ts).t = kR) : kC ts = true := by
 rw [kC,if_neg (by rw [h]; decide),if_neg (by rw [h]; decide),if_pos h,if_pos h2]
theorem begT_4 {ts : List Tok} (h : (hd ts).k = 1) (h2 : ¬ ((hd ts).t = gj ∨ (hd ts).t = mo ∨ (hd ts).t = jZ ∨ (hd ts).t = kR)) : kC ts = nmT ts := by
 rw [kC,if_neg (by rw [h]; decide),if_neg (by rw [h]; decide),if_pos h,if_neg h2]
theorem begT_5 {ts : List Tok} (h1 : ¬ (hd ts).k = 2) (h2 : ¬ (hd ts).k = 3) (h3 : ¬ (hd ts).k = 4) (h4 : ¬ (hd ts).k = 1) : kC ts = false := by
 rw [kC,if_neg (by rintro (h | h); exact h1 h; exact h2 h),if_neg h3,if_neg h4]
theorem rX {ts : List Tok} (h : nmT ts = false) : gG ts = .error (190,(hd ts).a) := by
 unfold gG cH; rw [if_neg (by rw [h]; decide)]; rfl
theorem src_one {ts : List Tok} (h : nmT ts = true) (h2 : atT 1 asB (ts.drop 1) = false) : gG ts = .ok (((hd ts).t,[]),ts.drop 1) := by
 unfold gG cH asP; rw [if_pos h]; simp only [h2]; rfl
theorem src_bad2 {ts : List Tok} (h : nmT ts = true) (h2 : atT 1 asB (ts.drop 1) = true) (h3 : nmT ((ts.drop 1).drop 1) = false) : gG ts = .error (190,(hd ((ts.drop 1).drop 1)).a) := by
 unfold gG asP cH; rw [if_pos h]; simp only [h2,h3]; rfl
theorem src_two {ts : List Tok} (h : nmT ts = true) (h2 : atT 1 asB (ts.drop 1) = true) (h3 : nmT ((ts.drop 1).drop 1) = true) : gG ts = .ok (((hd ts).t,(hd ((ts.drop 1).drop 1)).t),((ts.drop 1).drop 1).drop 1) := by
 unfold gG asP cH; rw [if_pos h]; simp only [h2,h3]; rfl
end Go.WK
namespace Go.WK
open Go.RowKit
theorem Sat.sel1 {w : World} {pb t : Nat} {cs : List Value} {D : List Chunk} {L : List Nat} (h : Sat ⟨default,0,[],w,pb :: L⟩ (box pb t cs :: D) w) : Sat ⟨default,0,[],w,[pb]⟩ [box pb t cs] w :=
 ⟨Chg.refl _ _,fun c hc => by obtain rfl := List.mem_singleton.1 hc; exact h.holds _ List.mem_cons_self,fun c hc k hk => by obtain rfl := List.mem_singleton.1 hc; exact .inr (by have : k = pb := hk; simp [this]),List.pairwise_singleton _ _⟩
end Go.WK
namespace Go.WK
open Go.RowKit
structure LS (α : Type) where
 l : List α
 A : Option Addr
 c : Nat
 xs : List Value
 bl : List Nat
abbrev lsD {α : Type} (K : Kd α) (sb e : Nat) (cs : LS α → List Value) (s : LS α) : List Chunk := [box sb 37 (cs s),row (.slice s.A s.l.length s.c) e K.z s.l.length s.xs,fK K s.bl s.l s.xs]
def lsL {α : Type} (sb : Nat) (s : LS α) : List Nat := sb :: (s.A.toList.map (·.block) ++ s.bl)
theorem rY {A : Option Addr} {n c e z m : Nat} {xs : List Value} {k : Nat} (h : (row (.slice A n c) e z m xs).fp k) : k ∈ A.toList.map (·.block) := by
 have h : (Value.slice A n c).ownBlock = some k := h
 cases A with
 | none => cases h
 | some a => simp [Value.ownBlock] at h; simp [h]
theorem lsDL {α : Type} (K : Kd α) (sb e : Nat) (cs : LS α → List Value) (s : LS α) : (∀ c ∈ lsD K sb e cs s,∀ k,c.fp k → k ∈ lsL sb s) ∧ (∀ k ∈ lsL sb s, ∃ c ∈ lsD K sb e cs s,c.fp k) := by
 refine ⟨fun c hc k hk => ?_,fun k hk => ?_⟩
 · simp only [lsD,List.mem_cons,List.not_mem_nil,or_false] at hc
   rcases hc with rfl | rfl | rfl
   · have : k = sb := hk
     rw [this]; exact List.mem_cons_self
   · exact List.mem_cons_of_mem _ (List.mem_append_left _ (rY hk))
   · exact List.mem_cons_of_mem _ (List.mem_append_right _ hk)
 · rcases List.mem_cons.1 hk with rfl | hk
   · exact ⟨_,List.mem_cons_self,rfl⟩
   · rcases List.mem_append.1 hk with hk | hk
     · exact ⟨_,List.mem_cons_of_mem _ List.mem_cons_self,jk hk⟩
     · exact ⟨_,List.mem_cons_of_mem _ (List.mem_cons_of_mem _ List.mem_cons_self),hk⟩
theorem rZ {bl : List Nat} {w : World} {e : Ex} {cs : List Value} {s : List UInt8} (h : ExK bl w e cs) : itemKd.rel bl w ⟨e,s⟩ (cs ++ [.string (B s)]) := ⟨cs,rfl,h⟩
theorem srcRel {bl : List Nat} {w : World} {e : Ex} {cs : List Value} {s t : List UInt8} (h : ExK bl w e cs) : srcKd.rel bl w ⟨t,s,e⟩ ([.string (B t),.string (B s)] ++ cs) := ⟨cs,rfl,h⟩
theorem item_err {f d : Nat} {l : List ItemX} {ts : List Tok} {x : Flt} (h : exP f 1 d ts = .error x) : hD f d l ts = .error x := by unfold hD; rw [h]
theorem item_one {f d : Nat} {l : List ItemX} {ts us : List Tok} {e : Ex} (h : exP f 1 d ts = .ok (e,us)) (h2 : atT 1 asB us = false) : hD f d l ts = .ok (l ++ [⟨e,[]⟩],us) := by unfold hD asP; simp only [h,h2]; rfl
theorem item_bad {f d : Nat} {l : List ItemX} {ts us : List Tok} {e : Ex} (h : exP f 1 d ts = .ok (e,us)) (h2 : atT 1 asB us = true) (h3 : nmT (us.drop 1) = false) : hD f d l ts = .error (190,(hd (us.drop 1)).a) := by unfold hD asP cH; simp only [h,h2,h3]; rfl
theorem item_two {f d : Nat} {l : List ItemX} {ts us : List Tok} {e : Ex} (h : exP f 1 d ts = .ok (e,us)) (h2 : atT 1 asB us = true) (h3 : nmT (us.drop 1) = true) : hD f d l ts = .ok (l ++ [⟨e,(hd (us.drop 1)).t⟩],(us.drop 1).drop 1) := by unfold hD asP cH; simp only [h,h2,h3]; rfl
theorem ord_bad {l : List OrdX} {ts : List Tok} (h : nmT ts = false) : mz l ts = .error (190,(hd ts).a) := by unfold mz cH; simp only [h]; rfl
theorem ord_ok {l : List OrdX} {ts : List Tok} (h : nmT ts = true) : mz l ts = .ok (l ++ [⟨(hd ts).t,atT 1 jP (ts.drop 1)⟩],if atT 1 jP (ts.drop 1) = true then (ts.drop 1).drop 1 else ts.drop 1) := by unfold mz cH; simp only [h]; rfl
end Go.WK
namespace Go.WK
open Go.RowKit
def ofL (l : List Value) (i : Nat) : Value := l.getD i (.bool false)
theorem kW {P : Program} {n : Nat} {w w1 : World} {pb : Nat} {D : List Chunk} {L L0 : List Nat} {c : Chunk} (h : Sat ⟨P,n,[],w,pb :: L0⟩ (c :: D) w1) (hl : ∀ k ∈ L, ∃ c ∈ D,c.fp k) : ∀ k,k < w.heap.size → k ∉ pb :: L0 → k ∉ pb :: L := fun k h1 h2 hm => by
 rcases List.mem_cons.1 hm with hm | hm
 · exact h2 (by rw [hm]; exact List.mem_cons_self)
 · exact notin_L h hl h1 h2 hm
theorem j9 {ts us : List Tok} {n : List UInt8} (hg : Good ts) (h : cH ts = .ok (n,us)) : Cuts ts us := (ji hg h).1
theorem pp {ts us : List Tok} {n : List UInt8} (hg : Good ts) (h : asP ts = .ok (n,us)) : Cuts ts us := by
 unfold asP at h
 split at h
 · rename_i h0
   have c1 := bS (Cuts.refl hg) (by decide) h0
   exact c1.trans (j9 c1.2 h)
 · simp only [Except.ok.injEq,Prod.mk.injEq] at h
   rw [← h.2]; exact Cuts.refl hg
theorem kX {f d : Nat} {l l' : List ItemX} {ts us : List Tok} (hg : Good ts) (h : hD f d l ts = .ok (l',us)) : Cuts ts us := by
 unfold hD at h
 cases h1 : exP f 1 d ts with
 | error x => simp only [h1] at h; cases h
 | ok r =>
  obtain ⟨e,vs⟩ := r
  simp only [h1] at h
  have c1 := (du f 1 d ts hg e vs h1).1
  cases h2 : asP vs with
  | error x => simp only [h2] at h; cases h
  | ok r =>
   obtain ⟨n,zs⟩ := r
   simp only [h2,Except.ok.injEq,Prod.mk.injEq] at h
   rw [← h.2]; exact c1.trans (pp c1.2 h2)
theorem mA {l l' : List OrdX} {ts us : List Tok} (hg : Good ts) (h : mz l ts = .ok (l',us)) : Cuts ts us := by
 unfold mz at h
 cases h1 : cH ts with
 | error x => simp only [h1] at h; cases h
 | ok r =>
  obtain ⟨n,vs⟩ := r
  simp only [h1,Except.ok.injEq,Prod.mk.injEq] at h
  have c1 := j9 hg h1
  rw [← h.2]
  split
  · rename_i h2; exact bS c1 (by decide) h2
  · exact c1
theorem iB {τ : Type} {can : List Tok → Bool} {one : τ → List Tok → PT τ} (ho : ∀ s us s' us',Good us → one s us = .ok (s',us') → Cuts us us') : ∀ (f n : Nat) (s s' : τ) (ts us : List Tok),Good ts → dV can one f n s ts = .ok (s',us) → Cuts ts us
 | 0,n,s,s',ts,us,hg,h => by
  simp only [dV,Except.ok.injEq,Prod.mk.injEq] at h
  rw [← h.2]; exact Cuts.refl hg
 | f + 1,n,s,s',ts,us,hg,h => by
  rw [dV] at h
  have hc : (n = 0 ∨ atT 4 [44] ts = true) → Cuts ts (if n = 0 then ts else ts.drop 1) := fun hh => by
   split
   · exact Cuts.refl hg
   · rename_i hn
     exact bS (Cuts.refl hg) (by decide) (hh.resolve_left hn)
  by_cases hh : n = 0 ∨ atT 4 [44] ts = true
  · rw [if_pos hh] at h
    have c1 := hc hh
    generalize (if n = 0 then ts else ts.drop 1) = V at h c1
    by_cases h1 : can V = true
    · rw [if_pos h1] at h
      by_cases h2 : n = 16
      · rw [if_pos h2] at h; cases h
      · rw [if_neg h2] at h
        cases h3 : one s V with
        | error x => simp only [h3] at h; cases h
        | ok r =>
         obtain ⟨s2,vs⟩ := r
         simp only [h3] at h
         have c2 := ho _ _ _ _ c1.2 h3
         exact (c1.trans c2).trans (iB ho f (n + 1) s2 s' vs us c2.2 h)
    · rw [if_neg h1] at h; cases h
  · rw [if_neg hh] at h
    simp only [Except.ok.injEq,Prod.mk.injEq] at h
    rw [← h.2]; exact Cuts.refl hg
theorem tj {f d : Nat} {l : List ItemX} {ts us : List Tok} (hg : Good ts) (h : hG f d ts = .ok (l,us)) : Cuts ts us := by
 unfold hG at h
 split at h
 · rename_i h0
   simp only [Except.ok.injEq,Prod.mk.injEq] at h
   rw [← h.2]; exact bS (Cuts.refl hg) (by decide) h0
 · exact iB (fun _ _ _ _ hg h => kX hg h) _ _ _ _ _ _ hg h
theorem nG {ts : List Tok} (hg : Good ts) : Cuts ts (cF ts) := by
 unfold cF
 split
 · rename_i h; exact bS (Cuts.refl hg) (by decide) h
 · exact Cuts.refl hg
theorem kD {ts us : List Tok} {r : List UInt8 × List UInt8} (hg : Good ts) (h : gG ts = .ok (r,us)) : Cuts ts us := by
 unfold gG at h
 cases h1 : cH ts with
 | error x => simp only [h1] at h; cases h
 | ok r =>
  obtain ⟨n,vs⟩ := r
  simp only [h1] at h
  have c1 := j9 hg h1
  cases h2 : asP vs with
  | error x => simp only [h2] at h; cases h
  | ok r =>
   obtain ⟨m,zs⟩ := r
   simp only [h2,Except.ok.injEq,Prod.mk.injEq] at h
   rw [← h.2]; exact c1.trans (pp c1.2 h2)
theorem mB {f d : Nat} {ts us : List Tok} {e : Ex} (hg : Good ts) (h : eY f d ts = .ok (e,us)) : Cuts ts us := by
 unfold eY at h
 split at h
 · rename_i h0
   have c1 := bS (Cuts.refl hg) (by decide) h0
   exact c1.trans (du f 1 d _ c1.2 e us h).1
 · simp only [Except.ok.injEq,Prod.mk.injEq] at h
   rw [← h.2]; exact Cuts.refl hg
end Go.WK
namespace Go.WK
open Go.RowKit
def blkA (A : Option Addr) : List Nat := A.toList.map (·.block)
theorem Sat.qry {cx : Cx} {H : List Chunk} {w : World} {A1 A2 A3 : Option Addr} {n1 n2 n3 c1 c2 c3 e1 e2 e3 : Nat} {x1 x2 x3 cs : List Value} {b1 b2 b3 bw : List Nat} {l1 : List ItemX} {l2 : List SrcX} {l3 : List OrdX} {e : Ex} (di st li : Bool) (lim : Int)
  (h : Sat cx (row (.slice A1 n1 c1) e1 itemKd.z n1 x1 :: fK itemKd b1 l1 x1 :: row (.slice A2 n2 c2) e2 srcKd.z n2 x2 :: fK srcKd b2 l2 x2 :: gi bw e cs :: row (.slice A3 n3 c3) e3 ordKd.z n3 x3 :: fK ordKd b3 l3 x3 :: H) w) (h1 : n1 = l1.length) (h2 : n2 = l2.length) (h3 : n3 = l3.length) :
  Sat cx (qryC ((blkA A1 ++ b1) ++ ((blkA A2 ++ b2) ++ (bw ++ (blkA A3 ++ b3)))) ⟨di,st,l1,l2,e,l3,li,lim⟩ (.slice A1 n1 c1) (.slice A2 n2 c2) (.slice A3 n3 c3) cs :: H) w := by
 refine Sat.fuse (l := [_,_,_,_,_,_,_]) h _ (fun hh => ?_) (fun j hj => ?_)
 · have k1 := hh _ (Nth.mem .z)
   have k2 := hh _ (Nth.mem (.s .z))
   have k3 := hh _ (Nth.mem (.s (.s .z)))
   have k4 := hh _ (Nth.mem (.s (.s (.s .z))))
   have k5 := hh _ (Nth.mem (.s (.s (.s (.s .z)))))
   have k6 := hh _ (Nth.mem (.s (.s (.s (.s (.s .z))))))
   have k7 := hh _ (Nth.mem (.s (.s (.s (.s (.s (.s .z)))))))
   refine ⟨⟨itemKd.sl_mono ?_ (kS itemKd k1 h1 k2.1),srcKd.sl_mono ?_ (kS srcKd k3 h2 k4.1),ExK.mono ?_ _ _ k5.1,ordKd.sl_mono ?_ (kS ordKd k6 h3 k7.1)⟩,fun j hj => ?_⟩
   · intro k hk; exact List.mem_append_left _ hk
   · intro k hk; exact List.mem_append_right _ (List.mem_append_left _ hk)
   · intro k hk; exact List.mem_append_right _ (List.mem_append_right _ (List.mem_append_left _ hk))
   · intro k hk; exact List.mem_append_right _ (List.mem_append_right _ (List.mem_append_right _ hk))
   · rcases List.mem_append.1 hj with hj | hj
     · rcases List.mem_append.1 hj with hj | hj
       · exact (row (.slice A1 n1 c1) e1 itemKd.z n1 x1).lt w j k1 (jk hj)
       · exact k2.2 j hj
     · rcases List.mem_append.1 hj with hj | hj
       · rcases List.mem_append.1 hj with hj | hj
         · exact (row (.slice A2 n2 c2) e2 srcKd.z n2 x2).lt w j k3 (jk hj)
         · exact k4.2 j hj
       · rcases List.mem_append.1 hj with hj | hj
         · exact k5.2 j hj
         · rcases List.mem_append.1 hj with hj | hj
           · exact (row (.slice A3 n3 c3) e3 ordKd.z n3 x3).lt w j k6 (jk hj)
           · exact k7.2 j hj
 · rcases List.mem_append.1 hj with hj | hj
   · rcases List.mem_append.1 hj with hj | hj
     · exact ⟨_,Nth.mem .z,jk hj⟩
     · exact ⟨_,Nth.mem (.s .z),hj⟩
   · rcases List.mem_append.1 hj with hj | hj
     · rcases List.mem_append.1 hj with hj | hj
       · exact ⟨_,Nth.mem (.s (.s .z)),jk hj⟩
       · exact ⟨_,Nth.mem (.s (.s (.s .z))),hj⟩
     · rcases List.mem_append.1 hj with hj | hj
       · exact ⟨_,Nth.mem (.s (.s (.s (.s .z)))),hj⟩
       · rcases List.mem_append.1 hj with hj | hj
         · exact ⟨_,Nth.mem (.s (.s (.s (.s (.s .z))))),jk hj⟩
         · exact ⟨_,Nth.mem (.s (.s (.s (.s (.s (.s .z)))))),hj⟩
structure QR where
 q : QryX
 us : List Tok
 bl : List Nat
 vI : Value
 vF : Value
 vO : Value
 ec : List Value
section
variable {f d : Nat} {ts t1 t2 t3 t4 t5 : List Tok} {x : Flt} {its : List ItemX} {fr : List SrcX} {wh : Ex} {os : List OrdX} {li : Bool} {lim : Int}
theorem qe1 (h1 : hG f d (cF ts) = .error x) : dh f d ts = .error x := by unfold dh; rw [h1]
theorem qe2 (h1 : hG f d (cF ts) = .ok (its,t1)) (h2 : fJ f d t1 = .error x) : dh f d ts = .error x := by unfold dh; simp only [h1,h2]
theorem qe3 (h1 : hG f d (cF ts) = .ok (its,t1)) (h2 : fJ f d t1 = .ok (fr,t2)) (h3 : eY f d t2 = .error x) : dh f d ts = .error x := by unfold dh; simp only [h1,h2,h3]
theorem qe4 (h1 : hG f d (cF ts) = .ok (its,t1)) (h2 : fJ f d t1 = .ok (fr,t2)) (h3 : eY f d t2 = .ok (wh,t3)) (h4 : fa t3 = .error x) : dh f d ts = .error x := by unfold dh; simp only [h1,h2,h3,h4]
theorem qe5 (h1 : hG f d (cF ts) = .ok (its,t1)) (h2 : fJ f d t1 = .ok (fr,t2)) (h3 : eY f d t2 = .ok (wh,t3)) (h4 : fa t3 = .ok (os,t4)) (h5 : fW t4 = .error x) : dh f d ts = .error x := by unfold dh; simp only [h1,h2,h3,h4,h5]
theorem qok (h1 : hG f d (cF ts) = .ok (its,t1)) (h2 : fJ f d t1 = .ok (fr,t2)) (h3 : eY f d t2 = .ok (wh,t3)) (h4 : fa t3 = .ok (os,t4)) (h5 : fW t4 = .ok ((li,lim),t5)) : dh f d ts = .ok (⟨atT 1 bJ ts,atT 4 [42] (cF ts),its,fr,wh,os,li,lim⟩,t5) := by unfold dh; simp only [h1,h2,h3,h4,h5]
theorem from_no (h : atT 1 nE ts = false) : fJ f d ts = .ok ([],ts) := by rw [fJ,if_neg (by rw [h]; decide)]
theorem from_bad (h : atT 1 nE ts = true) (h2 : gG (ts.drop 1) = .error x) : fJ f d ts = .error x := by rw [fJ,if_pos h,h2]
theorem from_ok {r : List UInt8 × List UInt8} (h : atT 1 nE ts = true) (h2 : gG (ts.drop 1) = .ok (r,t1)) : fJ f d ts = eZ f d 5 [⟨r.1,r.2,Ex.zero⟩] t1 := by rw [fJ,if_pos h,h2]
theorem joins_no {k : Nat} {l : List SrcX} (h : atT 1 pm ts = false) : eZ f d k l ts = .ok (l,ts) := by
 cases k with
 | zero => rfl
 | succ k => rw [eZ,if_neg (by rw [h]; decide)]
theorem jx {k : Nat} {l : List SrcX} (h : atT 1 pm ts = true) (h2 : gk f d l (ts.drop 1) = .error x) : eZ f d (k + 1) l ts = .error x := by rw [eZ,if_pos h,h2]
theorem joins_ok {k : Nat} {l l' : List SrcX} (h : atT 1 pm ts = true) (h2 : gk f d l (ts.drop 1) = .ok (l',t1)) : eZ f d (k + 1) l ts = eZ f d k l' t1 := by rw [eZ,if_pos h,h2]
theorem join_e1 {l : List SrcX} (h : nmT ts = true ∧ l.length = 4) : gk f d l ts = .error (3,(hd ts).a) := by rw [gk,if_pos h]
theorem join_e2 {l : List SrcX} (h : ¬ (nmT ts = true ∧ l.length = 4)) (h2 : gG ts = .error x) : gk f d l ts = .error x := by rw [gk,if_neg h,h2]
theorem join_e3 {l : List SrcX} {r : List UInt8 × List UInt8} (h : ¬ (nmT ts = true ∧ l.length = 4)) (h2 : gG ts = .ok (r,t1)) (h3 : atT 1 onB t1 = false) : gk f d l ts = .error (190,(hd t1).a) := by
 rw [gk,if_neg h,h2]; simp only [dD,h3]; rfl
theorem join_e4 {l : List SrcX} {r : List UInt8 × List UInt8} (h : ¬ (nmT ts = true ∧ l.length = 4)) (h2 : gG ts = .ok (r,t1)) (h3 : atT 1 onB t1 = true) (h4 : exP f 1 d (t1.drop 1) = .error x) : gk f d l ts = .error x := by
 rw [gk,if_neg h,h2]; simp only [dD,h3,if_true,h4]
theorem join_ok {l : List SrcX} {r : List UInt8 × List UInt8} {e : Ex} (h : ¬ (nmT ts = true ∧ l.length = 4)) (h2 : gG ts = .ok (r,t1)) (h3 : atT 1 onB t1 = true) (h4 : exP f 1 d (t1.drop 1) = .ok (e,t2)) : gk f d l ts = .ok (l ++ [⟨r.1,r.2,e⟩],t2) := by
 rw [gk,if_neg h,h2]; simp only [dD,h3,if_true,h4]
theorem order_no (h : atT 1 mx ts = false) : fa ts = .ok ([],ts) := by rw [fa,if_neg (by rw [h]; decide)]
theorem tk (h : atT 1 mx ts = true) (h2 : atT 1 byB (ts.drop 1) = false) : fa ts = .error (190,(hd (ts.drop 1)).a) := by rw [fa,if_pos h]; simp only [dD,h2]; rfl
theorem pq (h : atT 1 mx ts = true) (h2 : atT 1 byB (ts.drop 1) = true) : fa ts = dV nmT mz 17 0 [] ((ts.drop 1).drop 1) := by rw [fa,if_pos h]; simp only [dD,h2,if_true]
theorem limit_no (h : atT 1 my ts = false) : fW ts = .ok ((false,0),ts) := by rw [fW,if_neg (by rw [h]; decide)]
theorem tl (h : atT 1 my ts = true) (h2 : ¬ (hd (ts.drop 1)).k = 2) : fW ts = .error (190,(hd (ts.drop 1)).a) := by rw [fW,if_pos h,if_neg h2]; rfl
theorem limit_ok (h : atT 1 my ts = true) (h2 : (hd (ts.drop 1)).k = 2) : fW ts = .ok ((true,jH (hd (ts.drop 1)).t),(ts.drop 1).drop 1) := by rw [fW,if_pos h,if_pos h2]
end
theorem src_nm {ts us : List Tok} {r : List UInt8 × List UInt8} (h : gG ts = .ok (r,us)) : nmT ts = true := by
 cases hn : nmT ts with
 | true => rfl
 | false => rw [rX hn] at h; cases h
theorem tm {f d : Nat} {l l' : List SrcX} {ts us : List Tok} (hg : Good ts) (h : gk f d l ts = .ok (l',us)) : Cuts ts us := by
 unfold gk at h
 split at h
 · cases h
 · cases h1 : gG ts with
   | error x => simp only [h1] at h; cases h
   | ok r =>
    obtain ⟨⟨t,s⟩,vs⟩ := r
    simp only [h1] at h
    have c1 := kD hg h1
    by_cases h2 : atT 1 onB vs = true
    · simp only [dD,h2,if_true] at h
      have c2 := bS c1 (by decide) h2
      cases h3 : exP f 1 d (vs.drop 1) with
      | error x => simp only [h3] at h; cases h
      | ok r =>
       obtain ⟨e,zs⟩ := r
       simp only [h3,Except.ok.injEq,Prod.mk.injEq] at h
       rw [← h.2]; exact c2.trans (du f 1 d _ c2.2 e zs h3).1
    · simp only [dD,if_neg h2] at h; cases h
theorem mC {f d : Nat} : ∀ (k : Nat) (l l' : List SrcX) (ts us : List Tok),Good ts → eZ f d k l ts = .ok (l',us) → Cuts ts us
 | 0,l,l',ts,us,hg,h => by
  simp only [eZ,Except.ok.injEq,Prod.mk.injEq] at h
  rw [← h.2]; exact Cuts.refl hg
 | k + 1,l,l',ts,us,hg,h => by
  unfold eZ at h
  split at h
  · rename_i h0
    have c1 := bS (Cuts.refl hg) (by decide) h0
    cases h1 : gk f d l (ts.drop 1) with
    | error x => simp only [h1] at h; cases h
    | ok r =>
     obtain ⟨l2,vs⟩ := r
     simp only [h1] at h
     have c2 := c1.trans (tm c1.2 h1)
     exact c2.trans (mC k l2 l' vs us c2.2 h)
  · simp only [Except.ok.injEq,Prod.mk.injEq] at h
    rw [← h.2]; exact Cuts.refl hg
theorem tn {f d : Nat} {l : List SrcX} {ts us : List Tok} (hg : Good ts) (h : fJ f d ts = .ok (l,us)) : Cuts ts us := by
 unfold fJ at h
 split at h
 · rename_i h0
   have c1 := bS (Cuts.refl hg) (by decide) h0
   cases h1 : gG (ts.drop 1) with
   | error x => simp only [h1] at h; cases h
   | ok r =>
    obtain ⟨⟨t,s⟩,vs⟩ := r
    simp only [h1] at h
    have c2 := c1.trans (kD c1.2 h1)
    exact c2.trans (mC _ _ _ _ _ c2.2 h)
 · simp only [Except.ok.injEq,Prod.mk.injEq] at h
   rw [← h.2]; exact Cuts.refl hg
theorem qF {l : List OrdX} {ts us : List Tok} (hg : Good ts) (h : fa ts = .ok (l,us)) : Cuts ts us := by
 unfold fa at h
 split at h
 · rename_i h0
   have c1 := bS (Cuts.refl hg) (by decide) h0
   by_cases h2 : atT 1 byB (ts.drop 1) = true
   · simp only [dD,h2,if_true] at h
     have c2 := bS c1 (by decide) h2
     exact c2.trans (iB (fun _ _ _ _ hg h => mA hg h) _ _ _ _ _ _ c2.2 h)
   · simp only [dD,if_neg h2] at h; cases h
 · simp only [Except.ok.injEq,Prod.mk.injEq] at h
   rw [← h.2]; exact Cuts.refl hg
theorem qG {li : Bool} {lim : Int} {ts us : List Tok} (hg : Good ts) (h : fW ts = .ok ((li,lim),us)) : Cuts ts us := by
 unfold fW at h
 split at h
 · rename_i h0
   have c1 := bS (Cuts.refl hg) (by decide) h0
   split at h
   · rename_i h2
     simp only [Except.ok.injEq,Prod.mk.injEq] at h
     rw [← h.2]; exact c1.step (by rw [h2]; decide)
   · cases h
 · simp only [Except.ok.injEq,Prod.mk.injEq] at h
   rw [← h.2]; exact Cuts.refl hg
end Go.WK
namespace Go.WK
open Go.RowKit
theorem eB {k : Int} {a b : List UInt8} {ts : List Tok} (h : atT k a ts = true) (hne : a ≠ b) : atT k b ts = false := by
 unfold atT at h ⊢
 simp only [Bool.and_eq_true,decide_eq_true_eq] at h
 rw [h.2,decide_eq_false hne,Bool.and_false]
theorem tq {g t : Nat} {cs : List Value} {D : List Chunk} : ∀ k ∈ [g], ∃ c ∈ (box g t cs :: D),c.fp k := fun _ hk => ⟨_,List.mem_cons_self,List.mem_singleton.1 hk⟩
structure SR where
 s : StmtX
 us : List Tok
 bl : List Nat
 cs : List Value
theorem mD {f d : Nat} {ts : List Tok} (h : atT 1 gZ ts = true) : lB f d ts = iN f d (ts.drop 1) := by
 unfold lB
 rw [if_neg (dP (eB h (by decide))),if_neg (dP (eB h (by decide))),if_neg (dP (eB h (by decide))),if_neg (dP (eB h (by decide))),if_neg (dP (eB h (by decide))),if_pos h]
theorem sel_err {f d : Nat} {ts : List Tok} {x : Flt} (h : dh f d ts = .error x) : iN f d ts = .error x := by unfold iN; rw [h]
theorem sel_ok {f d : Nat} {ts us : List Tok} {q : QryX} (h : dh f d ts = .ok (q,us)) : iN f d ts = .ok ({ StmtX.zero with k := 8,q := q },us) := by unfold iN; rw [h]
theorem qH {α : Type} {K : Kd α} {bl : List Nat} {w : World} {l : List α} {v : Value} (h : K.sl bl w l v) : v.oneCell' = true := by
 obtain ⟨A,k,xs,rfl,_⟩ := h; rfl
theorem pr (v : Value) (l : List Value) : allOne (v :: l) = (v.oneCell' && allOne l) := rfl
theorem QK.ones {bl : List Nat} {w : World} {q : QryX} {vI vF vO : Value} {ec : List Value} (h : QK bl w q vI vF vO ec) : (qCs q vI vF vO ec).length = 15 ∧ allOne (qCs q vI vF vO ec) = true := by
 have h1 := qH h.items
 have h2 := qH h.from_
 have h3 := qH h.ord
 refine ⟨by simp [qCs,h.wh.len], ?_⟩
 simp only [qCs,eA,pr,h1,h2,h3,h.wh.ones]
 rfl
theorem Sat.selSt {cx : Cx} {H : List Chunk} {w : World} {bl : List Nat} {q : QryX} {vI vF vO : Value} {ec : List Value} (h : Sat cx (qryC bl q vI vF vO ec :: H) w) :
  Sat cx (stC bl { StmtX.zero with k := 8,q := q } ([.int .i64 8,.string .empty,.string .empty,.slice none 0 0,.slice none 0 0,.bool false,.slice none 0 0,.slice none 0 0,.int .i64 0,.int .i64 0,.int .i64 0,.string .empty,.string .empty,.string .empty,.int .i64 0,.slice none 0 0] ++ qCs q vI vF vO ec) :: H) w := by
 refine Sat.fuse (l := [_]) h _ (fun hh => ?_) (fun j hj => ⟨_,List.mem_cons_self,hj⟩)
 have h1 := hh _ List.mem_cons_self
 exact ⟨⟨.slice none 0 0,.slice none 0 0,.slice none 0 0,.slice none 0 0,vI,vF,vO,[.int .i64 0,.int .i64 0,.int .i64 0,.string .empty,.string .empty,.string .empty,.int .i64 0,.slice none 0 0],ec,rfl,
  colKd.sl_nil _ _,nameKd.sl_nil _ _,rowKd.sl_nil _ _,setKd.sl_nil _ _,⟨none,0,[],rfl,Nat.le_refl _,Rd.nil _ _,(fun _ h => by cases h),rfl⟩,h1.1⟩,h1.2⟩
section ops
variable {m : Bool} {cx : Cx} {fs : be} {H : List Chunk} {Q : cq} {ops : Array Oper} {rest : List Oper} {g : Option (Nat × Bool)} {d : Nat} {ty : TypeId} {pos : String} {af : Array Edge}
theorem r3 {x : Operand} {t bt b i z : Nat} {cs : List Value} (hl : cs.length = z) (ht : cG cx.P t = some true) (hz : szB cx.P t = some z) (hn : Nth H i (box b bt cs)) (hok : okS cx.n ops fs d g = true) (hx : ev fs x = some (.pointer (some ⟨b,0,none⟩)))
  (k : TriX m cx ops ((d,.agg cs.toArray) :: fs) H rest Q) : TriX m cx ops fs H (⟨some d,.load t x,ty,pos,af,g⟩ :: rest) Q :=
 aC ht hz hn hok hx (vs := cs) (by rw [List.drop_zero]; exact List.take_of_length_le (Nat.le_of_eq hl)) hl k
theorem bg {x y : Operand} {t bt b i z : Nat} {us cs : List Value} (hu : us.length = z) (hl : cs.length = z) (h1 : allOne cs = true) (hz : szB cx.P t = some z) (hn : Nth H i (box b bt us)) (hok : okW ops fs g = true) (hx : ev fs x = some (.pointer (some ⟨b,0,none⟩))) (hy : ev fs y = some (.agg cs.toArray))
  (k : TriX false cx ops fs (ig H i (box b bt cs)) rest Q) : TriX false cx ops fs H (⟨none,.store t x y,ty,pos,af,g⟩ :: rest) Q :=
 aO hz hn hok hx hy (vs := cs) rfl hl (by omega) h1 (by rw [pk us cs (by rw [hu,hl])]; exact k)
end ops
def TriG (cx : Cx) (fs : be) (H : List Chunk) (c : Code) (QG : Exit → Act → World → Prop) : Prop := ∀ a w,Has cx.n cx.ds fs a → Sat cx H w → c.wp cx.P QG a w
def gQ (cx : Cx) (K : be → List Chunk → Prop) (QG : Exit → Act → World → Prop) : cq := fun e fs H => match e with
 | .normal => K fs H
 | e => ∀ a w,Has cx.n cx.ds fs a → Sat cx H w → QG e a w
section
variable {cx : Cx} {fs : be} {H : List Chunk} {QG : Exit → Act → World → Prop}
theorem mE {x y : Code} (h : Tri cx fs H x (gQ cx (fun fs H => TriG cx fs H y QG) QG)) : TriG cx fs H (.seq x y) QG := fun a w ha hw => by
 refine wp_seq (Go.wp_mono (h a w ha hw) fun e a' w' ⟨fs',H',h1,h2,h3⟩ => ?_)
 cases e <;> exact h3 a' w' h1 h2
theorem pt {c : Code} {Q : cq} (h : Tri cx fs H c Q) (hq : ∀ e fs' H',Q e fs' H' → ∀ a w,Has cx.n cx.ds fs' a → Sat cx H' w → QG e a w) : TriG cx fs H c QG := fun a w ha hw =>
 Go.wp_mono (h a w ha hw) fun e a' w' ⟨fs',H',h1,h2,h3⟩ => hq e fs' H' h3 a' w' h1 h2
theorem kY {K : be → List Chunk → Prop} (h : K fs H) : gQ cx K QG .normal fs H := h
theorem gQ_ret {K : be → List Chunk → Prop} (h : ∀ a w,Has cx.n cx.ds fs a → Sat cx H w → QG .ret a w) : gQ cx K QG .ret fs H := h
theorem qI {id d fid : Nat} {ty ty2 : TypeId} {pos pos2 : String} {af af2 : Array Edge} {ys : List Operand} {vs : List Value} {y : Code} (hd : Nat.blt d cx.n = true) (hy : evs fs ys = some vs)
  (k : TriG { cx with ds := { target := .fn (.func fid) vs.toArray,args := #[] } :: cx.ds } ((d,.func (.func fid) #[] vs.toArray) :: fs) H y QG) :
  TriG cx fs H (.seq (.region id #[⟨some d,.makeFunc (.func fid) #[] ys.toArray,ty,pos,af,none⟩,⟨none,.defer ⟨.value (.tmp d), #[], #[]⟩,ty2,pos2,af2,none⟩] false) y) QG := fun a w ha hw => by
 refine wp_seq (wp_region_lit ?_)
 have h1 : Has cx.n cx.ds ((d,.func (.func fid) #[] vs.toArray) :: fs) (a.put (some d) (.func (.func fid) #[] vs.toArray)) := ha.put hd _
 have e1 : (execOp a.eval ⟨some d,.makeFunc (.func fid) #[] ys.toArray,ty,pos,af,none⟩).run cx.P w = .ok (.value (.func (.func fid) #[] vs.toArray)) w := by
  simp [execOp,Instr.makeFunc,ha.evals hy]
 unfold wpList
 rw [if_pos (by rfl)]
 left
 unfold Oper.wp
 rw [e1]
 show wpList cx.P _ _ _ (a.put (some d) (.func (.func fid) #[] vs.toArray)) w
 unfold wpList
 rw [if_pos (by rfl)]
 left
 have e2 : (execOp (a.put (some d) (.func (.func fid) #[] vs.toArray)).eval ⟨none,.defer ⟨.value (.tmp d), #[], #[]⟩,ty2,pos2,af2,none⟩).run cx.P w = .ok (.defer { target := .fn (.func fid) vs.toArray,args := #[] }) w := by
  have e3 : (a.put (some d) (.func (.func fid) #[] vs.toArray)).eval (.tmp d) = .func (.func fid) #[] vs.toArray := h1.eval (x := .tmp d) (dq _ _ _)
  simp [execOp,resolve,e3,Deferred.ofValue]
 unfold Oper.wp
 rw [e2]
 simp only [Oper.upon]
 refine wpList_nil ?_
 exact k _ w ⟨by simp [Act.put,ha.ds],h1.size,h1.at_⟩ ⟨hw.chg,hw.holds,hw.fresh,hw.apart⟩
end
theorem qJ {P : Program} {fn : Func} {f : FuncId} {c : Code} {args : List Value} {n : Nat} {w : World} {R : Ending → World → Prop} {lent : List Nat} {H : List Chunk} (hf : P.funcs[f]? = some fn) (hb : fn.body = some c) (hn : fn.ntmps = n) (ha : Nat.ble args.length n = true)
  (hs : Sat ⟨P,n,[],w,lent⟩ H w) (h : TriG ⟨P,n,[],w,lent⟩ (argS 0 args) H c (bodyPostD P fn R)) : Calls P f args.toArray w R := by
 have hle : args.length ≤ n := Nat.le_of_ble_eq_true ha
 refine calls_of_wp_defers hf hb ?_
 have hh : Has n [] (argS 0 args) { tmps := args.toArray ++ Array.replicate (fn.ntmps - args.toArray.size) undef,defers := [] } := by
  refine ⟨rfl,by simp [hn]; omega,fun d v hd => ?_⟩
  obtain ⟨_,h2⟩ := kL args 0 d v hd
  have hlt : d < args.length := by have := (List.getElem?_eq_some_iff.1 h2).1; omega
  rw [Array.getElem?_append_left (by simpa using hlt)]
  simpa using h2
 exact h _ w hh hs
theorem ka {P : Program} {fn : Func} {w : World} {t t2 : TypeId} {x u : Tmp} {b b2 bt bt2 z : Nat} {cs : List Value} {v : Value} {tmps : Array Value} (hr : fn.results = #[.cell x t,.cell u t2]) (hx : tmps.getD x undef = .pointer (some ⟨b,0,none⟩)) (hu : tmps.getD u undef = .pointer (some ⟨b2,0,none⟩))
  (ht : cG P t = some true) (hz : szB P t = some z) (ht2 : cG P t2 = some false) (hb : w.heap[b]? = some (.cells cs.toArray bt (0,0))) (hl : cs.length = z) (hb2 : w.heap[b2]? = some (.cells #[v] bt2 (0,0))) :
  (results fn tmps).run P w = .ok (.tuple #[.agg cs.toArray,v]) w := by
 subst hl
 have hx' : tmps[x]?.getD undef = .pointer (some ⟨b,0,none⟩) := by simpa using hx
 have hu' : tmps[u]?.getD undef = .pointer (some ⟨b2,0,none⟩) := by simpa using hu
 have hc : ∀ j v,cs[j]? = some v → w.cell? ((⟨b,0,none⟩ : Addr).add j) = some v := kO hb (z := cs.length) (by simp)
 have hc2 : w.cell? ⟨b2,0,none⟩ = some v := by rw [cell_of_row w b2 0 _ bt2 (0,0) hb2]; rfl
 simp [results,hr,hx',hu',asAddr,loadVar,dQ ht,dQ ht2,df hz,run_loadCells_list w ⟨b,0,none⟩ cs hc,hc2]
theorem o_assert {m : Bool} {cx : Cx} {fs : be} {H : List Chunk} {Q : cq} {ops : Array Oper} {rest : List Oper} {g : Option (Nat × Bool)} {d : Nat} {ty : TypeId} {pos : String} {af : Array Edge} {x : Operand} {t u : TypeId} {v r : Value} (hr : ∀ w,(Instr.typeAssert v t u true).run cx.P w = .ok r w) (hok : okS cx.n ops fs d g = true) (hx : ev fs x = some v)
  (k : TriX m cx ops ((d,r) :: fs) H rest Q) : TriX m cx ops fs H (⟨some d,.typeAssert x t u true,ty,pos,af,g⟩ :: rest) Q :=
 bh _ hok (fun a w ha _ => by simp [execOp,ha.eval hx,hr]) k
end Go.WK
namespace Go.WK
open Go.RowKit Lib
theorem qK (s : List UInt8) (he : (cz s).e = 0) : ((cz s).k = 1 ∨ (cz s).k = 2 ∨ (cz s).k = 3 ∨ (cz s).k = 4) ∧ (cz s).t.length ≤ max s.length 64 ∧ ((cz s).k = 2 → ∃ n,parseIntB 64 (cz s).t = .ok n) := by
 unfold cz at he ⊢
 by_cases h1 : ef (s.getD 0 0) = true
 · rw [if_pos h1]
   exact ⟨.inl rfl,by simp only [s5,List.length_take]; omega,fun h => by cases h⟩
 rw [if_neg h1] at he ⊢
 by_cases h2 : bI (s.getD 0 0) = true
 · rw [if_pos h2] at he ⊢
   by_cases h3 : fm s (cd bI s)
   · rw [if_pos h3] at he; cases he
   · rw [if_neg h3]
     exact ⟨.inr (.inl rfl),by simp only [List.length_take]; omega,fun _ => ((kw h2).2 h3).1⟩
 rw [if_neg h2] at he ⊢
 by_cases h4 : s.getD 0 0 = 39
 · rw [if_pos h4] at he ⊢
   cases hq : quo (s.drop 1) with
   | none => simp only [hq] at he; cases he
   | some r =>
    simp only [hq] at he ⊢
    by_cases h5 : 64 < r.1.length
    · rw [if_pos h5] at he; cases he
    · rw [if_neg h5]
      exact ⟨.inr (.inr (.inl rfl)),by simp only; omega,fun h => by cases h⟩
 rw [if_neg h4] at he ⊢
 by_cases h6 : fE s = 0
 · rw [if_pos h6] at he; cases he
 · rw [if_neg h6]
   exact ⟨.inr (.inr (.inr rfl)),by simp only [List.length_take]; omega,fun h => by cases h⟩
theorem tr (f : Nat) : ∀ (a : Nat) (r : List UInt8) (ts : List Tok),l9 f a r = .ok ts → r.length ≤ 4096 → Good ts ∧ ∀ t ∈ ts,TokOk t := by
 induction f with
 | zero => intro a r ts h; cases h
 | succ f ih =>
  intro a r ts h hr
  cases r with
  | nil =>
   cases h
   exact ⟨.inl rfl,fun t ht => by obtain rfl := List.mem_singleton.1 ht; exact ⟨by simp,fun h => by cases h⟩⟩
  | cons c l =>
   unfold l9 at h
   split at h
   · cases h
   · rename_i he
     have he := Decidable.not_not.1 he
     obtain ⟨_,h2,h3⟩ := qK (c :: l) he
     cases hx : l9 f (a + (cz (c :: l)).n + gap ((c :: l).drop (cz (c :: l)).n)) (((c :: l).drop (cz (c :: l)).n).drop (gap ((c :: l).drop (cz (c :: l)).n))) with
     | error e => rw [hx] at h; cases h
     | ok ts' =>
      rw [hx] at h
      cases h
      obtain ⟨k1,k2⟩ := ih _ _ _ hx (by simp only [List.length_drop]; omega)
      refine ⟨.inr k1,fun t ht => ?_⟩
      rcases List.mem_cons.1 ht with rfl | ht
      · refine ⟨by have := h2; simp only; omega,fun hk => ?_⟩
        obtain ⟨n,hn⟩ := h3 hk
        show parseIntB 64 _ = .ok (jH _)
        simp only [jH,hn]
      · exact k2 t ht
theorem lex_good {s : List UInt8} {ts : List Tok} (h : gB s = .ok ts) : Good ts ∧ (∀ t ∈ ts,TokOk t) ∧ ts.length ≤ 4097 := by
 have h1 := rJ h
 have h2 := tr _ _ _ _ h1.2 (by rw [List.length_drop]; omega)
 have h3 := tks_le h rfl
 exact ⟨h2.1,h2.2,by omega⟩
def stR : Except Flt StmtX → StmtX
 | .ok s => s
 | .error _ => StmtX.zero
def errS : Except Flt StmtX → Value
 | .ok _ => .nilIface
 | .error x => .iface 55 (.agg #[.int .i64 x.1,.int .i64 x.2])
def ParsT (w : World) (r : Except Flt StmtX) : Ending → World → Prop := Turn w [] (fun j : List Nat × List Value => .tuple #[.agg j.2.toArray,errS r]) (fun j => [stC j.1 (stR r) j.2]) (fun j => j.2.length = 31 ∧ allOne j.2 = true)
abbrev zSt : List Value := [.int .i64 0,.string .empty,.string .empty,.slice none 0 0,.slice none 0 0,.bool false,.slice none 0 0,.slice none 0 0,.int .i64 0,.int .i64 0,.int .i64 0,.string .empty,.string .empty,.string .empty,.int .i64 0,.slice none 0 0,.bool false,.bool false,.slice none 0 0,.slice none 0 0,.int .i64 0,.int .i64 0,.int .i64 0,.string .empty,.string .empty,.string .empty,.int .i64 0,.slice none 0 0,.slice none 0 0,.bool false,.int .i64 0]
theorem pu (bl : List Nat) (w : World) : ExK bl w Ex.zero [.int .i64 0,.int .i64 0,.int .i64 0,.string .empty,.string .empty,.string .empty,.int .i64 0,.slice none 0 0] := ⟨none,0,[],rfl,Nat.le_refl _,Rd.nil _ _,(fun _ h => by cases h),rfl⟩
theorem stK_zero (bl : List Nat) (w : World) : StK bl w StmtX.zero zSt :=
 ⟨.slice none 0 0,.slice none 0 0,.slice none 0 0,.slice none 0 0,.slice none 0 0,.slice none 0 0,.slice none 0 0,[.int .i64 0,.int .i64 0,.int .i64 0,.string .empty,.string .empty,.string .empty,.int .i64 0,.slice none 0 0],[.int .i64 0,.int .i64 0,.int .i64 0,.string .empty,.string .empty,.string .empty,.int .i64 0,.slice none 0 0],rfl,
  colKd.sl_nil _ _,nameKd.sl_nil _ _,rowKd.sl_nil _ _,setKd.sl_nil _ _,pu _ _,itemKd.sl_nil _ _,srcKd.sl_nil _ _,pu _ _,ordKd.sl_nil _ _⟩
theorem Sat.zeroSt {cx : Cx} {H : List Chunk} {w : World} (h : Sat cx H w) : Sat cx (stC [] StmtX.zero zSt :: H) w :=
 h.fuse (l := []) _ (fun _ => ⟨stK_zero _ _,fun k hk => by cases hk⟩) (fun k hk => by cases hk)
theorem row_some {A : Option Addr} {n c e z m : Nat} {xs : List Value} {w : World} (h : (row (.slice A n c) e z m xs).holds w) (hn : m = n) (hp : 0 < xs.length) : ∃ g,A = some ⟨g,0,none⟩ ∧ n ≤ c := by
 subst hn
 have ho : w.ownsRow 0 e z (.slice A m c) m xs := h
 obtain ⟨gg,cur,rfl,_,hnc,_⟩ := own_some ho hp
 exact ⟨gg,rfl,hnc⟩
theorem pS0 (g k : Nat) (T : List Tok) : pSl ⟨g,0,none⟩ k T T = .slice (some ⟨g,0,none⟩) T.length k := by
 unfold pSl
 rw [Nat.sub_self,Nat.zero_mul,Nat.sub_zero]
 rfl
theorem mF {s : List UInt8} {x : Flt} (h : gB s = .error x) : eJ s = .error x := by unfold eJ; rw [h]
theorem qL {s : List UInt8} {ts : List Tok} {x : Flt} (h : gB s = .ok ts) (h2 : lB (8 * ts.length + 8) 0 ts = .error x) : eJ s = .error x := by unfold eJ; rw [h]; simp only [qD,h2]
theorem qM {s : List UInt8} {ts us : List Tok} {st : StmtX} (h : gB s = .ok ts) (h2 : lB (8 * ts.length + 8) 0 ts = .ok (st,us)) : eJ s = if (hd (if atT 4 [59] us = true then us.drop 1 else us)).k = 5 then .ok st else .error (190,(hd (if atT 4 [59] us = true then us.drop 1 else us)).a) := by unfold eJ; rw [h]; simp only [qD,h2]
theorem m9 {f d : Nat} {ts us : List Tok} {st : StmtX} (hg : Good ts) (hs : atT 1 gZ ts = true) (h : lB f d ts = .ok (st,us)) : Cuts ts us := by
 rw [mD hs] at h
 have c1 := bS (Cuts.refl hg) (by decide) hs
 unfold iN at h
 cases hq : dh f d (ts.drop 1) with
 | error x => rw [hq] at h; cases h
 | ok r =>
  obtain ⟨q,vs⟩ := r
  rw [hq] at h
  simp only [Except.ok.injEq,Prod.mk.injEq] at h
  rw [← h.2]
  refine c1.trans ?_
  unfold dh at hq
  have c2 := nG c1.2
  cases h1 : hG f d (cF (ts.drop 1)) with
  | error x => simp only [h1] at hq; cases hq
  | ok r =>
   obtain ⟨its,t1⟩ := r
   have c3 := c2.trans (tj c2.2 h1)
   cases h2 : fJ f d t1 with
   | error x => simp only [h1,h2] at hq; cases hq
   | ok r =>
    obtain ⟨fr,t2⟩ := r
    have c4 : Cuts (ts.drop 1) t2 := c3.trans (tn c3.2 h2)
    cases h3 : eY f d t2 with
    | error x => simp only [h1,h2,h3] at hq; cases hq
    | ok r =>
     obtain ⟨wh,t3⟩ := r
     have c5 := c4.trans (mB c4.2 h3)
     cases h4 : fa t3 with
     | error x => simp only [h1,h2,h3,h4] at hq; cases hq
     | ok r =>
      obtain ⟨os,t4⟩ := r
      have c6 : Cuts (ts.drop 1) t4 := c5.trans (qF c5.2 h4)
      cases h5 : fW t4 with
      | error x => simp only [h1,h2,h3,h4,h5] at hq; cases hq
      | ok r =>
       obtain ⟨⟨li,lim⟩,t5⟩ := r
       simp only [h1,h2,h3,h4,h5,Except.ok.injEq,Prod.mk.injEq] at hq
       rw [← hq.2]
       exact c6.trans (qG c6.2 h5)
end Go.WK
namespace Go.WK
open Go.RowKit
theorem row_suf {w : World} {a : Addr} {T us : List Tok} (h : Rd w (some a) (toksV T)) (hu : us <:+ T) : Rd w (some (a.add ((T.length - us.length) * 3))) (toksV us) := by
 intro j u hj
 obtain ⟨a1,ha,hc⟩ := h ((T.length - us.length) * 3 + j) u (by rw [← List.getElem?_drop,iI,mt hu]; exact hj)
 cases ha
 exact ⟨_,rfl,by rw [gU]; exact hc⟩
end Go.WK
namespace Go.WK
open Go.RowKit
theorem app_str {P : Program} {w : World} {t u ty e : TypeId} {i : TypeInfo} (ht : P.underlying t = some (.slice e)) (hu : P.underlying u = some .string) (hi : P.info? e = some i) (hz : i.zero = some (.int .u8 0)) (hsize : i.size = 1) (hby : i.bytes = 1)
  {v : Value} {n : Nat} {xs : List Value} (hown : w.ownsRow 0 e 1 v n xs) (s : ByteArray) (h63 : n + s.size ≤ maxLen) (hbytes : n + s.size ≤ 140737488355328) :
  ∃ v' w',(Builtin.append_ #[t,u] ty #[v,.string s]).run P w = .ok v' w' ∧ w'.ownsRow 0 e 1 v' (n + s.size) (xs ++ Lib.strCells s) ∧ w.grownBy w' v.ownBlock ∧ (v'.ownBlock = v.ownBlock ∨ v'.ownBlock = some w.heap.size) := by
 obtain ⟨v',w',hr,ho,hg,_⟩ := Lib.run_append_own_string (P := P) w 0 t u ty e i ht hu hi hz hsize hby v n xs hown s h63 hbytes (Nat.zero_le _)
 refine ⟨v',w',hr,ho,hg, ?_⟩
 have hsmall : n + s.size ≤ 9223372036854775807 := by simp only [maxLen] at h63; omega
 have hxl : xs.length = n := by simpa using hown.1
 rcases hown.2 with ⟨rfl,rfl⟩ | ⟨g,cap,cur,rfl,hbg,hgg,hnc,hcm,hcs,htake⟩
 · by_cases hm : s.size = 0
   · have hf := Lib.run_firstCells_string (P := P) w 1 s
     rw [hm] at hf
     have hr2 : (Builtin.append_ #[t,u] ty #[.slice none 0 0,.string s]).run P w = .ok (.slice none 0 0) w := by
      simp [Builtin.append_,run_underlying ht,run_underlying hu,sizeOf,typeInfo,hi,hsize,Builtin.lenOf,hm,hf]
     rw [hr2] at hr
     cases hr
     exact .inl rfl
   · have hr2 := run_append_nil_string (P := P) w t u ty e i (.int .u8 0) ht hu hi hz s (by omega) (by omega) (by rw [hby]; omega)
     rw [hr2] at hr
     cases hr
     exact .inr rfl
 · by_cases hroom : n + s.size ≤ cap
   · have hcs' : cur.size = cap := by simpa using hcs
     have hr2 := Lib.run_append_room_string (P := P) w t u ty e i ht hu hi hsize g n cap cur hgg s hroom (by omega)
     rw [hr2] at hr
     cases hr
     exact .inl rfl
   · have holds : ∀ j u,xs[j]? = some u → w.cell? ((⟨g,0,none⟩ : Addr).add j) = some u := hown.cells (g := g) rfl
     have hr2 := Lib.run_append_grow_string (P := P) w t u ty e i (.int .u8 0) ht hu hi hz ⟨g,0,none⟩ n cap xs (by rw [hsize]; simpa using hxl) holds s (by omega) (by omega) (by rw [hby]; exact growslice_fits (by omega) (by omega))
     rw [hr2] at hr
     cases hr
     exact .inr rfl
theorem qN (l : List UInt8) : Lib.strCells (B l) = bM l := by
 simp [Lib.strCells,bM,fB]
section ops
variable {cx : Cx} {fs : be} {H : List Chunk} {Q : cq} {ops : Array Oper} {rest : List Oper} {g : Option (Nat × Bool)} {d : Nat} {ty : TypeId} {pos : String} {af : Array Edge}
theorem tt {x y : Operand} {t u e : TypeId} {i n c : Nat} {A : Option Addr} {xs : List Value} {s : List UInt8} (ht : cx.P.underlying t = some (.slice e)) (hu : cx.P.underlying u = some .string) (hi : (cx.P.info? e).map (fun i => (i.zero,i.size,i.bytes)) = some (some (.int .u8 0),1,1))
  (hn : Nth H i (row (.slice A n c) e 1 n xs)) (hok : okS cx.n ops fs d g = true) (hx : ev fs x = some (.slice A n c)) (hy : ev fs y = some (.string (B s))) (hb : n + s.length ≤ 70368744177664)
  (k : ∀ A' c',TriX false cx ops ((d,.slice A' (n + s.length) c') :: fs) (ig H i (row (.slice A' (n + s.length) c') e 1 (n + s.length) (xs ++ bM s))) rest Q) : TriX false cx ops fs H (⟨some d,.call ⟨.builtin .append, #[x,y], #[t,u]⟩,ty,pos,af,g⟩ :: rest) Q :=
 fA (J := Option Addr × Nat) (fun j => .slice j.1 (n + s.length) j.2) (fun j => ig H i (row (.slice j.1 (n + s.length) j.2) e 1 (n + s.length) (xs ++ bM s))) (fun _ => True) (dG hok) (fun e he => by cases he; exact fU hok)
  (fun a w ha hw => by
   obtain ⟨ti,hi0,hz,hsz,hby⟩ := info_parts hi
   have hown : w.ownsRow 0 e 1 (.slice A n c) n xs := hw.holds _ hn.mem
   obtain ⟨v',w',hrun,ho,hg,hb2⟩ := app_str (P := cx.P) (ty := ty) ht hu hi0 hz hsz hby hown (B s) (by rw [cX]; unfold maxLen; omega) (by rw [cX]; omega)
   rw [cX,qN] at ho
   obtain ⟨A',c',rfl⟩ := oR ho
   refine ⟨(A',c'),w',.inl (cQ (xs := [x,y]) ha (vs := [.slice A n c,.string (B s)]) (by simp [evs,hx,hy]) (by simp [builtin,hrun])), ?_,trivial⟩
   refine hw.change hn _ ho hg.os hg.tape hg.output hg.size (fun k hk hf => hg.block k hk (fun e => hf e.symm)) (fun k hk => ?_)
   rcases hb2 with hb2 | hb2
   · left; show (Value.slice A n c).ownBlock = some k; rw [← hb2]; exact hk
   · right; have hk' : (Value.slice A' (n + s.length) c').ownBlock = some k := hk
     rw [hb2] at hk'; cases hk'; exact Nat.le_refl _) (fun j _ => k j.1 j.2)
end ops
abbrev prD (pb : Nat) (A : Option Addr) (c : Nat) (l : List UInt8) (d m : Int) : List Chunk := [box pb 67 [.slice A l.length c,.int .i64 d,.int .i64 m],row (.slice A l.length c) 5 1 l.length (bM l)]
def prL (pb : Nat) (A : Option Addr) : List Nat := pb :: blkA A
def PrT (w : World) (pb : Nat) (A : Option Addr) (l : List UInt8) (d m : Int) : Ending → World → Prop := Turn w (prL pb A) (fun _ : Option Addr × Nat => .tuple #[]) (fun j => prD pb j.1 j.2 l d m) (fun _ => True)
def gq (w : World) (pb : Nat) (A : Option Addr) (c : Nat) (l : List UInt8) (d m : Int) : Prop := Sat ⟨default,0,[],w,prL pb A⟩ (prD pb A c l d m) w
theorem prD1 (pb : Nat) (A : Option Addr) (c : Nat) (l : List UInt8) (d m : Int) : ∀ x ∈ prD pb A c l d m,∀ k,x.fp k → k ∈ prL pb A := fun x hx k hk => by
 rcases List.mem_cons.1 hx with rfl | hx
 · have : k = pb := hk
   rw [this]; exact List.mem_cons_self
 · obtain rfl := List.mem_singleton.1 hx
   exact List.mem_cons_of_mem _ (rY hk)
theorem prD2 (pb : Nat) (A : Option Addr) (c : Nat) (l : List UInt8) (d m : Int) : ∀ k ∈ prL pb A, ∃ x ∈ prD pb A c l d m,x.fp k := fun k hk => by
 rcases List.mem_cons.1 hk with rfl | hk
 · exact ⟨_,List.mem_cons_self,rfl⟩
 · exact ⟨_,List.mem_cons_of_mem _ List.mem_cons_self,jk hk⟩
theorem pr_notin {P : Program} {n : Nat} {w w1 : World} {L : List Nat} {H : List Chunk} {pb : Nat} {A : Option Addr} {c : Nat} {l : List UInt8} {d m : Int} (h : Sat ⟨P,n,[],w,L⟩ H w1) (hm : ∀ x ∈ prD pb A c l d m,x ∈ H) : ∀ k,k < w.heap.size → k ∉ L → k ∉ prL pb A := fun k h1 h2 hk => by
 obtain ⟨x,hx,hf⟩ := prD2 pb A c l d m k hk
 rcases h.fresh x (hm x hx) k hf with h3 | h3
 · have h3 : w.heap.size ≤ k := h3
   omega
 · exact h2 h3
end Go.WK
namespace Go.WK
open Go.RowKit
theorem nH (ss : List (List UInt8)) (i : Nat) (h : i < ss.length) : (ss.take (i + 1)).flatten = (ss.take i).flatten ++ ss.getD i [] := by
 rw [mh ss i h]; simp
theorem flat_le (ss : List (List UInt8)) (i : Nat) (h : i < ss.length) : (ss.take i).flatten.length + (ss.getD i []).length ≤ ss.flatten.length := by
 have e := nH ss i h
 have e2 : ss.flatten = (ss.take (i + 1)).flatten ++ (ss.drop (i + 1)).flatten := by rw [← List.flatten_append,List.take_append_drop]
 rw [e2,e]; simp only [List.length_append]; omega
theorem prD_app {pb : Nat} {A : Option Addr} {c : Nat} {l s : List UInt8} {d m : Int} {cx : Cx} {H : List Chunk} {w : World} (h : Sat cx (box pb 67 [.slice A (l.length + s.length) c,.int .i64 d,.int .i64 m] :: row (.slice A (l.length + s.length) c) 5 1 (l.length + s.length) (bM l ++ bM s) :: H) w) : Sat cx (prD pb A c (l ++ s) d m ++ H) w := by
 simp only [prD,List.length_append,dI]
 exact h
theorem cj {pb : Nat} {A : Option Addr} {c : Nat} {l l' : List UInt8} {d d' m m' : Int} {cx : Cx} {w : World} (h1 : l = l') (h2 : d = d') (h3 : m = m') (h : Sat cx (prD pb A c l d m) w) : Sat cx (prD pb A c l' d' m') w := by
 subst h1 h2 h3; exact h
theorem bv {cx : Cx} {c : Chunk} {H : List Chunk} {w : World} {pb : Nat} {A : Option Addr} {cc : Nat} {l : List UInt8} {d m : Int} (h : Sat cx (c :: H) w) (hin : ∀ x ∈ prD pb A cc l d m,x ∈ H) {k : Nat} (hk : c.fp k) : k ∉ prL pb A := fun hm => by
 obtain ⟨x,hx,hf⟩ := prD2 pb A cc l d m k hm
 exact (List.pairwise_cons.1 h.apart).1 x (hin x hx) k hk hf
section ops
variable {cx : Cx} {fs : be} {H : List Chunk} {Q : cq} {ops : Array Oper} {rest : List Oper} {g : Option (Nat × Bool)} {dd : Nat} {ty : TypeId} {pos : String} {af : Array Edge}
theorem aK {f : Operand} {xs : List Operand} {ats : Array TypeId} {fid : FuncId} {first cap : List Value} {vs : List Value} {pb : Nat} {A : Option Addr} {c : Nat} {l l' : List UInt8} {d m d' m' : Int} (H1 : List Chunk) (hH : H = H1 ++ prD pb A c l d m) (hok : okS cx.n ops fs dd g = true)
  (hf : ev fs f = some (.func (.func fid) first.toArray cap.toArray)) (hxs : evs fs xs = some vs) (hcf : ∀ args w,(callFunc fid args).run cx.P w = .ok (.enter fid args) w)
  (hc : ∀ w,Sat cx H w → gq w pb A c l d m → (∀ x ∈ prD pb A c l d m,x ∈ H) → Calls cx.P fid (first ++ vs ++ cap).toArray w (PrT w pb A l' d' m'))
  (k : ∀ A' c',TriX false cx ops ((dd,.tuple #[]) :: fs) (H1 ++ prD pb A' c' l' d' m') rest Q) : TriX false cx ops fs H (⟨some dd,.call ⟨.value f,xs.toArray,ats⟩,ty,pos,af,g⟩ :: rest) Q := by
 have hin : ∀ x ∈ prD pb A c l d m,x ∈ H := fun x hx => by rw [hH]; exact List.mem_append_right _ hx
 refine jt (J := Option Addr × Nat) (val := fun _ => .tuple #[]) (D' := fun j => prD pb j.1 j.2 l' d' m') (Pu := fun _ => True) H1 (prD pb A c l d m) [] (prL pb A) (by rw [hH]; rfl) hok hf hxs hcf (prD1 pb A c l d m) (prD2 pb A c l d m) (fun w h1 h2 => hc w h1 h2 hin) (fun j _ => ?_)
 exact k j.1 j.2
end ops
theorem ExsK.at {bl : List Nat} {w : World} : ∀ {l : List Ex} {xs : List Value} (i : Nat),ExsK bl w l xs → i < l.length → ∃ cs,(xs.drop (i * 8)).take 8 = cs ∧ ExK bl w (l.getD i Ex.zero) cs
 | [],_,i,_,hi => by simp at hi
 | e :: es,_,i,h,hi => by
  obtain ⟨y,ys,rfl,h2,h3⟩ := h
  have hy := h2.len
  cases i with
  | zero =>
   refine ⟨y, ?_,h2⟩
   rw [Nat.zero_mul,List.drop_zero]
   exact List.take_left' hy
  | succ i =>
   obtain ⟨cs,k1,k2⟩ := ExsK.at i h3 (by simpa using hi)
   refine ⟨cs, ?_,by simpa using k2⟩
   rw [show (i + 1) * 8 = y.length + i * 8 by omega,List.drop_length_add_append]
   exact k1
theorem ExK.op {bl : List Nat} {w : World} {e : Ex} {cs : List Value} (h : ExK bl w e cs) : cs[0]? = some (.int .i64 e.o) := by
 cases e with
 | mk o v t n c as => obtain ⟨A,k,xs,rfl,_⟩ := h; rfl
theorem fb {xs : List Value} {i : Nat} {cs : List Value} (h : (xs.drop (i * 8)).take 8 = cs) {v : Value} (hv : cs[0]? = some v) : xs[i * 8 + 0]? = some v := by
 rw [← h,List.getElem?_take,if_pos (by decide),List.getElem?_drop] at hv
 exact hv
section
variable {o c : Int} {v : Val} {t n : List UInt8} {as : List Ex}
theorem cU {e : Ex} {low : Int} (h : ¬ lvl e.o < low) : e.txt low = e.core := by unfold Ex.txt gh; rw [if_neg h]
theorem kE {e : Ex} {low : Int} (h : lvl e.o < low) : e.txt low = (40 :: (e.core.1 ++ [41]),e.core.2 + 1) := by unfold Ex.txt gh; rw [if_pos h]
theorem core_1 (h : o = 1) : Ex.core (.mk o v t n c as) = ((prV v).1,0) := by rw [Ex.core,coreT,if_pos h]
theorem qO (h : o = 2) : Ex.core (.mk o v t n c as) = (if t = [] then n else t ++ (46 :: n),0) := by rw [Ex.core,coreT,if_neg (by omega),if_pos h]
theorem core_5 (h : o = 5) (ha : 0 < as.length) : Ex.core (.mk o v t n c as) = ([110,111,116,32] ++ ((as.getD 0 Ex.zero).txt 3).1,((as.getD 0 Ex.zero).txt 3).2 + 1) := by
 rw [Ex.core,coreT,if_neg (by omega),if_neg (by omega),if_pos h,iz ha]
theorem core_4 (h : o = 4) (ha : 0 < as.length) : Ex.core (.mk o v t n c as) = (45 :: ((if (as.getD 0 Ex.zero).o = 4 then [32] else []) ++ ((as.getD 0 Ex.zero).txt 7).1),((as.getD 0 Ex.zero).txt 7).2 + 1) := by
 rw [Ex.core,coreT,if_neg (by omega),if_neg (by omega),if_neg (by omega),if_pos h,iz ha,cores_op ha]
theorem core_6 (h : o = 6) (ha : 0 < as.length) : Ex.core (.mk o v t n c as) = (((as.getD 0 Ex.zero).txt 5).1 ++ [32,105,115,32,110,117,108,108],((as.getD 0 Ex.zero).txt 5).2) := by
 rw [Ex.core,coreT,if_neg (by omega),if_neg (by omega),if_neg (by omega),if_neg (by omega),if_pos h,iz ha]
theorem core_7 (h : o = 7) (ha : 0 < as.length) : Ex.core (.mk o v t n c as) = (((as.getD 0 Ex.zero).txt 5).1 ++ [32,105,115,32,110,111,116,32,110,117,108,108],((as.getD 0 Ex.zero).txt 5).2) := by
 rw [Ex.core,coreT,if_neg (by omega),if_neg (by omega),if_neg (by omega),if_neg (by omega),if_neg (by omega),if_pos h,iz ha]
theorem core_b (h1 : o ≠ 1) (h2 : o ≠ 2) (h4 : o ≠ 4) (h5 : o ≠ 5) (h6 : o ≠ 6) (h7 : o ≠ 7) (ha : 1 < as.length) : Ex.core (.mk o v t n c as) = (((as.getD 0 Ex.zero).txt (if lvl o = 4 then 5 else lvl o)).1 ++ ((32 :: (iW o ++ [32])) ++ ((as.getD 1 Ex.zero).txt (lvl o + 1)).1),max ((as.getD 0 Ex.zero).txt (if lvl o = 4 then 5 else lvl o)).2 ((as.getD 1 Ex.zero).txt (lvl o + 1)).2) := by
 rw [Ex.core,coreT,if_neg h1,if_neg h2,if_neg h5,if_neg h4,if_neg h6,if_neg h7,iz (show 0 < as.length by omega),iz ha]
end
def lI : List Opr := orO ++ (andO ++ (fV ++ (sumO ++ mulO)))
theorem op_hit : ∀ i,i < 14 → iW (lI.getD i Tok.zero).a = (lI.getD i Tok.zero).t := by decide
theorem tu {o : Int} {i : Nat} (h : ∀ j,j < i → (lI.getD j Tok.zero).a ≠ o) (h1 : (lI.getD i Tok.zero).a ≠ o) : ∀ j,j < i + 1 → (lI.getD j Tok.zero).a ≠ o := fun j hj => by
 rcases Nat.lt_or_ge j i with h2 | h2
 · exact h j h2
 · have e : j = i := by omega
   rw [e]; exact h1
theorem op_miss {o : Int} (h : ∀ i,i < 14 → (lI.getD i Tok.zero).a ≠ o) : iW o = [] := by
 have k0 := h 0 (by decide); have k1 := h 1 (by decide); have k2 := h 2 (by decide); have k3 := h 3 (by decide); have k4 := h 4 (by decide)
 have k5 := h 5 (by decide); have k6 := h 6 (by decide); have k7 := h 7 (by decide); have k8 := h 8 (by decide); have k9 := h 9 (by decide)
 have k10 := h 10 (by decide); have k11 := h 11 (by decide); have k12 := h 12 (by decide); have k13 := h 13 (by decide)
 simp only [lI,orO,andO,fV,sumO,mulO,List.getD,List.cons_append,List.nil_append,List.getElem?_cons_zero,List.getElem?_cons_succ,Option.getD_some] at k0 k1 k2 k3 k4 k5 k6 k7 k8 k9 k10 k11 k12 k13
 unfold iW
 rw [if_neg (Ne.symm k0),if_neg (Ne.symm k1),if_neg (Ne.symm k2),if_neg (Ne.symm k3),if_neg (Ne.symm k4),if_neg (Ne.symm k5),if_neg (Ne.symm k6),if_neg (Ne.symm k7),if_neg (Ne.symm k8),if_neg (Ne.symm k9),if_neg (Ne.symm k10),if_neg (Ne.symm k11),if_neg (Ne.symm k12),if_neg (Ne.symm k13)]
def gH (l : List UInt8) (m : Int) : List UInt8 × Int := if 24 < m then ([],191) else if 4096 < l.length then ([],3) else (l,0)
end Go.WK
namespace Go.WK
open Go.RowKit Go.Lib
section ops
variable {m : Bool} {cx : Cx} {fs : be} {H : List Chunk} {Q : cq} {ops : Array Oper} {rest : List Oper} {g : Option (Nat × Bool)} {d : Nat} {ty : TypeId} {pos : String} {af : Array Edge}
end ops
def dd (k : Nat) : List UInt8 := if k = 0 then [] else decDigits k
theorem r4 (k : Nat) : decDigits k = dd (k / 10) ++ [UInt8.ofNat (48 + k % 10)] := by
 unfold dd
 by_cases h : k < 10
 · rw [if_pos (by omega),s9 h,Nat.mod_eq_of_lt h]; rfl
 · rw [if_neg (by omega),dec_big h]
def mG (u k : Nat) (l : List UInt8) : Prop := k ≤ u ∧ ((l = [] ∧ k = u) ∨ (l ≠ [] ∧ decDigits u = dd k ++ l.reverse))
theorem pw {u k : Nat} {l : List UInt8} (h : mG u k l) (hc : 0 < k ∨ l.length = 0) : mG u (k / 10) (l ++ [UInt8.ofNat (48 + k % 10)]) := by
  obtain ⟨h0,h⟩ := h
  refine ⟨by omega,.inr ⟨by simp, ?_⟩⟩
  rcases h with ⟨rfl,rfl⟩ | ⟨hne,h⟩
  · rw [r4 k]; simp
  · have hk : 0 < k := by
      rcases hc with hc | hc
      · exact hc
      · exact absurd (List.length_eq_zero_iff.1 hc) hne
    rw [h,dd,if_neg (by omega),r4 k]
    simp
theorem qP {u k : Nat} {l : List UInt8} (h : mG u k l) (hu : u ≤ 9223372036854775808) : l.length ≤ 19 := by
 obtain ⟨_,⟨rfl,_⟩ | ⟨_,h⟩⟩ := h
 · simp
 · have h1 := oa hu
   rw [h] at h1
   simp at h1
   omega
theorem qQ {u k : Nat} {l : List UInt8} (h : mG u k l) (hk : ¬ 0 < k) (hl : ¬ l.length = 0) : decDigits u = l.reverse := by
 obtain ⟨_,⟨rfl,_⟩ | ⟨_,h⟩⟩ := h
 · exact absurd rfl hl
 · rw [h,dd,if_pos (by omega)]; rfl
theorem rev_snoc (l : List UInt8) (i : Nat) (h : i < l.length) : l.reverse.take (i + 1) = l.reverse.take i ++ [l.getD (l.length - 1 - i) 0] := by
 rw [mj l.reverse i (by simpa using h)]
 congr 2
 simp only [List.getD_eq_getElem?_getD,List.getElem?_reverse h]
theorem qR (a b : List UInt8) : dbl (a ++ b) = dbl a ++ dbl b := by
 induction a with
 | nil => rfl
 | cons c a ih => simp only [List.cons_append,dbl,ih]; split <;> rfl
theorem px (s : List UInt8) (j : Nat) (h : j < s.length) : dbl (s.take (j + 1)) = dbl (s.take j) ++ (if s.getD j 0 = 39 then [39,39] else [s.getD j 0]) := by
 rw [mj s j h,qR]
 simp only [dbl]
end Go.WK
namespace Go.WK
open Go.RowKit
instance : DecidableEq ColX := fun a b => decidable_of_iff (a.n = b.n ∧ a.k = b.k ∧ a.b = b.b) (by cases a; cases b; simp)
instance : DecidableEq ItemX := fun a b => decidable_of_iff (a.e = b.e ∧ a.s = b.s) (by cases a; cases b; simp)
instance : DecidableEq SrcX := fun a b => decidable_of_iff (a.t = b.t ∧ a.s = b.s ∧ a.e = b.e) (by cases a; cases b; simp)
instance : DecidableEq OrdX := fun a b => decidable_of_iff (a.n = b.n ∧ a.b = b.b) (by cases a; cases b; simp)
instance : DecidableEq SetX := fun a b => decidable_of_iff (a.n = b.n ∧ a.e = b.e) (by cases a; cases b; simp)
instance : DecidableEq QryX := fun a b => decidable_of_iff (a.di = b.di ∧ a.st = b.st ∧ a.items = b.items ∧ a.from_ = b.from_ ∧ a.wh = b.wh ∧ a.ord = b.ord ∧ a.li = b.li ∧ a.lim = b.lim) (by cases a; cases b; simp)
instance : DecidableEq StmtX := fun a b => decidable_of_iff (a.k = b.k ∧ a.t = b.t ∧ a.n = b.n ∧ a.cols = b.cols ∧ a.on = b.on ∧ a.un = b.un ∧ a.rows = b.rows ∧ a.sets = b.sets ∧ a.wh = b.wh ∧ a.q = b.q) (by cases a; cases b; simp)
def ColX.zero : ColX := ⟨[],0,false⟩
def ItemX.zero : ItemX := ⟨Ex.zero,[]⟩
def SrcX.zero : SrcX := ⟨[],[],Ex.zero⟩
def OrdX.zero : OrdX := ⟨[],false⟩
def SetX.zero : SetX := ⟨[],Ex.zero⟩
def dW (e : Ex) : Bool := bareX e 0
def gR (e : Ex) : Bool := dW e || e.may
def ft (n most : Nat) : Bool := decide (1 ≤ n) && decide (n ≤ most)
def ij (a : ItemX) : Bool := a.e.may && (decide (a.s = []) || nameOk a.s)
def iY (i : Nat) (a : SrcX) : Bool := nameOk a.t && ((decide (a.s = []) || nameOk a.s) && (if i = 0 then dW a.e else a.e.may))
def bO (g : Nat → Bool) : Nat → Bool
 | 0 => true
 | i + 1 => bO g i && g i
def fL (q : QryX) : Bool :=
 (gR q.wh && (decide (q.from_.length ≤ 4) && (decide (q.ord.length ≤ 16) && (decide (0 ≤ q.lim) && (q.li || decide (q.lim = 0)))))) &&
 ((if q.st = true then decide (q.items.length = 0) else ft q.items.length 16) &&
 (bO (fun i => ij (q.items.getD i ItemX.zero)) q.items.length && (bO (fun i => iY i (q.from_.getD i SrcX.zero)) q.from_.length && bO (fun i => nameOk (q.ord.getD i OrdX.zero).n) q.ord.length)))
def eg (s : StmtX) : StmtX :=
 if s.k = 1 then { StmtX.zero with k := 1,t := s.t,cols := s.cols }
 else if s.k = 2 then { StmtX.zero with k := 2,t := s.t }
 else if s.k = 3 then { StmtX.zero with k := 3,t := s.t,n := s.n,on := s.on,un := s.un }
 else if s.k = 4 then { StmtX.zero with k := 4,n := s.n }
 else if s.k = 5 then { StmtX.zero with k := 5,t := s.t,rows := s.rows }
 else if s.k = 6 then { StmtX.zero with k := 6,t := s.t,wh := s.wh }
 else if s.k = 7 then { StmtX.zero with k := 7,t := s.t,sets := s.sets,wh := s.wh }
 else if s.k = 8 then { StmtX.zero with k := 8,q := s.q }
 else { StmtX.zero with k := s.k }
def ew (a : ColX) : Bool := nameOk a.n && (decide (1 ≤ a.k) && decide (a.k ≤ 3))
def cS (l : List Ex) : Bool := ft l.length 16 && bO (fun k => (l.getD k Ex.zero).may) l.length
def fu (a : SetX) : Bool := nameOk a.n && a.e.may
def cL (s : StmtX) : Bool :=
 if s.k = 1 then nameOk s.t && (ft s.cols.length 16 && bO (fun i => ew (s.cols.getD i ColX.zero)) s.cols.length)
 else if s.k = 2 then nameOk s.t
 else if s.k = 3 then nameOk s.t && (nameOk s.n && (ft s.on.length 16 && bO (fun i => nameOk (s.on.getD i [])) s.on.length))
 else if s.k = 4 then nameOk s.n
 else if s.k = 5 then nameOk s.t && (decide (0 < s.rows.length) && bO (fun i => cS (s.rows.getD i [])) s.rows.length)
 else if s.k = 6 then nameOk s.t && gR s.wh
 else if s.k = 7 then nameOk s.t && (ft s.sets.length 16 && (gR s.wh && bO (fun i => fu (s.sets.getD i SetX.zero)) s.sets.length))
 else if s.k = 8 then fL s.q
 else decide (9 ≤ s.k ∧ s.k ≤ 11)
def eh (s : StmtX) : Bool := cL s && decide (s = eg s)
def cat (a b : Txt) : Txt := (a.1 ++ b.1,max a.2 b.2)
def raw (s : List UInt8) : Txt := (s,0)
def upT (g : Nat → Txt) : Nat → Txt
 | 0 => ([],0)
 | i + 1 => cat (upT g i) (g i)
def cm (i : Nat) : List UInt8 := if i = 0 then [] else [44,32]
def cr (g : Nat → Txt) (n : Nat) : Txt := upT (fun i => cat (raw (cm i)) (g i)) n
def eC (b : Bool) : List UInt8 := if b = true then [32,110,111,116,32,110,117,108,108] else []
def jl (k : Int) : List UInt8 := if k = 1 then [32,105,110,116] else if k = 2 then [32,116,101,120,116] else if k = 3 then [32,98,111,111,108] else []
def ik (a : ColX) : Txt := raw (a.n ++ (jl a.k ++ eC a.b))
def asT (s : List UInt8) : List UInt8 := if s = [] then [] else [32,97,115,32] ++ s
def dv (a : ItemX) : Txt := cat (a.e.txt 1) (raw (asT a.s))
def eD (i : Nat) (a : SrcX) : Txt := cat (raw ((if i = 0 then [32,102,114,111,109,32] else [32,106,111,105,110,32]) ++ (a.t ++ asT a.s))) (if i = 0 then ([],0) else cat (raw [32,111,110,32]) (a.e.txt 1))
def jQ (b : Bool) : List UInt8 := if b = true then [32,100,101,115,99] else []
def gS (a : OrdX) : Txt := raw (a.n ++ jQ a.b)
def cT (e : Ex) : Txt := if e.o = 0 then ([],0) else cat (raw [32,119,104,101,114,101,32]) (e.txt 1)
def iZ (a : SetX) : Txt := cat (raw (a.n ++ [32,61,32])) (a.e.txt 1)
def i6 (l : List Ex) : Txt := cat (raw [40]) (cat (cr (fun k => (l.getD k Ex.zero).txt 1) l.length) (raw [41]))
def eE (q : QryX) : List UInt8 := [115,101,108,101,99,116,32] ++ ((if q.di = true then [100,105,115,116,105,110,99,116,32] else []) ++ (if q.st = true then [42] else []))
def gI (n : Nat) : List UInt8 := if 0 < n then [32,111,114,100,101,114,32,98,121,32] else []
def limT (q : QryX) : List UInt8 := if q.li = true then [32,108,105,109,105,116,32] ++ Lib.itoa q.lim else []
def i8 (q : QryX) : Txt := cat (raw (eE q)) (cat (cr (fun i => dv (q.items.getD i ItemX.zero)) q.items.length) (cat (upT (fun i => eD i (q.from_.getD i SrcX.zero)) q.from_.length)
 (cat (cT q.wh) (cat (raw (gI q.ord.length)) (cat (cr (fun i => gS (q.ord.getD i OrdX.zero)) q.ord.length) (raw (limT q)))))))
def dk (s : StmtX) : Txt :=
 if s.k = 1 then cat (raw ([99,114,101,97,116,101,32,116,97,98,108,101,32] ++ (s.t ++ [32,40]))) (cat (cr (fun i => ik (s.cols.getD i ColX.zero)) s.cols.length) (raw [41]))
 else if s.k = 2 then raw ([100,114,111,112,32,116,97,98,108,101,32] ++ s.t)
 else if s.k = 3 then cat (raw ([99,114,101,97,116,101,32] ++ ((if s.un = true then [117,110,105,113,117,101,32] else []) ++ ([105,110,100,101,120,32] ++ (s.n ++ ([32,111,110,32] ++ (s.t ++ [32,40]))))))) (cat (cr (fun i => raw (s.on.getD i [])) s.on.length) (raw [41]))
 else if s.k = 4 then raw ([100,114,111,112,32,105,110,100,101,120,32] ++ s.n)
 else if s.k = 5 then cat (raw ([105,110,115,101,114,116,32,105,110,116,111,32] ++ (s.t ++ [32,118,97,108,117,101,115,32]))) (cr (fun i => i6 (s.rows.getD i [])) s.rows.length)
 else if s.k = 6 then cat (raw ([100,101,108,101,116,101,32,102,114,111,109,32] ++ s.t)) (cT s.wh)
 else if s.k = 7 then cat (raw ([117,112,100,97,116,101,32] ++ (s.t ++ [32,115,101,116,32]))) (cat (cr (fun i => iZ (s.sets.getD i SetX.zero)) s.sets.length) (cT s.wh))
 else if s.k = 8 then i8 s.q
 else if s.k = 9 then raw [98,101,103,105,110]
 else if s.k = 10 then raw [99,111,109,109,105,116]
 else if s.k = 11 then raw [114,111,108,108,98,97,99,107]
 else ([],0)
def prS (s : StmtX) : List UInt8 × Int := if eh s = true then gH (dk s).1 (dk s).2 else ([],1)
theorem prX_told (e : Ex) : prX e = if e.may = true then gH (e.txt 1).1 (e.txt 1).2 else ([],1) := by
 unfold prX gH
 by_cases h : e.may = true
 · rw [if_pos h,if_pos h]
   by_cases h2 : 24 < (e.txt 1).2
   · rw [if_pos h2,if_pos (show (24 : Int) < ((e.txt 1).2 : Int) by omega)]
   · rw [if_neg h2,if_neg (show ¬ (24 : Int) < ((e.txt 1).2 : Int) by omega)]
 · rw [if_neg h,if_neg h]
theorem dE (a : Txt) : cat a ([],0) = a := by simp [cat]
theorem hJ (a : Txt) : cat ([],0) a = a := by simp [cat]
theorem bZ (a b c : Txt) : cat (cat a b) c = cat a (cat b c) := by simp [cat,Nat.max_assoc]
theorem fy (a b : List UInt8) : cat (raw a) (raw b) = raw (a ++ b) := rfl
theorem upT_le (g : Nat → Txt) : ∀ {i n : Nat},i ≤ n → (upT g i).1.length ≤ (upT g n).1.length := by
 intro i n h
 induction n with
 | zero => obtain rfl : i = 0 := by omega
           exact Nat.le_refl _
 | succ n ih =>
  rcases Nat.lt_or_ge i (n + 1) with h1 | h1
  · have := ih (by omega)
    simp only [upT,cat,List.length_append]; omega
  · obtain rfl : i = n + 1 := by omega
    exact Nat.le_refl _
theorem mH (g : Nat → Txt) {i n : Nat} (h : i < n) : (upT g i).1.length + (g i).1.length ≤ (upT g n).1.length := by
 have := upT_le g (show i + 1 ≤ n by omega)
 simpa [upT,cat] using this
structure PSub (w : World) (L : List Nat) (w1 : World) (L1 : List Nat) : Prop where
 chg : Chg L w w1
 notin : ∀ k,k < w.heap.size → k ∉ L → k ∉ L1
theorem PSub.of {P : Program} {n : Nat} {w w1 : World} {L : List Nat} {H : List Chunk} {pb : Nat} {A : Option Addr} {c : Nat} {l : List UInt8} {d m : Int} (h : Sat ⟨P,n,[],w,L⟩ H w1) (hm : ∀ x ∈ prD pb A c l d m,x ∈ H) : PSub w L w1 (prL pb A) :=
 ⟨h.chg,pr_notin h hm⟩
structure PE (w : World) (L : List Nat) (bl : List Nat) : Prop where
 lt : ∀ k ∈ bl,k < w.heap.size ∧ k ∉ L
 g : ∀ k,k < 10 → k < w.heap.size ∧ k ∉ L
theorem PE.sub {w w1 : World} {L L1 bl : List Nat} (h : PE w L bl) (s : PSub w L w1 L1) : PE w1 L1 bl :=
 ⟨fun k hk => ⟨Nat.lt_of_lt_of_le (h.lt k hk).1 s.chg.size,s.notin k (h.lt k hk).1 (h.lt k hk).2⟩,fun k hk => ⟨Nat.lt_of_lt_of_le (h.g k hk).1 s.chg.size,s.notin k (h.g k hk).1 (h.g k hk).2⟩⟩
theorem PE.st {w w1 : World} {L L1 bl : List Nat} (h : PE w L bl) (s : PSub w L w1 L1) : ∀ k ∈ bl,w1.heap[k]? = w.heap[k]? := fun k hk => s.chg.block k (h.lt k hk).1 (h.lt k hk).2
theorem PE.rd {w : World} {L bl : List Nat} (h : PE w L bl) {A : Option Addr} {xs : List Value} (hx : Rd w A xs) (hb : ∀ a,A = some a → xs ≠ [] → a.block ∈ bl) (cx : Cx) (H : List Chunk) (e1 : cx.w0 = w) (e2 : cx.lent = L) : RdS cx H A xs := by
 by_cases hn : xs = []
 · subst hn; exact fun _ _ => Rd.nil _ _
 · exact RdS.lent (by rw [e1]; exact hx) (fun a ha => by rw [e2]; exact (h.lt _ (hb a ha hn)).2)
theorem ExK.psub {w w1 : World} {L L1 bl : List Nat} {e : Ex} {cs : List Value} (h : ExK bl w e cs) (p : PE w L bl) (s : PSub w L w1 L1) : ExK bl w1 e cs := ExK.stab (p.st s) _ _ h
theorem ExsK.nil {bl : List Nat} {w : World} {as : List Ex} {xs : List Value} (h : ExsK bl w as xs) (hx : xs ≠ []) : as ≠ [] := fun e => hx (by subst e; exact h)
end Go.WK
namespace Go.WK
open Go.RowKit Lib
abbrev KT := Int × List UInt8
def kt (t : Tok) : KT := (t.k,t.t)
def Stop (r : List UInt8) : Prop := r = [] ∨ (r.head?.getD 0) ∈ [(32 : UInt8),40,41,44,46]
end Go.WK
namespace Go.WK
open Go.RowKit Lib
inductive View : Ex → Prop
 | cst (v : Val) (hv : may v = true) (h0 : v.k = 1 → 0 ≤ v.n) : View (cst v)
 | nam (t n : List UInt8) (hn : nameOk n = true) (ht : t = [] ∨ nameOk t = true) : View (.mk 2 Val.zero t n 0 [])
 | un (o : Int) (a : Ex) (ho : 4 ≤ o ∧ o ≤ 7) (ha : a.may = true) : View (un o a)
 | bin (o : Int) (a b : Ex) (ho : 8 ≤ o ∧ o ≤ 21) (ha : a.may = true) (hb : b.may = true) : View (bin o a b)
theorem view {e : Ex} (h : e.may = true) : View e := by
 obtain ⟨o,v,t,n,c,as⟩ := e
 by_cases h1 : o = 1
 · subst h1
   rw [Ex.may,if_pos rfl] at h
   simp only [bareX,Bool.and_eq_true,decide_eq_true_eq,Ex.mk.injEq,Bool.or_eq_true,Bool.not_eq_true',decide_eq_false_iff_not] at h
   obtain ⟨⟨_,_,rfl,rfl,rfl,rfl⟩,h2,h3⟩ := h
   exact .cst v h2 (fun hk => h3.resolve_left (fun h => h hk))
 by_cases h2 : o = 2
 · subst h2
   rw [Ex.may,if_neg h1,if_pos rfl] at h
   simp only [bareX,Bool.and_eq_true,decide_eq_true_eq,Ex.mk.injEq,Bool.or_eq_true] at h
   obtain ⟨⟨hn,ht⟩,_,rfl,_,_,rfl,rfl⟩ := h
   exact .nam t n hn ht
 have h' := h
 rw [Ex.may,if_neg h1,if_neg h2] at h
 split at h
 · cases h
 rename_i ho
 simp only [Bool.and_eq_true,decide_eq_true_eq] at h
 obtain ⟨⟨hl,rfl,rfl,rfl,rfl⟩,hm⟩ := h
 rw [Exs.may_iff] at hm
 by_cases h4 : o = 4 ∨ o = 5 ∨ o = 6 ∨ o = 7
 · unfold arity at hl
   rw [if_pos h4] at hl
   match as,hl with
   | [a],_ => exact .un o a (by omega) (by simpa using hm)
 · unfold arity at hl
   rw [if_neg h4] at hl
   match as,hl with
   | [a,b],_ =>
    simp only [List.all_cons,List.all_nil,Bool.and_true,Bool.and_eq_true] at hm
    exact .bin o a b (by omega) hm.1 hm.2
section
variable (a b : Ex) (o : Int)
theorem c_cst (v : Val) : (cst v).core = ((prV v).1,0) := rfl
theorem c_nam (t n : List UInt8) : Ex.core (.mk 2 Val.zero t n 0 []) = (if t = [] then n else t ++ (46 :: n),0) := rfl
theorem c_not : (un 5 a).core = ([110,111,116,32] ++ (a.txt 3).1,(a.txt 3).2 + 1) := rfl
theorem c_neg : (un 4 a).core = (45 :: ((if a.o = 4 then [32] else []) ++ (a.txt 7).1),(a.txt 7).2 + 1) := rfl
theorem c_nul : (un 6 a).core = ((a.txt 5).1 ++ [32,105,115,32,110,117,108,108],(a.txt 5).2) := rfl
theorem c_nnul : (un 7 a).core = ((a.txt 5).1 ++ [32,105,115,32,110,111,116,32,110,117,108,108],(a.txt 5).2) := rfl
theorem c_bin (h : 8 ≤ o) : (bin o a b).core = ((a.txt (if lvl o = 4 then 5 else lvl o)).1 ++ ((32 :: (iW o ++ [32])) ++ (b.txt (lvl o + 1)).1),max (a.txt (if lvl o = 4 then 5 else lvl o)).2 (b.txt (lvl o + 1)).2) := by
 show coreT o _ _ _ _ = _
 unfold coreT
 rw [if_neg (by omega),if_neg (by omega),if_neg (by omega),if_neg (by omega),if_neg (by omega),if_neg (by omega)]; rfl
end
theorem r5 (o : Int) (a : Ex) : a.size < (un o a).size := by simp [un,Ex.size,Exs.size]; omega
theorem py (o : Int) (a b : Ex) : a.size < (bin o a b).size ∧ b.size < (bin o a b).size := by simp [bin,Ex.size,Exs.size]; omega
theorem kb (o : Int) : 1 ≤ lvl o ∧ lvl o ≤ 8 := by unfold lvl; repeat' split <;> omega
end Go.WK
namespace Go.WK
open Go.RowKit
theorem Exs.ok_at : ∀ {l : List Ex} {i : Nat},Exs.ok l → i < l.length → (l.getD i Ex.zero).ok
 | [],_,_,h => by simp at h
 | a :: l,0,h,_ => h.1
 | a :: l,i + 1,h,hi => by
  have := Exs.ok_at (l := l) (i := i) h.2 (by simpa using hi)
  simpa using this
theorem Exs.size_at : ∀ {l : List Ex} {i : Nat},i < l.length → (l.getD i Ex.zero).size ≤ Exs.size l
 | [],_,h => by simp at h
 | a :: l,0,_ => by simp [Exs.size]
 | a :: l,i + 1,hi => by
  have := Exs.size_at (l := l) (i := i) (by simpa using hi)
  simp only [Exs.size,List.getD_cons_succ]; omega
theorem Exs.len_size : ∀ l : List Ex,l.length ≤ Exs.size l
 | [] => Nat.le_refl _
 | a :: l => by
  have := Exs.len_size l
  have h : 1 ≤ a.size := by cases a; simp only [Ex.size]; omega
  simp only [Exs.size,List.length_cons]; omega
theorem Ex.ok_at {o c : Int} {v : Val} {t n : List UInt8} {l : List Ex} {i : Nat} (h : Ex.ok (.mk o v t n c l)) (hi : i < l.length) : (l.getD i Ex.zero).ok := Exs.ok_at h.2.2.2 hi
theorem Ex.size_at {o c : Int} {v : Val} {t n : List UInt8} {l : List Ex} {i : Nat} (hi : i < l.length) : (l.getD i Ex.zero).size < Ex.size (.mk o v t n c l) := by
 have := Exs.size_at hi
 simp only [Ex.size]; omega
theorem kZ {o c : Int} {v : Val} {t n : List UInt8} {l : List Ex} (h : Ex.may (.mk o v t n c l) = true) :
  (1 ≤ o ∧ o ≤ 21 ∧ o ≠ 3) ∧ (o = 1 → WK.may v = true) ∧ (4 ≤ o → o ≤ 7 → l.length = 1) ∧ (8 ≤ o → l.length = 2) ∧ ∀ i,i < l.length → (l.getD i Ex.zero).may = true := by
 generalize he : Ex.mk o v t n c l = e at h
 have hv := view h
 cases hv with
 | cst v' hv h0 =>
  cases he
  exact ⟨by omega,fun _ => hv,fun h => by omega,fun h => by omega,fun i hi => by simp at hi⟩
 | nam t' n' hn ht =>
  cases he
  exact ⟨by omega,fun h => by omega,fun h => by omega,fun h => by omega,fun i hi => by simp at hi⟩
 | un o' a ho ha =>
  cases he
  exact ⟨by omega,fun h => by omega,fun _ _ => rfl,fun h => by omega,fun i hi => by
   obtain rfl : i = 0 := by simpa using hi
   exact ha⟩
 | bin o' a b ho ha hb =>
  cases he
  exact ⟨by omega,fun h => by omega,fun _ h => by omega,fun h => rfl,fun i hi => by
   have hi : i < 2 := hi
   rcases (by omega : i = 0 ∨ i = 1) with rfl | rfl
   · exact ha
   · exact hb⟩
theorem r6 : ∀ (m : Nat) (e : Ex),e.size < m → e.may = true → ∀ low : Int,(e.txt low).2 ≤ (e.txt low).1.length := by
 intro m
 induction m with
 | zero => intro e h; omega
 | succ m ih =>
  intro e hs hm low
  have core : e.core.2 ≤ e.core.1.length := by
   have hv := view hm
   cases hv with
   | cst v hv h0 => rw [c_cst]; exact Nat.zero_le _
   | nam t n hn ht => rw [c_nam]; exact Nat.zero_le _
   | un o a ho ha =>
    have hsz := r5 o a
    have ih := ih a (by omega) ha
    have hcs : o = 5 ∨ o = 4 ∨ o = 6 ∨ o = 7 := by omega
    rcases hcs with rfl | rfl | rfl | rfl
    · rw [c_not]; have := ih 3; simp only [List.length_append,List.length_cons,List.length_nil]; omega
    · rw [c_neg]; have := ih 7; simp only [List.length_append,List.length_cons]; omega
    · rw [c_nul]; have := ih 5; simp only [List.length_append,List.length_cons]; omega
    · rw [c_nnul]; have := ih 5; simp only [List.length_append,List.length_cons]; omega
   | bin o a b ho ha hb =>
    have hsz := py o a b
    have iha := ih a (by omega) ha (if lvl o = 4 then 5 else lvl o)
    have ihb := ih b (by omega) hb (lvl o + 1)
    rw [c_bin a b o ho.1]
    simp only [List.length_append,List.length_cons]; omega
  by_cases hlow : lvl e.o < low
  · rw [kE hlow]; simp only [List.length_append,List.length_cons,List.length_nil]; omega
  · rw [cU hlow]; exact core
theorem bareX_eq (o : Int) (v : Val) (t n : List UInt8) (c : Int) (l : List Ex) (op : Int) : (((((decide (o = op) && decide (v = Val.zero)) && decide (t = [])) && decide (n = [])) && decide (c = 0)) && decide ((l.length : Int) = 0)) = bareX (.mk o v t n c l) op := by
 unfold bareX
 rw [Bool.eq_iff_iff]
 simp only [Bool.and_eq_true,decide_eq_true_eq,Ex.mk.injEq]
 constructor
 · rintro ⟨⟨⟨⟨⟨h1,h2⟩,h3⟩,h4⟩,h5⟩,h6⟩
   exact ⟨h1,h2,h3,h4,h5,List.length_eq_zero_iff.1 (by omega)⟩
 · rintro ⟨h1,h2,h3,h4,h5,h6⟩
   exact ⟨⟨⟨⟨⟨h1,h2⟩,h3⟩,h4⟩,h5⟩,by rw [h6]; rfl⟩
theorem may_1 (v : Val) (t n : List UInt8) (c : Int) (l : List Ex) : Ex.may (.mk 1 v t n c l) = ((bareX (.mk 1 Val.zero t n c l) 1 && WK.may v) && (decide (v.k ≠ 1) || decide (0 ≤ v.n))) := by
 rw [Ex.may,if_pos rfl,Bool.and_assoc,decide_not]
theorem may_2 (v : Val) (t n : List UInt8) (c : Int) (l : List Ex) : Ex.may (.mk 2 v t n c l) = ((nameOk n && (decide (t = []) || nameOk t)) && bareX (.mk 2 v [] [] c l) 2) := by
 rw [Ex.may,if_neg (by decide),if_pos rfl]
theorem may_no {o : Int} (v : Val) (t n : List UInt8) (c : Int) (l : List Ex) (h1 : o ≠ 1) (h2 : o ≠ 2) (h : o < 4 ∨ 21 < o) : Ex.may (.mk o v t n c l) = false := by
 rw [Ex.may,if_neg h1,if_neg h2,if_pos h]
theorem r7 {o : Int} (v : Val) (t n : List UInt8) (c : Int) (l : List Ex) (h1 : o ≠ 1) (h2 : o ≠ 2) (h : ((((decide ((l.length : Int) ≠ (arity o : Int)) || !decide (v = Val.zero)) || decide (t ≠ [])) || decide (n ≠ [])) || decide (c ≠ 0)) = true) : Ex.may (.mk o v t n c l) = false := by
 cases hm : Ex.may (.mk o v t n c l) with
 | false => rfl
 | true =>
  exfalso
  rw [Ex.may,if_neg h1,if_neg h2] at hm
  split at hm
  · cases hm
  · simp only [Bool.and_eq_true,decide_eq_true_eq] at hm
    obtain ⟨⟨a1,a2,a3,a4,a5⟩,_⟩ := hm
    simp [a1,a2,a3,a4,a5] at h
theorem om {o : Int} (v : Val) (t n : List UInt8) (c : Int) (l : List Ex) (h1 : o ≠ 1) (h2 : o ≠ 2) (ho : 4 ≤ o ∧ o ≤ 21) (h : ((((decide ((l.length : Int) ≠ (arity o : Int)) || !decide (v = Val.zero)) || decide (t ≠ [])) || decide (n ≠ [])) || decide (c ≠ 0)) = false) : Ex.may (.mk o v t n c l) = l.all Ex.may := by
 simp only [Bool.or_eq_false_iff,Bool.not_eq_false',decide_eq_true_eq,decide_eq_false_iff_not,Decidable.not_not] at h
 obtain ⟨⟨⟨⟨a1,a2⟩,a3⟩,a4⟩,a5⟩ := h
 rw [Ex.may,if_neg h1,if_neg h2,if_neg (by omega),decide_eq_true ⟨by omega,a2,a3,a4,a5⟩,Exs.may_iff,Bool.true_and]
theorem r8 {l : List Ex} {i : Nat} (hi : i < l.length) (h : (l.getD i Ex.zero).may = false) : l.all Ex.may = false := by
 cases hh : l.all Ex.may with
 | false => rfl
 | true =>
  have := List.all_eq_true.1 hh (l.getD i Ex.zero) (by simp [List.getD,hi])
  rw [h] at this; cases this
theorem pz {l : List Ex} {i : Nat} (hi : i < l.length) (h : (l.take i).all Ex.may = true) (h1 : (l.getD i Ex.zero).may = true) : (l.take (i + 1)).all Ex.may = true := by
 have e : l.take (i + 1) = l.take i ++ [l.getD i Ex.zero] := by rw [List.take_succ_eq_append_getElem hi]; simp [List.getD,hi]
 rw [e,List.all_append,h,Bool.true_and,List.all_cons,h1]; rfl
end Go.WK
namespace Go.WK
open Go.RowKit
structure SL where
 A : Option Addr
 k : Nat
def SL.nil : SL := ⟨none,0⟩
structure QLay where
 I : SL
 F : SL
 V : SL
 O : SL
structure Lay where
 C : SL
 N : SL
 R : SL
 S : SL
 W : SL
 q : QLay
def QLay.nil : QLay := ⟨.nil,.nil,.nil,.nil⟩
def Lay.nil : Lay := ⟨.nil,.nil,.nil,.nil,.nil,.nil⟩
abbrev bA (e : Ex) (y : SL) : List Value := [.int .i64 e.o,.int .i64 e.v.k,.int .i64 e.v.n,.string (B e.v.s),.string (B e.t),.string (B e.n),.int .i64 e.c,.slice y.A e.as.length y.k]
abbrev cI (q : QryX) (y : QLay) : List Value := [.bool q.di,.bool q.st,.slice y.I.A q.items.length y.I.k,.slice y.F.A q.from_.length y.F.k,
 .int .i64 q.wh.o,.int .i64 q.wh.v.k,.int .i64 q.wh.v.n,.string (B q.wh.v.s),.string (B q.wh.t),.string (B q.wh.n),.int .i64 q.wh.c,.slice y.V.A q.wh.as.length y.V.k,.slice y.O.A q.ord.length y.O.k,.bool q.li,.int .i64 q.lim]
abbrev bk (s : StmtX) (y : Lay) : List Value := [.int .i64 s.k,.string (B s.t),.string (B s.n),.slice y.C.A s.cols.length y.C.k,.slice y.N.A s.on.length y.N.k,.bool s.un,.slice y.R.A s.rows.length y.R.k,.slice y.S.A s.sets.length y.S.k,
 .int .i64 s.wh.o,.int .i64 s.wh.v.k,.int .i64 s.wh.v.n,.string (B s.wh.v.s),.string (B s.wh.t),.string (B s.wh.n),.int .i64 s.wh.c,.slice y.W.A s.wh.as.length y.W.k,
 .bool s.q.di,.bool s.q.st,.slice y.q.I.A s.q.items.length y.q.I.k,.slice y.q.F.A s.q.from_.length y.q.F.k,
 .int .i64 s.q.wh.o,.int .i64 s.q.wh.v.k,.int .i64 s.q.wh.v.n,.string (B s.q.wh.v.s),.string (B s.q.wh.t),.string (B s.q.wh.n),.int .i64 s.q.wh.c,.slice y.q.V.A s.q.wh.as.length y.q.V.k,.slice y.q.O.A s.q.ord.length y.q.O.k,.bool s.q.li,.int .i64 s.q.lim]
def SlR {α : Type} (K : Kd α) (bl : List Nat) (w : World) (l : List α) (y : SL) (xs : List Value) : Prop := l.length ≤ y.k ∧ Rd w y.A xs ∧ (∀ a,y.A = some a → xs ≠ [] → a.block ∈ bl) ∧ K.seq bl w l xs
theorem seq_nil {α : Type} {K : Kd α} {bl : List Nat} {w : World} {l : List α} {xs : List Value} (h : K.seq bl w l xs) (hx : xs ≠ []) : l ≠ [] := fun e => hx (by subst e; exact h)
theorem sl_R {α : Type} {K : Kd α} {bl : List Nat} {w : World} {l : List α} {v : Value} (h : K.sl bl w l v) : ∃ y xs,v = .slice y.A l.length y.k ∧ SlR K bl w l y xs := by
 obtain ⟨A,k,xs,h1,h2,h3,h4,h5⟩ := h
 exact ⟨⟨A,k⟩,xs,h1,h2,h3,fun a ha hx => h4 a ha (seq_nil h5 hx),h5⟩
theorem SlR.stab {α : Type} {K : Kd α} {bl : List Nat} {w w1 : World} {l : List α} {y : SL} {xs : List Value} (h : SlR K bl w l y xs) (hs : ∀ k ∈ bl,w1.heap[k]? = w.heap[k]?) : SlR K bl w1 l y xs :=
 ⟨h.1,h.2.1.same (fun a ha hne => hs _ (h.2.2.1 a ha hne)),h.2.2.1,K.seq_stab hs h.2.2.2⟩
theorem SlR.mono {α : Type} {K : Kd α} {bl bl' : List Nat} {w : World} {l : List α} {y : SL} {xs : List Value} (h : SlR K bl w l y xs) (hs : ∀ k ∈ bl,k ∈ bl') : SlR K bl' w l y xs :=
 ⟨h.1,h.2.1,fun a ha hx => hs _ (h.2.2.1 a ha hx),K.seq_mono hs h.2.2.2⟩
theorem SlR.rd {α : Type} {K : Kd α} {w : World} {L bl : List Nat} {l : List α} {y : SL} {xs : List Value} (h : SlR K bl w l y xs) (p : PE w L bl) (cx : Cx) (H : List Chunk) (e1 : cx.w0 = w) (e2 : cx.lent = L) : RdS cx H y.A xs := p.rd h.2.1 h.2.2.1 cx H e1 e2
theorem SlR.rd0 {α : Type} {K : Kd α} {w : World} {bl : List Nat} {l : List α} {y : SL} {xs : List Value} (h : SlR K bl w l y xs) (cx : Cx) (H : List Chunk) (e1 : cx.w0 = w) (e2 : cx.lent = []) : RdS cx H y.A xs := RdS.lent (by rw [e1]; exact h.2.1) (fun b hb => by rw [e2]; simp)
theorem SlR.len {α : Type} {K : Kd α} {bl : List Nat} {w : World} {l : List α} {y : SL} {xs : List Value} (h : SlR K bl w l y xs) : xs.length = l.length * K.z := K.seq_len h.2.2.2
theorem SlR.at {α : Type} {K : Kd α} {bl : List Nat} {w : World} {l : List α} {y : SL} {xs : List Value} (h : SlR K bl w l y xs) (zero : α) (i : Nat) (hi : i < l.length) : ∃ cs,(xs.drop (i * K.z)).take K.z = cs ∧ K.rel bl w (l.getD i zero) cs := K.seq_at zero i h.2.2.2 hi
theorem aD {xs cs : List Value} {a z j : Nat} {v : Value} (h : (xs.drop a).take z = cs) (hv : cs[j]? = some v) : xs[a + j]? = some v := by
 rw [← h,List.getElem?_take] at hv
 split at hv
 · rwa [List.getElem?_drop] at hv
 · cases hv
def ExR (bl : List Nat) (w : World) (e : Ex) (y : SL) : Prop := ExK bl w e (bA e y)
theorem mI {bl : List Nat} {w : World} {e : Ex} {cs : List Value} (h : ExK bl w e cs) : ∃ y,cs = bA e y ∧ ExR bl w e y := by
 have h' := h
 obtain ⟨o,v,t,n,c,as⟩ := e
 obtain ⟨A,k,xs,h1,_⟩ := h'
 exact ⟨⟨A,k⟩,h1,by unfold ExR; rw [← show _ = bA (.mk o v t n c as) ⟨A,k⟩ from h1]; exact h⟩
structure QR_ (bl : List Nat) (w : World) (q : QryX) (y : QLay) (xI xF xO : List Value) : Prop where
 I : SlR itemKd bl w q.items y.I xI
 F : SlR srcKd bl w q.from_ y.F xF
 V : ExR bl w q.wh y.V
 O : SlR ordKd bl w q.ord y.O xO
structure SR_ (bl : List Nat) (w : World) (s : StmtX) (y : Lay) (xC xN xR xS xI xF xO : List Value) : Prop where
 C : SlR colKd bl w s.cols y.C xC
 N : SlR nameKd bl w s.on y.N xN
 R : SlR rowKd bl w s.rows y.R xR
 S : SlR setKd bl w s.sets y.S xS
 W : ExR bl w s.wh y.W
 q : QR_ bl w s.q y.q xI xF xO
def QAt (bl : List Nat) (w : World) (q : QryX) (y : QLay) : Prop := ∃ xI xF xO,QR_ bl w q y xI xF xO
def SAt (bl : List Nat) (w : World) (s : StmtX) (y : Lay) : Prop := ∃ xC xN xR xS xI xF xO,SR_ bl w s y xC xN xR xS xI xF xO
theorem ExR.stab {bl : List Nat} {w w1 : World} {e : Ex} {y : SL} (h : ExR bl w e y) (hs : ∀ k ∈ bl,w1.heap[k]? = w.heap[k]?) : ExR bl w1 e y := ExK.stab hs _ _ h
theorem ExR.mono {bl bl' : List Nat} {w : World} {e : Ex} {y : SL} (h : ExR bl w e y) (hs : ∀ k ∈ bl,k ∈ bl') : ExR bl' w e y := ExK.mono hs _ _ h
theorem QAt.stab {bl : List Nat} {w w1 : World} {q : QryX} {y : QLay} (h : QAt bl w q y) (hs : ∀ k ∈ bl,w1.heap[k]? = w.heap[k]?) : QAt bl w1 q y := by
 obtain ⟨a,b,c,h⟩ := h
 exact ⟨a,b,c,h.I.stab hs,h.F.stab hs,h.V.stab hs,h.O.stab hs⟩
theorem QAt.mono {bl bl' : List Nat} {w : World} {q : QryX} {y : QLay} (h : QAt bl w q y) (hs : ∀ k ∈ bl,k ∈ bl') : QAt bl' w q y := by
 obtain ⟨a,b,c,h⟩ := h
 exact ⟨a,b,c,h.I.mono hs,h.F.mono hs,h.V.mono hs,h.O.mono hs⟩
theorem SAt.stab {bl : List Nat} {w w1 : World} {s : StmtX} {y : Lay} (h : SAt bl w s y) (hs : ∀ k ∈ bl,w1.heap[k]? = w.heap[k]?) : SAt bl w1 s y := by
 obtain ⟨a,b,c,d,e,f,g,h⟩ := h
 obtain ⟨e',f',g',hq⟩ := QAt.stab ⟨e,f,g,h.q⟩ hs
 exact ⟨a,b,c,d,e',f',g',h.C.stab hs,h.N.stab hs,h.R.stab hs,h.S.stab hs,h.W.stab hs,hq⟩
theorem SAt.mono {bl bl' : List Nat} {w : World} {s : StmtX} {y : Lay} (h : SAt bl w s y) (hs : ∀ k ∈ bl,k ∈ bl') : SAt bl' w s y := by
 obtain ⟨a,b,c,d,e,f,g,h⟩ := h
 obtain ⟨e',f',g',hq⟩ := QAt.mono ⟨e,f,g,h.q⟩ hs
 exact ⟨a,b,c,d,e',f',g',h.C.mono hs,h.N.mono hs,h.R.mono hs,h.S.mono hs,h.W.mono hs,hq⟩
theorem SAt.q {bl : List Nat} {w : World} {s : StmtX} {y : Lay} (h : SAt bl w s y) : QAt bl w s.q y.q := by
 obtain ⟨a,b,c,d,e,f,g,h⟩ := h
 exact ⟨e,f,g,h.q⟩
theorem st_at {bl : List Nat} {w : World} {s : StmtX} {cs : List Value} (h : StK bl w s cs) : ∃ y,cs = bk s y ∧ SAt bl w s y := by
 obtain ⟨vC,vN,vR,vS,vI,vF,vO,ec,fc,rfl,h2⟩ := h
 obtain ⟨yC,xC,rfl,rC⟩ := sl_R h2.cols
 obtain ⟨yN,xN,rfl,rN⟩ := sl_R h2.on
 obtain ⟨yR,xR,rfl,rR⟩ := sl_R h2.rows
 obtain ⟨yS,xS,rfl,rS⟩ := sl_R h2.sets
 obtain ⟨yW,rfl,rW⟩ := mI h2.wh
 obtain ⟨yI,xI,rfl,rI⟩ := sl_R h2.q.items
 obtain ⟨yF,xF,rfl,rF⟩ := sl_R h2.q.from_
 obtain ⟨yV,rfl,rV⟩ := mI h2.q.wh
 obtain ⟨yO,xO,rfl,rO⟩ := sl_R h2.q.ord
 exact ⟨⟨yC,yN,yR,yS,yW,⟨yI,yF,yV,yO⟩⟩,rfl,xC,xN,xR,xS,xI,xF,xO,rC,rN,rR,rS,rW,rI,rF,rV,rO⟩
structure QOk (q : QryX) : Prop where
 items : ∀ i,i < q.items.length → (q.items.getD i ItemX.zero).e.ok
 from_ : ∀ i,i < q.from_.length → (q.from_.getD i SrcX.zero).e.ok
 wh : q.wh.ok
 lim : inR q.lim = true
structure SOk (s : StmtX) : Prop where
 k : -9223372036854775808 ≤ s.k ∧ s.k ≤ 9223372036854775807
 cols : ∀ i,i < s.cols.length → -9223372036854775808 ≤ (s.cols.getD i ColX.zero).k ∧ (s.cols.getD i ColX.zero).k ≤ 9223372036854775807
 rows : ∀ i,i < s.rows.length → ∀ j,j < (s.rows.getD i []).length → ((s.rows.getD i []).getD j Ex.zero).ok
 sets : ∀ i,i < s.sets.length → (s.sets.getD i SetX.zero).e.ok
 wh : s.wh.ok
 q : QOk s.q
theorem dO {g : Nat → Bool} : ∀ {n i : Nat},bO g n = true → i < n → g i = true
 | 0,i,_,h => by omega
 | n + 1,i,h,hi => by
  simp only [bO,Bool.and_eq_true] at h
  rcases Nat.lt_or_ge i n with h1 | h1
  · exact dO h.1 h1
  · obtain rfl : i = n := by omega
    exact h.2
theorem la {e : Ex} : dW e = true ↔ e = Ex.zero := by
 obtain ⟨o,v,t,n,c,as⟩ := e
 unfold dW bareX Ex.zero
 rw [decide_eq_true_eq]
theorem may_pos {e : Ex} (h : e.may = true) : e.o ≠ 0 := by
 obtain ⟨o,v,t,n,c,as⟩ := e
 have := (kZ h).1
 show o ≠ 0
 omega
theorem kF {e : Ex} (h : gR e = true) (ho : e.o ≠ 0) : e.may = true := by
 unfold gR at h
 simp only [Bool.or_eq_true] at h
 rcases h with h | h
 · exact absurd (by rw [la.1 h]; rfl) ho
 · exact h
theorem tv {e : Ex} (h : gR e = true) (ho : e.o = 0) : e = Ex.zero := by
 unfold gR at h
 simp only [Bool.or_eq_true] at h
 rcases h with h | h
 · exact la.1 h
 · exact absurd ho (may_pos h)
end Go.WK
namespace Go.WK
open Go.RowKit
section ops
variable {m : Bool} {cx : Cx} {fs : be} {H : List Chunk} {Q : cq} {ops : Array Oper} {rest : List Oper} {g : Option (Nat × Bool)} {d : Nat} {ty : TypeId} {pos : String} {af : Array Edge}
theorem nI {x y : Operand} {t e n : Nat} {ki : IntKind} {i : Int} {cs : List Value} {v : Value} (ht : cx.P.underlying t = some (.array n e)) (he : cG cx.P e = some false) (hs : szB cx.P e = some 1) (hok : okS cx.n ops fs d g = true) (hx : ev fs x = some (.agg cs.toArray)) (hy : ev fs y = some (.int ki i))
  (h0 : 0 ≤ i) (h1 : i < n) (hl : cs.length = n) (hv : cs[i.toNat]? = some v) (k : TriX m cx ops ((d,v) :: fs) H rest Q) : TriX m cx ops fs H (⟨some d,.index t x y,ty,pos,af,g⟩ :: rest) Q :=
 bh _ hok (fun a w ha _ => by
  have hb : i.toNat + 1 ≤ cs.length := by omega
  obtain ⟨hi,hv2⟩ := List.getElem?_eq_some_iff.1 hv
  simp [execOp,ha.eval hx,ha.eval hy,Instr.index,asIntOf,run_underlying ht,df hs,h0,h1,part,dQ he,hv]) k
end ops
theorem qS {cx : Cx} {F : List Chunk} {w : World} {pb : Nat} {A : Option Addr} {c : Nat} {l : List UInt8} {d m : Int} (h : Sat cx (F ++ prD pb A c l d m) w) {ch : Chunk} (hc : ch ∈ F) {k : Nat} (hk : ch.fp k) : k ∉ prL pb A := fun hm => by
 obtain ⟨x,hx,hf⟩ := prD2 pb A c l d m k hm
 exact (List.pairwise_append.1 h.apart).2.2 ch hc x hx k hk hf
theorem PE.cons {w : World} {L bl : List Nat} {k : Nat} (h : PE w L bl) (h1 : k < w.heap.size) (h2 : k ∉ L) : PE w L (k :: bl) :=
 ⟨fun j hj => by rcases List.mem_cons.1 hj with rfl | hj; exact ⟨h1,h2⟩; exact h.lt j hj,h.g⟩
structure CEnv (w : World) (bl : List Nat) (bp pb bx : Nat) (cs : List Value) : Prop where
 p : Rd w (some ⟨bp,0,none⟩) [.pointer (some ⟨pb,0,none⟩)]
 x : Rd w (some ⟨bx,0,none⟩) cs
 bp : bp ∈ bl
 bx : bx ∈ bl
theorem CEnv.stab {w w1 : World} {bl : List Nat} {bp pb bx : Nat} {cs : List Value} (h : CEnv w bl bp pb bx cs) (hs : ∀ k ∈ bl,w1.heap[k]? = w.heap[k]?) : CEnv w1 bl bp pb bx cs :=
 ⟨h.p.same (fun a ha _ => by cases ha; exact hs _ h.bp),h.x.same (fun a ha _ => by cases ha; exact hs _ h.bx),h.bp,h.bx⟩
theorem CEnv.mono {w : World} {bl bl' : List Nat} {bp pb bx : Nat} {cs : List Value} (h : CEnv w bl bp pb bx cs) (hs : ∀ k ∈ bl,k ∈ bl') : CEnv w bl' bp pb bx cs := ⟨h.p,h.x,hs _ h.bp,hs _ h.bx⟩
theorem CEnv.rp {w : World} {L bl : List Nat} {bp pb bx : Nat} {cs : List Value} (h : CEnv w bl bp pb bx cs) (p : PE w L bl) (cx : Cx) (H : List Chunk) (e1 : cx.w0 = w) (e2 : cx.lent = L) : RdS cx H (some ⟨bp,0,none⟩) [.pointer (some ⟨pb,0,none⟩)] := p.rd h.p (fun a ha _ => by cases ha; exact h.bp) cx H e1 e2
theorem CEnv.rx {w : World} {L bl : List Nat} {bp pb bx : Nat} {cs : List Value} (h : CEnv w bl bp pb bx cs) (p : PE w L bl) (cx : Cx) (H : List Chunk) (e1 : cx.w0 = w) (e2 : cx.lent = L) : RdS cx H (some ⟨bx,0,none⟩) cs := p.rd h.x (fun a ha _ => by cases ha; exact h.bx) cx H e1 e2
theorem cenv {P : Program} {n : Nat} {w w1 : World} {L bl : List Nat} {F : List Chunk} {pb : Nat} {A : Option Addr} {c : Nat} {l : List UInt8} {d m : Int} (hV : PE w L bl) (h1 : Sat ⟨P,n,[],w,L⟩ (F ++ prD pb A c l d m) w1) {bp bx t1 t2 : Nat} {cs : List Value}
  {i j : Nat} (hp : Nth F i (box bp t1 [.pointer (some ⟨pb,0,none⟩)])) (hx : Nth F j (box bx t2 cs)) : PE w1 (prL pb A) (bp :: bx :: bl) ∧ CEnv w1 (bp :: bx :: bl) bp pb bx cs := by
 have hs : PSub w L w1 (prL pb A) := PSub.of h1 (fun x hx => List.mem_append_right _ hx)
 have np := qS h1 hp.mem (k := bp) rfl
 have nx := qS h1 hx.mem (k := bx) rfl
 have lp := h1.lt (List.mem_append_left _ hp.mem) (k := bp) rfl
 have lx := h1.lt (List.mem_append_left _ hx.mem) (k := bx) rfl
 have rd : ∀ {b t : Nat} {cs : List Value},box b t cs ∈ F → Rd w1 (some ⟨b,0,none⟩) cs := fun {b t cs} hm j u hj => by
  have hb : w1.heap[b]? = some (.cells cs.toArray t (0,0)) := h1.holds _ (List.mem_append_left _ hm)
  exact ⟨_,rfl,by rw [jr,Nat.zero_add,cell_of_row w1 b j cs.toArray t (0,0) hb]; simpa using hj⟩
 exact ⟨((hV.sub hs).cons lx nx).cons lp np,rd hp.mem,rd hx.mem,List.mem_cons_self,List.mem_cons_of_mem _ List.mem_cons_self⟩
theorem dw {xs p cs r : List Value} {a z : Nat} (h : (xs.drop a).take z = p ++ (cs ++ r)) : (xs.drop (a + p.length)).take cs.length = cs := by
 have h2 : ((xs.drop a).take z).drop p.length = cs ++ r := by rw [h,List.drop_left]
 rw [List.drop_take,List.drop_drop] at h2
 have h3 : (((xs.drop (a + p.length)).take (z - p.length))).take cs.length = cs := by rw [h2,List.take_left]
 rw [List.take_take] at h3
 have hl : cs.length ≤ z - p.length := by
  have := congrArg List.length h2
  simp only [List.length_take,List.length_append] at this
  omega
 rwa [Nat.min_eq_left hl] at h3
theorem jy {bl : List Nat} {w : World} {l : List ItemX} {y : SL} {xs : List Value} (h : SlR itemKd bl w l y xs) (i : Nat) (hi : i < l.length) : ∃ ye,(xs.drop (i * 9)).take 9 = bA (l.getD i ItemX.zero).e ye ++ [.string (B (l.getD i ItemX.zero).s)] ∧ ExR bl w (l.getD i ItemX.zero).e ye := by
 obtain ⟨cs,h1,ce,rfl,h3⟩ := h.at ItemX.zero i hi
 obtain ⟨ye,rfl,h4⟩ := mI h3
 exact ⟨ye,h1,h4⟩
theorem kc {bl : List Nat} {w : World} {l : List SrcX} {y : SL} {xs : List Value} (h : SlR srcKd bl w l y xs) (i : Nat) (hi : i < l.length) : ∃ ye,(xs.drop (i * 10)).take 10 = [.string (B (l.getD i SrcX.zero).t),.string (B (l.getD i SrcX.zero).s)] ++ bA (l.getD i SrcX.zero).e ye ∧ ExR bl w (l.getD i SrcX.zero).e ye := by
 obtain ⟨cs,h1,ce,rfl,h3⟩ := h.at SrcX.zero i hi
 obtain ⟨ye,rfl,h4⟩ := mI h3
 exact ⟨ye,h1,h4⟩
theorem lb {bl : List Nat} {w : World} {l : List SetX} {y : SL} {xs : List Value} (h : SlR setKd bl w l y xs) (i : Nat) (hi : i < l.length) : ∃ ye,(xs.drop (i * 9)).take 9 = [.string (B (l.getD i SetX.zero).n)] ++ bA (l.getD i SetX.zero).e ye ∧ ExR bl w (l.getD i SetX.zero).e ye := by
 obtain ⟨cs,h1,ce,rfl,h3⟩ := h.at SetX.zero i hi
 obtain ⟨ye,rfl,h4⟩ := mI h3
 exact ⟨ye,h1,h4⟩
theorem lc {bl : List Nat} {w : World} {l : List ColX} {y : SL} {xs : List Value} (h : SlR colKd bl w l y xs) (i : Nat) (hi : i < l.length) : (xs.drop (i * 3)).take 3 = [.string (B (l.getD i ColX.zero).n),.int .i64 (l.getD i ColX.zero).k,.bool (l.getD i ColX.zero).b] := by
 obtain ⟨cs,h1,rfl⟩ := h.at ColX.zero i hi
 exact h1
theorem ld {bl : List Nat} {w : World} {l : List OrdX} {y : SL} {xs : List Value} (h : SlR ordKd bl w l y xs) (i : Nat) (hi : i < l.length) : (xs.drop (i * 2)).take 2 = [.string (B (l.getD i OrdX.zero).n),.bool (l.getD i OrdX.zero).b] := by
 obtain ⟨cs,h1,rfl⟩ := h.at OrdX.zero i hi
 exact h1
theorem jz {bl : List Nat} {w : World} {l : List (List UInt8)} {y : SL} {xs : List Value} (h : SlR nameKd bl w l y xs) (i : Nat) (hi : i < l.length) : (xs.drop (i * 1)).take 1 = [.string (B (l.getD i []))] := by
 obtain ⟨cs,h1,rfl⟩ := h.at ([] : List UInt8) i hi
 exact h1
theorem iO {bl : List Nat} {w : World} {l : List (List Ex)} {y : SL} {xs : List Value} (h : SlR rowKd bl w l y xs) (i : Nat) (hi : i < l.length) : ∃ yr xr,(xs.drop (i * 1)).take 1 = [.slice yr.A (l.getD i []).length yr.k] ∧ SlR exKd bl w (l.getD i []) yr xr := by
 obtain ⟨cs,h1,v,rfl,h3⟩ := h.at ([] : List Ex) i hi
 obtain ⟨yr,xr,rfl,h4⟩ := sl_R h3
 exact ⟨yr,xr,h1,h4⟩
theorem nJ {bl : List Nat} {w : World} {l : List Ex} {y : SL} {xs : List Value} (h : SlR exKd bl w l y xs) (i : Nat) (hi : i < l.length) : ∃ ye,(xs.drop (i * 8)).take 8 = bA (l.getD i Ex.zero) ye ∧ ExR bl w (l.getD i Ex.zero) ye := by
 obtain ⟨cs,h1,h3⟩ := h.at Ex.zero i hi
 obtain ⟨ye,rfl,h4⟩ := mI h3
 exact ⟨ye,h1,h4⟩
end Go.WK
namespace Go.WK
open Go.RowKit
theorem benv {P : Program} {n : Nat} {w w1 : World} {L : List Nat} {F : List Chunk} {pb : Nat} {A : Option Addr} {c : Nat} {l : List UInt8} {d m : Int} (h1 : Sat ⟨P,n,[],w,L⟩ (F ++ prD pb A c l d m) w1) {b t : Nat} {cs : List Value} {i : Nat} (hb : Nth F i (box b t cs)) :
  Rd w1 (some ⟨b,0,none⟩) cs ∧ b < w1.heap.size ∧ b ∉ prL pb A := by
 refine ⟨fun j u hj => ?_,h1.lt (List.mem_append_left _ hb.mem) (k := b) rfl,qS h1 hb.mem (k := b) rfl⟩
 have hh : w1.heap[b]? = some (.cells cs.toArray t (0,0)) := h1.holds _ (List.mem_append_left _ hb.mem)
 exact ⟨_,rfl,by rw [jr,Nat.zero_add,cell_of_row w1 b j cs.toArray t (0,0) hh]; simpa using hj⟩
theorem kd_get {k : Int} (h : 1 ≤ k ∧ k ≤ 3) : ([.string (B []),.string (B [32,105,110,116]),.string (B [32,116,101,120,116]),.string (B [32,98,111,111,108])] : List Value)[k.toNat]? = some (.string (B (jl k))) := by
 rcases (by omega : k = 1 ∨ k = 2 ∨ k = 3) with rfl | rfl | rfl <;> rfl
theorem mayCol_k {a : ColX} (h : ew a = true) : 1 ≤ a.k ∧ a.k ≤ 3 := by
 unfold ew at h
 simp only [Bool.and_eq_true,decide_eq_true_eq] at h
 exact h.2
theorem maySet_1 {a : SetX} (h : fu a = true) : a.e.may = true := by
 unfold fu at h
 simp only [Bool.and_eq_true] at h
 exact h.2
theorem r9 {n k : Nat} (h : ft n k = true) : n ≤ k := by
 unfold ft at h
 simp only [Bool.and_eq_true,decide_eq_true_eq] at h
 exact h.2
theorem mayRow_p {l : List Ex} (h : cS l = true) : l.length ≤ 16 ∧ ∀ k,k < l.length → (l.getD k Ex.zero).may = true := by
 unfold cS at h
 simp only [Bool.and_eq_true] at h
 exact ⟨r9 h.1,fun k hk => dO h.2 hk⟩
section
variable {s : StmtX}
theorem st_1 (h : s.k = 1) : dk s = cat (raw ([99,114,101,97,116,101,32,116,97,98,108,101,32] ++ (s.t ++ [32,40]))) (cat (cr (fun i => ik (s.cols.getD i ColX.zero)) s.cols.length) (raw [41])) := by unfold dk; rw [if_pos h]
theorem st_2 (h : s.k = 2) : dk s = raw ([100,114,111,112,32,116,97,98,108,101,32] ++ s.t) := by unfold dk; rw [if_neg (by omega),if_pos h]
theorem st_3 (h : s.k = 3) : dk s = cat (raw ([99,114,101,97,116,101,32] ++ ((if s.un = true then [117,110,105,113,117,101,32] else []) ++ ([105,110,100,101,120,32] ++ (s.n ++ ([32,111,110,32] ++ (s.t ++ [32,40]))))))) (cat (cr (fun i => raw (s.on.getD i [])) s.on.length) (raw [41])) := by unfold dk; rw [if_neg (by omega),if_neg (by omega),if_pos h]
theorem st_4 (h : s.k = 4) : dk s = raw ([100,114,111,112,32,105,110,100,101,120,32] ++ s.n) := by unfold dk; rw [if_neg (by omega),if_neg (by omega),if_neg (by omega),if_pos h]
theorem st_5 (h : s.k = 5) : dk s = cat (raw ([105,110,115,101,114,116,32,105,110,116,111,32] ++ (s.t ++ [32,118,97,108,117,101,115,32]))) (cr (fun i => i6 (s.rows.getD i [])) s.rows.length) := by unfold dk; rw [if_neg (by omega),if_neg (by omega),if_neg (by omega),if_neg (by omega),if_pos h]
theorem st_6 (h : s.k = 6) : dk s = cat (raw ([100,101,108,101,116,101,32,102,114,111,109,32] ++ s.t)) (cT s.wh) := by unfold dk; rw [if_neg (by omega),if_neg (by omega),if_neg (by omega),if_neg (by omega),if_neg (by omega),if_pos h]
theorem st_7 (h : s.k = 7) : dk s = cat (raw ([117,112,100,97,116,101,32] ++ (s.t ++ [32,115,101,116,32]))) (cat (cr (fun i => iZ (s.sets.getD i SetX.zero)) s.sets.length) (cT s.wh)) := by unfold dk; rw [if_neg (by omega),if_neg (by omega),if_neg (by omega),if_neg (by omega),if_neg (by omega),if_neg (by omega),if_pos h]
theorem st_8 (h : s.k = 8) : dk s = i8 s.q := by unfold dk; rw [if_neg (by omega),if_neg (by omega),if_neg (by omega),if_neg (by omega),if_neg (by omega),if_neg (by omega),if_neg (by omega),if_pos h]
theorem st_9 (h : s.k = 9) : dk s = raw [98,101,103,105,110] := by unfold dk; rw [if_neg (by omega),if_neg (by omega),if_neg (by omega),if_neg (by omega),if_neg (by omega),if_neg (by omega),if_neg (by omega),if_neg (by omega),if_pos h]
theorem st_10 (h : s.k = 10) : dk s = raw [99,111,109,109,105,116] := by unfold dk; rw [if_neg (by omega),if_neg (by omega),if_neg (by omega),if_neg (by omega),if_neg (by omega),if_neg (by omega),if_neg (by omega),if_neg (by omega),if_neg (by omega),if_pos h]
theorem st_11 (h : s.k = 11) : dk s = raw [114,111,108,108,98,97,99,107] := by unfold dk; rw [if_neg (by omega),if_neg (by omega),if_neg (by omega),if_neg (by omega),if_neg (by omega),if_neg (by omega),if_neg (by omega),if_neg (by omega),if_neg (by omega),if_neg (by omega),if_pos h]
theorem qT (h : s.k = 1) : cL s = (nameOk s.t && (ft s.cols.length 16 && bO (fun i => ew (s.cols.getD i ColX.zero)) s.cols.length)) := by unfold cL; rw [if_pos h]
theorem part_2 (h : s.k = 2) : cL s = nameOk s.t := by unfold cL; rw [if_neg (by omega),if_pos h]
theorem part_3 (h : s.k = 3) : cL s = (nameOk s.t && (nameOk s.n && (ft s.on.length 16 && bO (fun i => nameOk (s.on.getD i [])) s.on.length))) := by unfold cL; rw [if_neg (by omega),if_neg (by omega),if_pos h]
theorem part_4 (h : s.k = 4) : cL s = nameOk s.n := by unfold cL; rw [if_neg (by omega),if_neg (by omega),if_neg (by omega),if_pos h]
theorem qU (h : s.k = 5) : cL s = (nameOk s.t && (decide (0 < s.rows.length) && bO (fun i => cS (s.rows.getD i [])) s.rows.length)) := by unfold cL; rw [if_neg (by omega),if_neg (by omega),if_neg (by omega),if_neg (by omega),if_pos h]
theorem oo (h : s.k = 6) : cL s = (nameOk s.t && gR s.wh) := by unfold cL; rw [if_neg (by omega),if_neg (by omega),if_neg (by omega),if_neg (by omega),if_neg (by omega),if_pos h]
theorem mJ (h : s.k = 7) : cL s = (nameOk s.t && (ft s.sets.length 16 && (gR s.wh && bO (fun i => fu (s.sets.getD i SetX.zero)) s.sets.length))) := by unfold cL; rw [if_neg (by omega),if_neg (by omega),if_neg (by omega),if_neg (by omega),if_neg (by omega),if_neg (by omega),if_pos h]
theorem oq (h : s.k = 8) : cL s = fL s.q := by unfold cL; rw [if_neg (by omega),if_neg (by omega),if_neg (by omega),if_neg (by omega),if_neg (by omega),if_neg (by omega),if_neg (by omega),if_pos h]
theorem mK (h : ¬ (1 ≤ s.k ∧ s.k ≤ 8)) : cL s = decide (9 ≤ s.k ∧ s.k ≤ 11) := by unfold cL; rw [if_neg (by omega),if_neg (by omega),if_neg (by omega),if_neg (by omega),if_neg (by omega),if_neg (by omega),if_neg (by omega),if_neg (by omega)]
end
end Go.WK
namespace Go.WK
open Go.RowKit
abbrev BIG_ : Nat := 70368744177664
structure QBd (q : QryX) : Prop where
 ni : q.items.length ≤ BIG_
 nf : q.from_.length ≤ BIG_
 no : q.ord.length ≤ BIG_
 items : ∀ i,i < q.items.length → (q.items.getD i ItemX.zero).e.size ≤ BIG_ ∧ (q.items.getD i ItemX.zero).s.length ≤ BIG_
 from_ : ∀ i,i < q.from_.length → (q.from_.getD i SrcX.zero).e.size ≤ BIG_ ∧ (q.from_.getD i SrcX.zero).t.length ≤ BIG_ ∧ (q.from_.getD i SrcX.zero).s.length ≤ BIG_
 ord : ∀ i,i < q.ord.length → (q.ord.getD i OrdX.zero).n.length ≤ BIG_
 wh : q.wh.size ≤ BIG_
structure SBd (s : StmtX) : Prop where
 t : s.t.length ≤ BIG_
 n : s.n.length ≤ BIG_
 nc : s.cols.length ≤ BIG_
 nn : s.on.length ≤ BIG_
 nr : s.rows.length ≤ BIG_
 ns : s.sets.length ≤ BIG_
 cols : ∀ i,i < s.cols.length → (s.cols.getD i ColX.zero).n.length ≤ BIG_
 on : ∀ i,i < s.on.length → (s.on.getD i []).length ≤ BIG_
 rows : ∀ i,i < s.rows.length → (s.rows.getD i []).length ≤ BIG_ ∧ ∀ j,j < (s.rows.getD i []).length → ((s.rows.getD i []).getD j Ex.zero).size ≤ BIG_
 sets : ∀ i,i < s.sets.length → (s.sets.getD i SetX.zero).e.size ≤ BIG_ ∧ (s.sets.getD i SetX.zero).n.length ≤ BIG_
 wh : s.wh.size ≤ BIG_
 q : QBd s.q
def mqA (q : QryX) : Bool := (((gR q.wh && decide ((q.from_.length : Int) ≤ 4)) && decide ((q.ord.length : Int) ≤ 16)) && decide (0 ≤ q.lim)) && (q.li || decide (q.lim = 0))
def mqB (q : QryX) : Bool := if q.st = true then decide ((q.items.length : Int) = 0) else ft q.items.length 16
theorem jA (q : QryX) : ((((mqA q && mqB q) && bO (fun i => ij (q.items.getD i ItemX.zero)) q.items.length) && bO (fun i => iY i (q.from_.getD i SrcX.zero)) q.from_.length) && bO (fun i => nameOk (q.ord.getD i OrdX.zero).n) q.ord.length) = fL q := by
 unfold fL mqA mqB
 have e1 : decide ((q.from_.length : Int) ≤ 4) = decide (q.from_.length ≤ 4) := decide_eq_decide.2 (by omega)
 have e2 : decide ((q.ord.length : Int) ≤ 16) = decide (q.ord.length ≤ 16) := decide_eq_decide.2 (by omega)
 have e3 : decide ((q.items.length : Int) = 0) = decide (q.items.length = 0) := decide_eq_decide.2 (by omega)
 rw [e1,e2,e3]
 simp only [Bool.and_assoc]
theorem tw (b : Bool) (g : Nat → ItemX) (i : Nat) : (((b && bO (fun i => ij (g i)) i) && (g i).e.may) && (decide ((g i).s = []) || nameOk (g i).s)) = (b && bO (fun i => ij (g i)) (i + 1)) := by
 simp only [bO,ij,Bool.and_assoc]
theorem tz (b : Bool) (g : Nat → SrcX) (i : Nat) : ((((b && bO (fun i => iY i (g i)) i) && nameOk (g i).t) && (decide ((g i).s = []) || nameOk (g i).s)) && ((decide ((i : Int) = 0) && dW (g i).e) || (decide (0 < (i : Int)) && (g i).e.may))) = (b && bO (fun i => iY i (g i)) (i + 1)) := by
 simp only [bO,iY,Bool.and_assoc]
 by_cases h : i = 0
 · subst h
   rw [if_pos rfl,decide_eq_true (show ((0 : Nat) : Int) = 0 by rfl),decide_eq_false (show ¬ 0 < ((0 : Nat) : Int) by decide)]; simp
 · rw [if_neg h,decide_eq_false (show ¬ (i : Int) = 0 by omega),decide_eq_true (show 0 < (i : Int) by omega)]; simp
theorem le (b : Bool) (g : Nat → List UInt8) (i : Nat) : ((b && bO (fun i => nameOk (g i)) i) && nameOk (g i)) = (b && bO (fun i => nameOk (g i)) (i + 1)) := by
 simp only [bO,Bool.and_assoc]
theorem col_step (b : Bool) (g : Nat → ColX) (i : Nat) : ((((b && bO (fun i => ew (g i)) i) && nameOk (g i).n) && decide (1 ≤ (g i).k)) && decide ((g i).k ≤ 3)) = (b && bO (fun i => ew (g i)) (i + 1)) := by
 simp only [bO,ew,Bool.and_assoc]
theorem pA (b : Bool) (g : Nat → SetX) (i : Nat) : (((b && bO (fun i => fu (g i)) i) && nameOk (g i).n) && (g i).e.may) = (b && bO (fun i => fu (g i)) (i + 1)) := by
 simp only [bO,fu,Bool.and_assoc]
theorem ex_step (b : Bool) (g : Nat → Ex) (i : Nat) : ((b && bO (fun i => (g i).may) i) && (g i).may) = (b && bO (fun i => (g i).may) (i + 1)) := by
 simp only [bO,Bool.and_assoc]
theorem row_step (b : Bool) (g : Nat → List Ex) (i : Nat) : (((b && bO (fun i => cS (g i)) i) && ft (g i).length 16) && bO (fun k => ((g i).getD k Ex.zero).may) (g i).length) = (b && bO (fun i => cS (g i)) (i + 1)) := by
 simp only [bO,cS,Bool.and_assoc]
def restB (s t : StmtX) : Bool :=
 (((((((((((((((decide (s.t = t.t) && decide (s.n = t.n)) && decide ((s.cols.length : Int) = t.cols.length)) && decide ((s.on.length : Int) = t.on.length)) && (s.un == t.un)) && decide ((s.rows.length : Int) = t.rows.length)) && decide ((s.sets.length : Int) = t.sets.length)) && (decide (s.wh.o = t.wh.o) && (decide (t.wh.o ≠ 0) || dW s.wh))) && (s.q.di == t.q.di)) && (s.q.st == t.q.st)) && decide ((s.q.items.length : Int) = t.q.items.length)) && decide ((s.q.from_.length : Int) = t.q.from_.length)) && (decide (s.q.wh.o = t.q.wh.o) && (decide (t.q.wh.o ≠ 0) || dW s.q.wh))) && decide ((s.q.ord.length : Int) = t.q.ord.length)) && (s.q.li == t.q.li)) && decide (s.q.lim = t.q.lim))
theorem lackB (e : Ex) : dW e = decide (e = Ex.zero) := by
 rw [Bool.eq_iff_iff,la,decide_eq_true_eq]
section
variable {s : StmtX}
theorem keep_1 (h : s.k = 1) : eg s = { StmtX.zero with k := 1,t := s.t,cols := s.cols } := by unfold eg; rw [if_pos h]
theorem keep_2 (h : s.k = 2) : eg s = { StmtX.zero with k := 2,t := s.t } := by unfold eg; rw [if_neg (by omega),if_pos h]
theorem keep_3 (h : s.k = 3) : eg s = { StmtX.zero with k := 3,t := s.t,n := s.n,on := s.on,un := s.un } := by unfold eg; rw [if_neg (by omega),if_neg (by omega),if_pos h]
theorem keep_4 (h : s.k = 4) : eg s = { StmtX.zero with k := 4,n := s.n } := by unfold eg; rw [if_neg (by omega),if_neg (by omega),if_neg (by omega),if_pos h]
theorem keep_5 (h : s.k = 5) : eg s = { StmtX.zero with k := 5,t := s.t,rows := s.rows } := by unfold eg; rw [if_neg (by omega),if_neg (by omega),if_neg (by omega),if_neg (by omega),if_pos h]
theorem keep_6 (h : s.k = 6) : eg s = { StmtX.zero with k := 6,t := s.t,wh := s.wh } := by unfold eg; rw [if_neg (by omega),if_neg (by omega),if_neg (by omega),if_neg (by omega),if_neg (by omega),if_pos h]
theorem keep_7 (h : s.k = 7) : eg s = { StmtX.zero with k := 7,t := s.t,sets := s.sets,wh := s.wh } := by unfold eg; rw [if_neg (by omega),if_neg (by omega),if_neg (by omega),if_neg (by omega),if_neg (by omega),if_neg (by omega),if_pos h]
theorem keep_8 (h : s.k = 8) : eg s = { StmtX.zero with k := 8,q := s.q } := by unfold eg; rw [if_neg (by omega),if_neg (by omega),if_neg (by omega),if_neg (by omega),if_neg (by omega),if_neg (by omega),if_neg (by omega),if_pos h]
theorem qV (h : ¬ (1 ≤ s.k ∧ s.k ≤ 8)) : eg s = { StmtX.zero with k := s.k } := by unfold eg; rw [if_neg (by omega),if_neg (by omega),if_neg (by omega),if_neg (by omega),if_neg (by omega),if_neg (by omega),if_neg (by omega),if_neg (by omega)]
end
theorem len0 {α : Type} (l : List α) : ((l.length : Int) = (([] : List α).length : Int)) ↔ l = [] := by
 rw [← List.length_eq_zero_iff]; simp
theorem sa (e : Ex) : (decide (e.o = Ex.zero.o) && (decide (Ex.zero.o ≠ 0) || dW e)) = true ↔ e = Ex.zero := by
 have h0 : Ex.zero.o = 0 := rfl
 rw [h0,lackB]
 simp only [ne_eq,not_true_eq_false,decide_false,Bool.false_or,Bool.and_eq_true,decide_eq_true_eq]
 exact ⟨fun h => h.2,fun h => ⟨by rw [h]; rfl,h⟩⟩
theorem sc {e : Ex} (h : gR e = true) : (decide (e.o = e.o) && (decide (e.o ≠ 0) || dW e)) = true := by
 rw [decide_eq_true rfl,Bool.true_and]
 by_cases h0 : e.o = 0
 · rw [tv h h0]; rfl
 · rw [decide_eq_true h0]; rfl
theorem mayQ_wh {q : QryX} (h : fL q = true) : gR q.wh = true := by
 unfold fL at h
 simp only [Bool.and_eq_true] at h
 exact h.1.1
theorem fe {s t : StmtX} (hk : s.k = t.k) (hc : s.cols = t.cols ∨ t.cols = []) (hn : s.on = t.on ∨ t.on = []) (hr : s.rows = t.rows ∨ t.rows = []) (hs : s.sets = t.sets ∨ t.sets = []) (hw : (t.wh = s.wh ∧ gR s.wh = true) ∨ t.wh = Ex.zero)
  (hq : (t.q = s.q ∧ gR s.q.wh = true) ∨ t.q = QryX.zero) : restB s t = decide (s = t) := by
 have L : ∀ {α : Type} (a b : List α),(a = b ∨ b = []) → (((a.length : Int) = (b.length : Int)) ↔ a = b) := fun a b h => by
  rcases h with h | h
  · subst h; simp
  · subst h; exact len0 a
 have hW : (decide (s.wh.o = t.wh.o) && (decide (t.wh.o ≠ 0) || dW s.wh)) = true ↔ s.wh = t.wh := by
  rcases hw with ⟨h1,h2⟩ | h1
  · rw [h1]; exact iff_of_true (sc h2) rfl
  · rw [h1]; exact sa _
 have hV : (decide (s.q.wh.o = t.q.wh.o) && (decide (t.q.wh.o ≠ 0) || dW s.q.wh)) = true ↔ s.q.wh = t.q.wh := by
  rcases hq with ⟨h1,h2⟩ | h1
  · rw [h1]; exact iff_of_true (sc h2) rfl
  · rw [h1]; exact sa _
 have hI : s.q.items = t.q.items ∨ t.q.items = [] := by
  rcases hq with ⟨h1,_⟩ | h1
  · exact .inl (by rw [h1])
  · exact .inr (by rw [h1]; rfl)
 have hF : s.q.from_ = t.q.from_ ∨ t.q.from_ = [] := by
  rcases hq with ⟨h1,_⟩ | h1
  · exact .inl (by rw [h1])
  · exact .inr (by rw [h1]; rfl)
 have hO : s.q.ord = t.q.ord ∨ t.q.ord = [] := by
  rcases hq with ⟨h1,_⟩ | h1
  · exact .inl (by rw [h1])
  · exact .inr (by rw [h1]; rfl)
 rw [Bool.eq_iff_iff,decide_eq_true_eq]
 unfold restB
 obtain ⟨bW,hbW⟩ : ∃ b,b = (decide (s.wh.o = t.wh.o) && (decide (t.wh.o ≠ 0) || dW s.wh)) := ⟨_,rfl⟩
 obtain ⟨bV,hbV⟩ : ∃ b,b = (decide (s.q.wh.o = t.q.wh.o) && (decide (t.q.wh.o ≠ 0) || dW s.q.wh)) := ⟨_,rfl⟩
 rw [← hbW] at hW ⊢
 rw [← hbV] at hV ⊢
 simp only [Bool.and_eq_true,decide_eq_true_eq,beq_iff_eq,hW,hV,L _ _ hc,L _ _ hn,L _ _ hr,L _ _ hs,L _ _ hI,L _ _ hF,L _ _ hO]
 obtain ⟨k1,t1,n1,c1,o1,u1,r1,s1,w1,⟨d1,st1,i1,f1,v1,or1,l1,m1⟩⟩ := s
 obtain ⟨k2,t2,n2,c2,o2,u2,r2,s2,w2,⟨d2,st2,i2,f2,v2,or2,l2,m2⟩⟩ := t
 simp only at hk
 simp only [StmtX.mk.injEq,QryX.mk.injEq]
 constructor
 · rintro ⟨⟨⟨⟨⟨⟨⟨⟨⟨⟨⟨⟨⟨⟨⟨a1,a2⟩,a3⟩,a4⟩,a5⟩,a6⟩,a7⟩,a8⟩,a9⟩,b1⟩,b2⟩,b3⟩,b4⟩,b5⟩,b6⟩,b7⟩
   exact ⟨hk,a1,a2,a3,a4,a5,a6,a7,a8,a9,b1,b2,b3,b4,b5,b6,b7⟩
 · rintro ⟨_,a1,a2,a3,a4,a5,a6,a7,a8,a9,b1,b2,b3,b4,b5,b6,b7⟩
   exact ⟨⟨⟨⟨⟨⟨⟨⟨⟨⟨⟨⟨⟨⟨⟨a1,a2⟩,a3⟩,a4⟩,a5⟩,a6⟩,a7⟩,a8⟩,a9⟩,b1⟩,b2⟩,b3⟩,b4⟩,b5⟩,b6⟩,b7⟩
theorem rest_may (s : StmtX) : (cL s && restB s (eg s)) = eh s := by
 unfold eh
 cases hp : cL s with
 | false => rfl
 | true =>
  rw [Bool.true_and,Bool.true_and]
  have hcs : s.k = 1 ∨ s.k = 2 ∨ s.k = 3 ∨ s.k = 4 ∨ s.k = 5 ∨ s.k = 6 ∨ s.k = 7 ∨ s.k = 8 ∨ ¬ (1 ≤ s.k ∧ s.k ≤ 8) := by omega
  rcases hcs with h | h | h | h | h | h | h | h | h
  · rw [keep_1 h]; exact fe h (.inl rfl) (.inr rfl) (.inr rfl) (.inr rfl) (.inr rfl) (.inr rfl)
  · rw [keep_2 h]; exact fe h (.inr rfl) (.inr rfl) (.inr rfl) (.inr rfl) (.inr rfl) (.inr rfl)
  · rw [keep_3 h]; exact fe h (.inr rfl) (.inl rfl) (.inr rfl) (.inr rfl) (.inr rfl) (.inr rfl)
  · rw [keep_4 h]; exact fe h (.inr rfl) (.inr rfl) (.inr rfl) (.inr rfl) (.inr rfl) (.inr rfl)
  · rw [keep_5 h]; exact fe h (.inr rfl) (.inr rfl) (.inl rfl) (.inr rfl) (.inr rfl) (.inr rfl)
  · rw [oo h,Bool.and_eq_true] at hp
    rw [keep_6 h]; exact fe h (.inr rfl) (.inr rfl) (.inr rfl) (.inr rfl) (.inl ⟨rfl,hp.2⟩) (.inr rfl)
  · rw [mJ h] at hp
    simp only [Bool.and_eq_true] at hp
    rw [keep_7 h]; exact fe h (.inr rfl) (.inr rfl) (.inr rfl) (.inl rfl) (.inl ⟨rfl,hp.2.2.1⟩) (.inr rfl)
  · rw [oq h] at hp
    rw [keep_8 h]; exact fe h (.inr rfl) (.inr rfl) (.inr rfl) (.inr rfl) (.inr rfl) (.inl ⟨rfl,mayQ_wh hp⟩)
  · rw [qV h]; exact fe rfl (.inr rfl) (.inr rfl) (.inr rfl) (.inr rfl) (.inr rfl) (.inr rfl)
end Go.WK
namespace Go.WK
open Go.RowKit
inductive OT
 | nil
 | fix (i : Nat) (t : OT)
 | op (i : Nat) (t : OT)
 | two (i j : Nat) (s t : OT)
def OT.len : OT → Nat
 | .nil => 0
 | .fix _ t => t.len + 1
 | .op _ t => t.len + 1
 | .two _ _ s _ => s.len + 1
def eF (md : Region.Mode) (ops : Array Oper) : OT → Array Bool → Bool
 | .nil,listed => (Region.ready md ops listed).isEmpty
 | .fix i t,listed => (Region.ready md ops listed).contains i && (Region.free md ops listed i && eF md ops t (listed.setIfInBounds i true))
 | .op i t,listed => Region.ready md ops listed == [i] && eF md ops t (listed.setIfInBounds i true)
 | .two i j s t,listed => Region.ready md ops listed == [i,j] && (s.len == t.len && (eF md ops s (listed.setIfInBounds i true) && eF md ops t (listed.setIfInBounds j true)))
def mixBT (md : Region.Mode) (ops : Array Oper) (t : OT) : Bool := Region.noSelect ops && ((t.len == ops.size) && eF md ops t (Array.replicate ops.size false))
def jm (P : Program) (ops : Array Oper) (C : World → Prop) (Q : Act → World → Prop) : OT → Act → World → Prop
 | .nil,a,w => Q a w
 | .fix i t,a,w => ∃ o v,ops[i]? = some o ∧ YieldsF P ops C o v a ∧ ∀ w',Chg [] w w' → jm P ops C Q t (a.put o.dst v) w'
 | .op i t,a,w => wpOp P ops ii i (fun a' w' => C w' ∧ ∀ w'',Chg [] w' w'' → jm P ops C Q t a' w'') a w
 | .two i j s t,a,w => wpOp P ops ii i (fun a' w' => C w' ∧ ∀ w'',Chg [] w' w'' → jm P ops C Q s a' w'') a w ∧ wpOp P ops ii j (fun a' w' => C w' ∧ ∀ w'',Chg [] w' w'' → jm P ops C Q t a' w'') a w
section
variable {P : Program} {ops : Array Oper} {md : Region.Mode} {C : World → Prop}
theorem dX {Q : Act → World → Prop} (hs : Region.noSelect ops = true) (hext : ∀ w w',C w → Chg [] w w' → C w') : ∀ (t : OT) (listed : Array Bool) (a : Act) (w : World),
  eF md ops t listed = true → Shut md ops listed → C w → jm P ops C Q t a w → ep P md ops C (fun _ => true) Q t.len listed a w
 | .nil,_,_,_,hB,_,_,h => ⟨by simpa [eF] using hB,h⟩
 | .fix i t,listed,a,w,hB,hcl,hC,h => by
  obtain ⟨o,v,hi,hy,hk⟩ := h
  simp only [eF,Bool.and_eq_true] at hB
  obtain ⟨hr,hf,hB'⟩ := hB
  exact gn hi (Region.noSelect_spec hs) hext (fun lst j hs' hi' hji hj => rfl) t.len listed a w hcl (Region.free_spec hi hf) (by simpa using hr) hy hC
   (fun w' hw' => dX hs hext t _ _ w' hB' (hcl.set (by simpa using hr)) (hext _ _ hC hw') (hk w' hw'))
 | .op i t,listed,a,w,hB,hcl,hC,h => by
  simp only [eF,Bool.and_eq_true,beq_iff_eq] at hB
  obtain ⟨hr,hB'⟩ := hB
  show ep P md ops C _ Q (t.len + 1) listed a w
  refine ⟨fun h0 => (by rw [hr] at h0; cases h0),fun j hj => ?_⟩
  rw [hr] at hj
  obtain rfl : j = i := by simpa using hj
  exact wpOp_mono (fun a' w' h' => ⟨fun _ => h'.1,fun w'' hw'' => dX hs hext t _ a' w'' hB' (hcl.set (by rw [hr]; exact List.mem_cons_self)) (hext _ _ h'.1 (dp hw'')) (h'.2 w'' (dp hw''))⟩) h
 | .two i k s t,listed,a,w,hB,hcl,hC,h => by
  simp only [eF,Bool.and_eq_true,beq_iff_eq] at hB
  obtain ⟨hr,hl,hB1,hB2⟩ := hB
  show ep P md ops C _ Q (s.len + 1) listed a w
  refine ⟨fun h0 => (by rw [hr] at h0; cases h0),fun j hj => ?_⟩
  have hj0 := hj
  rw [hr] at hj
  rcases (by simpa using hj : j = i ∨ j = k) with rfl | rfl
  · exact wpOp_mono (fun a' w' h' => ⟨fun _ => h'.1,fun w'' hw'' => dX hs hext s _ a' w'' hB1 (hcl.set hj0) (hext _ _ h'.1 (dp hw'')) (h'.2 w'' (dp hw''))⟩) h.1
  · rw [hl]
    exact wpOp_mono (fun a' w' h' => ⟨fun _ => h'.1,fun w'' hw'' => dX hs hext t _ a' w'' hB2 (hcl.set hj0) (hext _ _ h'.1 (dp hw'')) (h'.2 w'' (dp hw''))⟩) h.2
end
section
variable {cx : Cx} {fs : be} {H C : List Chunk} {Q : cq} {ops : Array Oper}
def mL (cx : Cx) (C : List Chunk) (ops : Array Oper) (fs : be) (H : List Chunk) (t : OT) (Q : cq) : Prop :=
 ∀ a w,Has cx.n cx.ds fs a → Sat cx H w → jm cx.P ops (Sat cx C) (fun a w => iD cx Q .normal a w) t a w
theorem tri_mixT {id : Nat} {l : List Oper} (C : List Chunk) (t : OT) (hm : cx.P.follows .mixedOrders = true) (hB : mixBT .any l.toArray t = true) (hC : ∀ w,Sat cx H w → Sat cx C w)
  (h : mL cx C l.toArray fs H t Q) : Tri cx fs H (.region id l.toArray true) Q := fun a w ha hw => by
 simp only [mixBT,Bool.and_eq_true,beq_iff_eq] at hB
 have h1 := dX hB.1 (fun w w' h k => h.ext k) t _ a _ hB.2.2 (fun j oj _ hj => by rw [gA] at hj; cases hj) (hC _ hw.drew) (h a _ ha hw.drew)
 rw [hB.2.1] at h1
 exact wp_region_any hm (ea _ _ _ _ h1)
theorem pB (h : Q .normal fs H) : mL cx C ops fs H .nil Q := fun _ _ ha hw => ⟨fs,H,ha,hw,h⟩
theorem kG {i : Nat} {o : Oper} {t : OT} (hi : ops[i]? = some o) (h : TriX true cx ops fs C [o] (fun e fs' _ => e = .normal ∧ mL cx C ops fs' H t Q)) : mL cx C ops fs H (.fix i t) Q := fun a w ha hw => by
 have h1 := h a ha
 unfold eM at h1
 by_cases hw' : Region.wanted o (yielded ops a.tmps) = true
 · rw [if_pos hw'] at h1
   obtain ⟨v,h2,fs',h3,_,h4⟩ := h1
   exact ⟨o,v,hi,.inl ⟨hw',h2⟩,fun w' hc => h4 _ w' h3 (hw.ext hc)⟩
 · rw [if_neg hw'] at h1
   obtain ⟨fs',h3,_,h4⟩ := h1
   exact ⟨o,undef,hi,.inr ⟨by simpa using hw',rfl⟩,fun w' hc => h4 _ w' h3 (hw.ext hc)⟩
theorem mM {i : Nat} {o : Oper} {t : OT} (hi : ops[i]? = some o) (h : TriX false cx ops fs H [o] (fun e fs' H' => e = .normal ∧ (∀ w,Sat cx H' w → Sat cx C w) ∧ mL cx C ops fs' H' t Q)) (a : Act) (w : World) (ha : Has cx.n cx.ds fs a) (hw : Sat cx H w) :
  wpOp cx.P ops ii i (fun a' w' => Sat cx C w' ∧ ∀ w'',Chg [] w' w'' → jm cx.P ops (Sat cx C) (fun a w => iD cx Q .normal a w) t a' w'') a w := by
 have h1 := h a w ha hw
 unfold wpList at h1
 unfold wpOp
 simp only [hi]
 have key : ∀ a' w',wpList cx.P ops (iD cx (fun e fs' H' => e = .normal ∧ (∀ w,Sat cx H' w → Sat cx C w) ∧ mL cx C ops fs' H' t Q)) [] a' w' →
   Sat cx C w' ∧ ∀ w'',Chg [] w' w'' → jm cx.P ops (Sat cx C) (fun a w => iD cx Q .normal a w) t a' w'' := by
  rintro a' w' ⟨fs',H',h2,h3,_,h4,h5⟩
  exact ⟨h4 _ h3,fun w'' hc => h5 _ _ h2 (h3.ext hc)⟩
 split
 · rename_i hw'
   rw [if_pos hw'] at h1
   rcases h1 with h1 | ⟨_,a',w',fs',H',_,_,h2,_⟩
   · exact .inl (eN key (fun _ _ _ ⟨_,_,_,_,h,_⟩ => by cases h) (fun _ _ ⟨_,_,_,_,h,_⟩ => by cases h) _ h1)
   · cases h2
 · rename_i hw'
   rw [if_neg hw'] at h1
   exact key _ _ h1
theorem jB {i : Nat} {o : Oper} {t : OT} (hi : ops[i]? = some o) (h : TriX false cx ops fs H [o] (fun e fs' H' => e = .normal ∧ (∀ w,Sat cx H' w → Sat cx C w) ∧ mL cx C ops fs' H' t Q)) : mL cx C ops fs H (.op i t) Q := fun a w ha hw => mM hi h a w ha hw
theorem mixT_two {i j : Nat} {o p : Oper} {s t : OT} (hi : ops[i]? = some o) (hj : ops[j]? = some p) (h : TriX false cx ops fs H [o] (fun e fs' H' => e = .normal ∧ (∀ w,Sat cx H' w → Sat cx C w) ∧ mL cx C ops fs' H' s Q))
  (k : TriX false cx ops fs H [p] (fun e fs' H' => e = .normal ∧ (∀ w,Sat cx H' w → Sat cx C w) ∧ mL cx C ops fs' H' t Q)) : mL cx C ops fs H (.two i j s t) Q := fun a w ha hw => ⟨mM hi h a w ha hw,mM hj k a w ha hw⟩
end
end Go.WK
namespace Go.WK
open Go.RowKit
section ops
variable {cx : Cx} {fs : be} {H : List Chunk} {Q : cq} {ops : Array Oper} {rest : List Oper} {g : Option (Nat × Bool)} {d : Nat} {ty : TypeId} {pos : String} {af : Array Edge}
theorem cf {x y : Operand} {t bt b o i z : Nat} {cs vs : List Value} {v : Value} (cs' : List Value) (hz : szB cx.P t = some z) (hn : Nth H i (box b bt cs)) (hok : okW ops fs g = true) (hx : ev fs x = some (.pointer (some ⟨b,o,none⟩))) (hy : ev fs y = some v)
  (hv : v.cells = vs.toArray) (hl : vs.length = z) (hfit : o + z ≤ cs.length) (h1 : allOne vs = true) (he : setL cs o vs = cs') (k : TriX false cx ops fs (ig H i (box b bt cs')) rest Q) : TriX false cx ops fs H (⟨none,.store t x y,ty,pos,af,g⟩ :: rest) Q :=
 aO hz hn hok hx hy hv hl hfit h1 (by rw [he]; exact k)
end ops
end Go.WK
namespace Go.WK
open Go.RowKit
def flr (o : Int) : Int := if o ≤ 3 then 8 else if o = 4 then 7 else if o = 5 then 3 else if o = 10 ∨ o = 11 ∨ o = 12 then 6 else if o = 8 ∨ o = 9 ∨ o = 13 then 5 else if o = 20 then 2 else if o = 21 then 1 else 4
theorem sd {o : Int} (h : 1 ≤ o ∧ o ≤ 21 ∧ o ≠ 3) : flr o = lvl o := by
 unfold flr lvl
 repeat' split
 all_goals omega
def opsL : List (List UInt8) := [[43],[45],[42],[47],[37],[124,124],[61],[60,62],[60],[60,61],[62],[62,61],[97,110,100],[111,114]]
theorem opsL_at {o : Int} (h : 8 ≤ o ∧ o ≤ 21) : opsL.getD (o - 8).toNat [] = iW o := by
 have hcs : o = 8 ∨ o = 9 ∨ o = 10 ∨ o = 11 ∨ o = 12 ∨ o = 13 ∨ o = 14 ∨ o = 15 ∨ o = 16 ∨ o = 17 ∨ o = 18 ∨ o = 19 ∨ o = 20 ∨ o = 21 := by omega
 rcases hcs with rfl | rfl | rfl | rfl | rfl | rfl | rfl | rfl | rfl | rfl | rfl | rfl | rfl | rfl <;> decide
theorem exC_R {w : World} {e : Ex} {cs : List Value} (h : ExC w e cs) : ∃ y xs,cs = bA e y ∧ e.as.length ≤ y.k ∧ Rd w y.A xs ∧ ExsC w e.as xs := by
 obtain ⟨o,v,t,n,c,as⟩ := e
 obtain ⟨A,k,xs,h1,h2,h3,h4⟩ := h
 exact ⟨⟨A,k⟩,xs,h1,h2,h3,h4⟩
theorem ff {α : Type} {a b : List α} (z : α) (h : a.length = b.length) (hs : ∀ j,j < a.length → a.getD j z = b.getD j z) : a = b := by
 apply List.ext_getElem h
 intro i h1 h2
 have := hs i h1
 simpa [List.getD,h1,h2] using this
theorem ex_eq {a b : Ex} (h : ((((((decide (a.o ≠ b.o) || !decide (a.v = b.v)) || decide (a.t ≠ b.t)) || decide (a.n ≠ b.n)) || decide (a.c ≠ b.c)) || decide ((a.as.length : Int) ≠ b.as.length))) = false) (hs : ∀ j,j < a.as.length → a.as.getD j Ex.zero = b.as.getD j Ex.zero) : a = b := by
 simp only [Bool.or_eq_false_iff,Bool.not_eq_false',decide_eq_true_eq,decide_eq_false_iff_not,Decidable.not_not] at h
 obtain ⟨⟨⟨⟨⟨h1,h2⟩,h3⟩,h4⟩,h5⟩,h6⟩ := h
 rw [Ex.eta a,Ex.eta b,h1,h2,h3,h4,h5,ff Ex.zero (by omega) hs]
theorem ex_len {a b : Ex} (h : ((((((decide (a.o ≠ b.o) || !decide (a.v = b.v)) || decide (a.t ≠ b.t)) || decide (a.n ≠ b.n)) || decide (a.c ≠ b.c)) || decide ((a.as.length : Int) ≠ b.as.length))) = false) : a.as.length = b.as.length := by
 simp only [Bool.or_eq_false_iff,decide_eq_false_iff_not,Decidable.not_not] at h
 omega
theorem ex_ne {a b : Ex} (h : ((((((decide (a.o ≠ b.o) || !decide (a.v = b.v)) || decide (a.t ≠ b.t)) || decide (a.n ≠ b.n)) || decide (a.c ≠ b.c)) || decide ((a.as.length : Int) ≠ b.as.length))) = true) : a ≠ b := fun e => by
 subst e
 simp at h
theorem lN {e : Ex} {i : Nat} (hi : i < e.as.length) : (e.as.getD i Ex.zero).size < e.size := by
 obtain ⟨o,v,t,n,c,as⟩ := e
 exact Ex.size_at hi
theorem as_len {e : Ex} : e.as.length < e.size := by
 obtain ⟨o,v,t,n,c,as⟩ := e
 have := Exs.len_size as
 simp only [Ex.size,Ex.as]; omega
theorem as_ok {e : Ex} (h : e.ok) {i : Nat} (hi : i < e.as.length) : (e.as.getD i Ex.zero).ok := by
 obtain ⟨o,v,t,n,c,as⟩ := e
 exact Ex.ok_at h hi
theorem v_ok {e : Ex} (h : e.ok) : e.v.ok := by
 obtain ⟨o,v,t,n,c,as⟩ := e
 exact h.2.1
theorem v_size {e : Ex} : e.v.s.length + e.t.length + e.n.length < e.size := by
 obtain ⟨o,v,t,n,c,as⟩ := e
 simp only [Ex.size,Ex.v,Ex.t,Ex.n]; omega
theorem dmay_1 {e : Ex} (h : e.o = 1) : ((decide (e = .mk 1 e.v [] [] 0 []) && WK.may e.v) && (decide (e.v.k ≠ 1) || decide (0 ≤ e.v.n))) = e.may := by
 obtain ⟨o,v,t,n,c,as⟩ := e
 have h : o = 1 := h
 subst h
 rw [may_1]
 congr 2
 unfold bareX
 exact decide_eq_decide.2 (by simp [Ex.v])
theorem dmay_2 {e : Ex} (h : e.o = 2) : ((decide (e = .mk 2 Val.zero e.t e.n 0 []) && nameOk e.n) && (decide (e.t = []) || nameOk e.t)) = e.may := by
 obtain ⟨o,v,t,n,c,as⟩ := e
 have h : o = 2 := h
 subst h
 rw [may_2]
 have e1 : decide (Ex.mk 2 v t n c as = .mk 2 Val.zero t n 0 []) = bareX (.mk 2 v [] [] c as) 2 := by
  unfold bareX
  exact decide_eq_decide.2 (by simp)
 show ((decide (Ex.mk 2 v t n c as = .mk 2 Val.zero t n 0 []) && nameOk n) && (decide (t = []) || nameOk t)) = _
 rw [e1]
 cases nameOk n <;> cases (decide (t = []) || nameOk t) <;> cases bareX (.mk 2 v [] [] c as) 2 <;> rfl
theorem dmay_bad {e : Ex} (h1 : e.o ≠ 1) (h2 : e.o ≠ 2) (h : (((decide (e.o < 4) || decide (21 < e.o)) || decide ((e.as.length : Int) ≠ (arity e.o : Int))) || !decide (e = .mk e.o Val.zero [] [] 0 e.as)) = true) : e.may = false := by
 obtain ⟨o,v,t,n,c,as⟩ := e
 have h1 : o ≠ 1 := h1
 have h2 : o ≠ 2 := h2
 by_cases ho : o < 4 ∨ 21 < o
 · exact may_no v t n c as h1 h2 ho
 · refine r7 v t n c as h1 h2 ?_
   have h : (((decide (o < 4) || decide (21 < o)) || decide ((as.length : Int) ≠ (arity o : Int))) || !decide (Ex.mk o v t n c as = .mk o Val.zero [] [] 0 as)) = true := h
   rw [decide_eq_false (show ¬ o < 4 by omega),decide_eq_false (show ¬ 21 < o by omega)] at h
   simp only [Bool.false_or,Bool.or_eq_true,decide_eq_true_eq,Bool.not_eq_true',decide_eq_false_iff_not,Ex.mk.injEq,true_and,and_true] at h ⊢
   rcases h with h | h
   · exact .inl (.inl (.inl (.inl h)))
   · by_cases hv : v = Val.zero
     · by_cases ht : t = []
       · by_cases hn : n = []
         · exact .inr (fun hc => h ⟨hv,ht,hn,hc⟩)
         · exact .inl (.inr hn)
       · exact .inl (.inl (.inr ht))
     · exact .inl (.inl (.inl (.inr hv)))
theorem dmay_all {e : Ex} (h1 : e.o ≠ 1) (h2 : e.o ≠ 2) (h : (((decide (e.o < 4) || decide (21 < e.o)) || decide ((e.as.length : Int) ≠ (arity e.o : Int))) || !decide (e = .mk e.o Val.zero [] [] 0 e.as)) = false) : e.may = e.as.all Ex.may ∧ e.as.length = arity e.o := by
 obtain ⟨o,v,t,n,c,as⟩ := e
 have h1 : o ≠ 1 := h1
 have h2 : o ≠ 2 := h2
 have h : (((decide (o < 4) || decide (21 < o)) || decide ((as.length : Int) ≠ (arity o : Int))) || !decide (Ex.mk o v t n c as = .mk o Val.zero [] [] 0 as)) = false := h
 simp only [Bool.or_eq_false_iff,Bool.not_eq_false',decide_eq_true_eq,decide_eq_false_iff_not,Decidable.not_not,Ex.mk.injEq,true_and,and_true] at h
 obtain ⟨⟨⟨a1,a2⟩,a3⟩,rfl,rfl,rfl,rfl⟩ := h
 refine ⟨om _ _ _ _ as h1 h2 (by omega) (by simp; omega), ?_⟩
 show as.length = arity o
 omega
theorem nm05 {s : List UInt8} {b : Bool} (h : 1 ≤ s.length ∧ s.length ≤ 24) (hb : (decide (97 ≤ ((s.getD 0 0).toNat : Int)) && decide (((s.getD 0 0).toNat : Int) ≤ 122)) = true) (h2 : nmL false (s.drop 1) = b) : kA s = b := by
 rw [mv]
 cases s with
 | nil => simp at h
 | cons c l =>
  have h3 : gf true c = true := nm_yes true (by simpa using hb)
  rw [decide_eq_false (by simp),decide_eq_false (by omega)]
  simp only [nmL,h3,Bool.true_and,List.drop_succ_cons,List.drop_zero] at h2 ⊢
  exact h2
end Go.WK
namespace Go.WK
open Go.RowKit
theorem col_same (a b : ColX) : fD a.cs b.cs = decide (a = b) := by
 have h1 : fD a.cs b.cs = (a.n == b.n && (a.k == b.k && (a.b == b.b && true))) := by simp [ColX.cs,fD,nk]
 rw [h1,Bool.eq_iff_iff]
 obtain ⟨n,k,b1⟩ := a
 obtain ⟨n',k',b2⟩ := b
 simp
theorem ord_same (a b : OrdX) : fD a.cs b.cs = decide (a = b) := by
 have h1 : fD a.cs b.cs = (a.n == b.n && (a.b == b.b && true)) := by simp [OrdX.cs,fD,nk]
 rw [h1,Bool.eq_iff_iff]
 obtain ⟨n,b1⟩ := a
 obtain ⟨n',b2⟩ := b
 simp
def colKs : List SK := [.str,.int .i64,.bool]
def ordKs : List SK := [.str,.bool]
theorem pD (a : ColX) : eX colKs a.cs = true := by simp [colKs,ColX.cs,eX,SK.fits]
theorem pE (a : OrdX) : eX ordKs a.cs = true := by simp [ordKs,OrdX.cs,eX,SK.fits]
section ops
variable {m : Bool} {cx : Cx} {fs : be} {H : List Chunk} {Q : cq} {ops : Array Oper} {rest : List Oper} {g : Option (Nat × Bool)} {d : Nat} {ty : TypeId} {pos : String} {af : Array Edge}
theorem o_neqCol {x y : Operand} {t yt : TypeId} {a b : ColX} (hf : gW cx.P t = some colKs) (hok : okS cx.n ops fs d g = true) (hx : ev fs x = some (.agg a.cs.toArray)) (hy : ev fs y = some (.agg b.cs.toArray)) (k : TriX m cx ops ((d,.bool (!decide (a = b))) :: fs) H rest Q) :
  TriX m cx ops fs H (⟨some d,.binOp .neq t x y yt,ty,pos,af,g⟩ :: rest) Q := ql hf hok hx hy (pD a) (pD b) (by rw [col_same]; exact k)
theorem o_neqOrd {x y : Operand} {t yt : TypeId} {a b : OrdX} (hf : gW cx.P t = some ordKs) (hok : okS cx.n ops fs d g = true) (hx : ev fs x = some (.agg a.cs.toArray)) (hy : ev fs y = some (.agg b.cs.toArray)) (k : TriX m cx ops ((d,.bool (!decide (a = b))) :: fs) H rest Q) :
  TriX m cx ops fs H (⟨some d,.binOp .neq t x y yt,ty,pos,af,g⟩ :: rest) Q := ql hf hok hx hy (pE a) (pE b) (by rw [ord_same]; exact k)
end ops
section ops
variable {m : Bool} {cx : Cx} {fs : be} {H : List Chunk} {Q : cq} {ops : Array Oper} {rest : List Oper} {g : Option (Nat × Bool)} {ty : TypeId} {pos : String} {af : Array Edge}
theorem bL {d : Nat} {op : Op} (hw : gu ops fs g = some false) (hd : Nat.blt d cx.n = true) (k : TriX m cx ops ((d,undef) :: fs) H rest Q) : TriX m cx ops fs H (⟨some d,op,ty,pos,af,g⟩ :: rest) Q := by
 cases m with
 | false =>
  intro a w ha hs
  unfold wpList
  rw [if_neg (by rw [cJ ha hw _ rfl]; simp)]
  exact k _ _ (ha.put hd undef) hs
 | true =>
  intro a ha
  unfold eM
  rw [if_neg (by rw [cJ ha hw _ rfl]; simp)]
  exact k _ (ha.put hd undef)
end ops
theorem upd {α : Type} {f g : Nat → α} {i : Nat} (h : ∀ j,j < i → f j = g j) (h1 : f i = g i) : ∀ j,j < i + 1 → f j = g j := fun j hj => by
 rcases Nat.lt_or_ge j i with h2 | h2
 · exact h j h2
 · have e : j = i := by omega
   rw [e]; exact h1
theorem qW {α : Type} {l m : List α} (h : (l.length : Int) ≠ (m.length : Int)) : l ≠ m := fun e => h (by rw [e])
theorem at_ne {α : Type} {l m : List α} {i : Nat} {z : α} (h : l.getD i z ≠ m.getD i z) : l ≠ m := fun e => h (by rw [e])
theorem se {a b : ItemX} (h : a.s ≠ b.s ∨ a.e ≠ b.e) : a ≠ b := fun e => by subst e; rcases h with h | h <;> exact h rfl
theorem item_eq {a b : ItemX} (h : a.s = b.s) (h1 : a.e = b.e) : a = b := by cases a; cases b; simp_all
theorem qX {a b : SrcX} (h : a.t ≠ b.t ∨ a.s ≠ b.s ∨ a.e ≠ b.e) : a ≠ b := fun e => by subst e; rcases h with h | h | h <;> exact h rfl
theorem src_eq {a b : SrcX} (h : a.t = b.t) (h1 : a.s = b.s) (h2 : a.e = b.e) : a = b := by cases a; cases b; simp_all
theorem set_ne {a b : SetX} (h : a.n ≠ b.n ∨ a.e ≠ b.e) : a ≠ b := fun e => by subst e; rcases h with h | h <;> exact h rfl
theorem set_eq {a b : SetX} (h : a.n = b.n) (h1 : a.e = b.e) : a = b := by cases a; cases b; simp_all
def sqB (a b : QryX) : Bool := (((((((a.di != b.di) || (a.st != b.st)) || (a.li != b.li)) || decide (a.lim ≠ b.lim)) || decide ((a.items.length : Int) ≠ b.items.length)) || decide ((a.from_.length : Int) ≠ b.from_.length)) || decide ((a.ord.length : Int) ≠ b.ord.length)) || !decide (a.wh = b.wh)
theorem sq_ne {a b : QryX} (h : sqB a b = true) : a ≠ b := fun e => by
 subst e
 simp [sqB] at h
theorem sq_no {a b : QryX} (h : sqB a b = false) : (a.di = b.di ∧ a.st = b.st ∧ a.li = b.li ∧ a.lim = b.lim ∧ a.wh = b.wh) ∧ a.items.length = b.items.length ∧ a.from_.length = b.from_.length ∧ a.ord.length = b.ord.length := by
 unfold sqB at h
 simp only [Bool.or_eq_false_iff,bne_eq_false_iff_eq,decide_eq_false_iff_not,Decidable.not_not,Bool.not_eq_false',decide_eq_true_eq] at h
 obtain ⟨⟨⟨⟨⟨⟨⟨h1,h2⟩,h3⟩,h4⟩,h5⟩,h6⟩,h7⟩,h8⟩ := h
 exact ⟨⟨h1,h2,h3,h4,h8⟩,by omega,by omega,by omega⟩
theorem sq_eq {a b : QryX} (h : sqB a b = false) (h1 : ∀ j,j < a.items.length → a.items.getD j ItemX.zero = b.items.getD j ItemX.zero) (h2 : ∀ j,j < a.from_.length → a.from_.getD j SrcX.zero = b.from_.getD j SrcX.zero) (h3 : ∀ j,j < a.ord.length → a.ord.getD j OrdX.zero = b.ord.getD j OrdX.zero) : a = b := by
 obtain ⟨⟨k1,k2,k3,k4,k5⟩,k6,k7,k8⟩ := sq_no h
 have e1 := ff ItemX.zero k6 h1
 have e2 := ff SrcX.zero k7 h2
 have e3 := ff OrdX.zero k8 h3
 cases a; cases b; simp_all
def ssB (a b : StmtX) : Bool := (((((((((decide (a.k ≠ b.k) || decide (a.t ≠ b.t)) || decide (a.n ≠ b.n)) || (a.un != b.un)) || !decide (a.cols = b.cols)) || !decide (a.on = b.on)) || !decide (a.wh = b.wh)) || !decide (a.q = b.q)) || decide ((a.rows.length : Int) ≠ b.rows.length)) || decide ((a.sets.length : Int) ≠ b.sets.length))
theorem ss_ne {a b : StmtX} (h : ssB a b = true) : a ≠ b := fun e => by
 subst e
 simp [ssB] at h
theorem ss_no {a b : StmtX} (h : ssB a b = false) : (a.k = b.k ∧ a.t = b.t ∧ a.n = b.n ∧ a.un = b.un ∧ a.cols = b.cols ∧ a.on = b.on ∧ a.wh = b.wh ∧ a.q = b.q) ∧ a.rows.length = b.rows.length ∧ a.sets.length = b.sets.length := by
 unfold ssB at h
 simp only [Bool.or_eq_false_iff,bne_eq_false_iff_eq,decide_eq_false_iff_not,Decidable.not_not,Bool.not_eq_false',decide_eq_true_eq] at h
 obtain ⟨⟨⟨⟨⟨⟨⟨⟨⟨h1,h2⟩,h3⟩,h4⟩,h5⟩,h6⟩,h7⟩,h8⟩,h9⟩,h10⟩ := h
 exact ⟨⟨h1,h2,h3,h4,h5,h6,h7,h8⟩,by omega,by omega⟩
theorem ss_eq {a b : StmtX} (h : ssB a b = false) (h1 : ∀ j,j < a.rows.length → a.rows.getD j [] = b.rows.getD j []) (h2 : ∀ j,j < a.sets.length → a.sets.getD j SetX.zero = b.sets.getD j SetX.zero) : a = b := by
 obtain ⟨⟨k1,k2,k3,k4,k5,k6,k7,k8⟩,k9,k10⟩ := ss_no h
 have e1 := ff ([] : List Ex) k9 h1
 have e2 := ff SetX.zero k10 h2
 cases a; cases b; simp_all
theorem rows_ne {s t : StmtX} {i : Nat} (h : s.rows.getD i [] ≠ t.rows.getD i []) : s ≠ t := fun e => h (by rw [e])
theorem sf {s t : StmtX} {i : Nat} (h : s.sets.getD i SetX.zero ≠ t.sets.getD i SetX.zero) : s ≠ t := fun e => h (by rw [e])
theorem pF {s t : QryX} {i : Nat} (h : s.items.getD i ItemX.zero ≠ t.items.getD i ItemX.zero) : s ≠ t := fun e => h (by rw [e])
theorem ot {s t : QryX} {i : Nat} (h : s.from_.getD i SrcX.zero ≠ t.from_.getD i SrcX.zero) : s ≠ t := fun e => h (by rw [e])
theorem ords_ne {s t : QryX} {i : Nat} (h : s.ord.getD i OrdX.zero ≠ t.ord.getD i OrdX.zero) : s ≠ t := fun e => h (by rw [e])
end Go.WK
namespace Go.WK
open Go.RowKit Lib
theorem map_cons {ts : List Tok} {a : KT} {b : List KT} (h : ts.map kt = a :: b) : ∃ x y,ts = x :: y ∧ kt x = a ∧ y.map kt = b := by
 obtain ⟨x,y,h1,h2,h3⟩ := List.map_eq_cons_iff.1 h
 exact ⟨x,y,h1,h2,h3⟩
end Go.WK
namespace Go.WK
open Go.RowKit
def nmX (s : List UInt8) : Ex := .mk 2 Val.zero [] s 0 []
def fg : StmtX := { StmtX.zero with k := 8,q := { QryX.zero with items := [⟨nmX [97],[]⟩,⟨.mk 2 Val.zero [116] [98] 0 [],[99]⟩],from_ := [⟨[116],[],Ex.zero⟩] } }
def awT1 : List UInt8 := [83,69,76,69,67,84,32,97,44,32,116,46,98,32,65,83,32,99,32,70,82,79,77,32,116]
def awT2 : List UInt8 := [115,101,108,101,99,116,32,97,32,61,32,98,32,61,32,99]
def awT3 : List UInt8 := [115,101,108,101,99,116,32,97,44,32,116,46,98,32,97,115,32,99,32,102,114,111,109,32,116]
def notA : Ex := .mk 5 Val.zero [] [] 0 [nmX [97]]
theorem aw_1 : eJ awT1 = .ok fg := by kernel_rfl
theorem aw_2 : eJ awT2 = .error (190,13) := by kernel_rfl
theorem aw_3 : prS fg = (awT3,0) := by kernel_rfl
theorem aw_4 : prX notA = ([110,111,116,32,97],0) := by kernel_rfl
theorem aw_5 : eh fg = true := by kernel_rfl
theorem aw_6 : (dk fg).1.length = 25 := by kernel_rfl
theorem aw_7 : (notA.txt 1).1.length = 5 := by kernel_rfl
theorem aw_8 : notA.size = 3 := by kernel_rfl
theorem aw_s1 (ts : List Tok) (h : gB awT1 = .ok ts) : atT 1 gZ ts = true := by
 have e : gB awT1 = .ok [⟨1,[115,101,108,101,99,116],0⟩,⟨1,[97],7⟩,⟨4,[44],8⟩,⟨1,[116],10⟩,⟨4,[46],11⟩,⟨1,[98],12⟩,⟨1,[97,115],14⟩,⟨1,[99],17⟩,⟨1,[102,114,111,109],19⟩,⟨1,[116],24⟩,⟨5,[],25⟩] := by kernel_rfl
 rw [e] at h; cases h; rfl
theorem aw_s2 (ts : List Tok) (h : gB awT2 = .ok ts) : atT 1 gZ ts = true := by
 have e : gB awT2 = .ok [⟨1,[115,101,108,101,99,116],0⟩,⟨1,[97],7⟩,⟨4,[61],9⟩,⟨1,[98],11⟩,⟨4,[61],13⟩,⟨1,[99],15⟩,⟨5,[],16⟩] := by kernel_rfl
 rw [e] at h; cases h; rfl
def awY (b c : Nat) : Lay := { Lay.nil with q := ⟨⟨some ⟨b,0,none⟩,2⟩,⟨some ⟨c,0,none⟩,1⟩,SL.nil,SL.nil⟩ }
def awI : List Value := bA (nmX [97]) SL.nil ++ ([.string (B [])] ++ (bA (.mk 2 Val.zero [116] [98] 0 []) SL.nil ++ [.string (B [99])]))
def awF : List Value := [.string (B [116]),.string (B [])] ++ bA Ex.zero SL.nil
theorem lC (bl : List Nat) (w : World) (o : Int) (v : Val) (t n : List UInt8) (c : Int) : ExR bl w (.mk o v t n c []) SL.nil := ⟨none,0,[],rfl,Nat.le_refl _,Rd.nil _ _,(fun _ h => by cases h),rfl⟩
theorem eI {α : Type} (K : Kd α) (bl : List Nat) (w : World) : SlR K bl w [] SL.nil [] := ⟨Nat.le_refl _,Rd.nil _ _,(fun _ h => by cases h),rfl⟩
theorem aw_at {w : World} {b c : Nat} (hI : Rd w (some ⟨b,0,none⟩) awI) (hF : Rd w (some ⟨c,0,none⟩) awF) : SAt [b,c] w fg (awY b c) := by
 refine ⟨[],[],[],[],awI,awF,[],eI _ _ _,eI _ _ _,eI _ _ _,eI _ _ _,lC _ _ _ _ _ _ _,⟨⟨Nat.le_refl _,hI,fun a ha _ => ?_, ?_⟩,⟨Nat.le_refl _,hF,fun a ha _ => ?_, ?_⟩,lC _ _ _ _ _ _ _,eI _ _ _⟩⟩
 · cases ha; simp
 · exact ⟨bA (nmX [97]) SL.nil ++ [.string (B [])],bA (.mk 2 Val.zero [116] [98] 0 []) SL.nil ++ [.string (B [99])],rfl,⟨_,rfl,lC _ _ _ _ _ _ _⟩,_,[],by simp,⟨_,rfl,lC _ _ _ _ _ _ _⟩,rfl⟩
 · cases ha; simp
 · exact ⟨awF,[],by simp,⟨_,rfl,lC _ _ _ _ _ _ _⟩,rfl⟩
theorem nota_at {w : World} {b : Nat} (h : Rd w (some ⟨b,0,none⟩) (bA (nmX [97]) SL.nil)) : ExR [b] w notA ⟨some ⟨b,0,none⟩,1⟩ :=
 ⟨some ⟨b,0,none⟩,1,bA (nmX [97]) SL.nil,rfl,Nat.le_refl _,h,(fun a ha _ => by cases ha; simp),bA (nmX [97]) SL.nil,[],by simp,lC _ _ _ _ _ _ _,rfl⟩
theorem nm_ok (s : List UInt8) : (nmX s).ok := ⟨by omega,by unfold Val.ok Val.zero; simp,by omega,trivial⟩
theorem nota_ok : notA.ok := ⟨by omega,by unfold Val.ok Val.zero; simp,by omega,nm_ok _,trivial⟩
theorem ou : Ex.zero.ok := ⟨by omega,by unfold Val.ok Val.zero; simp,by omega,trivial⟩
theorem aw_ok : SOk fg := by
 refine ⟨⟨by decide,by decide⟩,fun i hi => absurd hi (by simp [fg,StmtX.zero]),fun i hi => absurd hi (by simp [fg,StmtX.zero]),fun i hi => absurd hi (by simp [fg,StmtX.zero]),ou,⟨fun i hi => ?_,fun i hi => ?_,ou,rfl⟩⟩
 · have hi : i < 2 := hi
   rcases (by omega : i = 0 ∨ i = 1) with rfl | rfl
   · exact nm_ok _
   · exact ⟨by omega,by unfold Val.ok Val.zero; simp,by omega,trivial⟩
 · have hi : i < 1 := hi
   obtain rfl : i = 0 := by omega
   exact ou
theorem aw_bd : SBd fg := by
 refine ⟨by decide,by decide,by decide,by decide,by decide,by decide,fun i hi => absurd hi (by simp [fg,StmtX.zero]),fun i hi => absurd hi (by simp [fg,StmtX.zero]),fun i hi => absurd hi (by simp [fg,StmtX.zero]),fun i hi => absurd hi (by simp [fg,StmtX.zero]),by decide,⟨by decide,by decide,by decide,fun i hi => ?_,fun i hi => ?_,fun i hi => absurd hi (by simp [fg,QryX.zero]),by decide⟩⟩
 · have hi : i < 2 := hi
   rcases (by omega : i = 0 ∨ i = 1) with rfl | rfl
   · exact ⟨by decide,by decide⟩
   · exact ⟨by decide,by decide⟩
 · have hi : i < 1 := hi
   obtain rfl : i = 0 := by omega
   exact ⟨by decide,by decide,by decide⟩
theorem stCs_inj {s : StmtX} {y z : Lay} (h : bk s y = bk s z) : y = z := by
 obtain ⟨⟨a1,a2⟩,⟨b1,b2⟩,⟨c1,c2⟩,⟨d1,d2⟩,⟨e1,e2⟩,⟨⟨f1,f2⟩,⟨g1,g2⟩,⟨i1,i2⟩,⟨j1,j2⟩⟩⟩ := y
 obtain ⟨⟨a1',a2'⟩,⟨b1',b2'⟩,⟨c1',c2'⟩,⟨d1',d2'⟩,⟨e1',e2'⟩,⟨⟨f1',f2'⟩,⟨g1',g2'⟩,⟨i1',i2'⟩,⟨j1',j2'⟩⟩⟩ := z
 simp only [bk,List.cons.injEq,Value.slice.injEq,true_and,and_true] at h
 simp only [Lay.mk.injEq,SL.mk.injEq,QLay.mk.injEq]
 obtain ⟨h1,h2,h3,h4,h5,h6,h7,h8,h9⟩ := h
 exact ⟨h1,h2,h3,h4,h5,h6,h7,h8,h9⟩
theorem st_at' {bl : List Nat} {w : World} {s : StmtX} {y : Lay} (h : StK bl w s (bk s y)) : SAt bl w s y := by
 obtain ⟨y',h1,h2⟩ := st_at h
 rw [stCs_inj h1]; exact h2
end Go.WK
namespace Go.WK
open Go.RowKit
theorem lO {g : Nat → Bool} {n i : Nat} (hi : i < n) (h : g i = false) : bO g n = false := by
 cases e : bO g n with
 | false => rfl
 | true => rw [dO e hi] at h; cases h
theorem row_no {l : List Ex} {i : Nat} (hi : i < l.length) (h : (l.getD i Ex.zero).may = false) : cS l = false := by
 unfold cS; rw [lO (g := fun k => (l.getD k Ex.zero).may) hi h,Bool.and_false]
theorem row_yes {l : List Ex} (h : bO (fun k => (l.getD k Ex.zero).may) l.length = true) : (decide (0 < (l.length : Int)) && decide ((l.length : Int) < 17)) = cS l := by
 unfold cS ft
 rw [h,Bool.and_true]
 congr 1
 · exact decide_eq_decide.2 (by omega)
 · exact decide_eq_decide.2 (by omega)
def dqB (q : QryX) : Bool := ((((((q.st != decide ((q.items.length : Int) = 0)) || decide (16 < (q.items.length : Int))) || decide (4 < (q.from_.length : Int))) || decide (16 < (q.ord.length : Int))) || decide (q.lim < 0)) || (!q.li && decide (q.lim ≠ 0))) || (!dW q.wh && !q.wh.may)
theorem dq_eq (q : QryX) : (mqA q && mqB q) = !dqB q := by
 unfold mqA mqB dqB ft gR
 have e1 : decide (4 < (q.from_.length : Int)) = !decide ((q.from_.length : Int) ≤ 4) := by rw [← decide_not]; exact decide_eq_decide.2 (by omega)
 have e2 : decide (16 < (q.ord.length : Int)) = !decide ((q.ord.length : Int) ≤ 16) := by rw [← decide_not]; exact decide_eq_decide.2 (by omega)
 have e3 : decide (q.lim < 0) = !decide (0 ≤ q.lim) := by rw [← decide_not]; exact decide_eq_decide.2 (by omega)
 have e4 : decide (16 < (q.items.length : Int)) = !decide (q.items.length ≤ 16) := by rw [← decide_not]; exact decide_eq_decide.2 (by omega)
 have e5 : decide ((q.items.length : Int) = 0) = !decide (1 ≤ q.items.length) := by rw [← decide_not]; exact decide_eq_decide.2 (by omega)
 rw [e1,e2,e3,e4,e5,decide_not]
 have e6 : decide (1 ≤ q.items.length) = false → decide (q.items.length ≤ 16) = true := fun h => decide_eq_true (by have := of_decide_eq_false h; omega)
 generalize decide ((q.from_.length : Int) ≤ 4) = a1
 generalize decide ((q.ord.length : Int) ≤ 16) = a2
 generalize decide (0 ≤ q.lim) = a3
 revert e6
 generalize decide (q.items.length ≤ 16) = a4
 generalize decide (1 ≤ q.items.length) = a5
 generalize decide (q.lim = 0) = a6
 generalize dW q.wh = a7
 generalize q.wh.may = a8
 generalize q.st = a9
 generalize q.li = a10
 intro e6
 cases a9 <;> cases a5 <;> simp_all <;> cases a1 <;> cases a2 <;> cases a3 <;> cases a4 <;> cases a6 <;> cases a7 <;> cases a8 <;> cases a10 <;> simp_all
theorem dq_no {q : QryX} (h : dqB q = true) : fL q = false := by
 rw [← jA,dq_eq,h]; rfl
theorem dq_items {q : QryX} {i : Nat} (hi : i < q.items.length) (h : ij (q.items.getD i ItemX.zero) = false) : fL q = false := by
 rw [← jA,lO (g := fun i => ij (q.items.getD i ItemX.zero)) hi h]; simp
theorem dq_from {q : QryX} {i : Nat} (hi : i < q.from_.length) (h : iY i (q.from_.getD i SrcX.zero) = false) : fL q = false := by
 rw [← jA,lO (g := fun i => iY i (q.from_.getD i SrcX.zero)) hi h]; simp
theorem dq_ord {q : QryX} {i : Nat} (hi : i < q.ord.length) (h : nameOk (q.ord.getD i OrdX.zero).n = false) : fL q = false := by
 rw [← jA,lO (g := fun i => nameOk (q.ord.getD i OrdX.zero).n) hi h]; simp
theorem dq_yes {q : QryX} (h : dqB q = false) (h1 : bO (fun i => ij (q.items.getD i ItemX.zero)) q.items.length = true) (h2 : bO (fun i => iY i (q.from_.getD i SrcX.zero)) q.from_.length = true) (h3 : bO (fun i => nameOk (q.ord.getD i OrdX.zero).n) q.ord.length = true) : fL q = true := by
 rw [← jA,dq_eq,h,h1,h2,h3]; rfl
theorem dI_eq (a : ItemX) : (!a.e.may || (decide (a.s ≠ []) && !nameOk a.s)) = !ij a := by
 unfold ij
 rw [decide_not]
 cases a.e.may <;> cases decide (a.s = []) <;> cases nameOk a.s <;> rfl
theorem dF_eq (i : Nat) (a : SrcX) : (((!nameOk a.t || (decide (a.s ≠ []) && !nameOk a.s)) || (decide ((i : Int) = 0) && !dW a.e)) || (decide (0 < (i : Int)) && !a.e.may)) = !iY i a := by
 unfold iY
 rw [decide_not]
 by_cases h : i = 0
 · subst h
   simp only [if_true]
   cases nameOk a.t <;> cases decide (a.s = []) <;> cases nameOk a.s <;> cases dW a.e <;> cases a.e.may <;> rfl
 · rw [if_neg h,decide_eq_false (show ¬ (i : Int) = 0 by omega),decide_eq_true (show 0 < (i : Int) by omega)]
   cases nameOk a.t <;> cases decide (a.s = []) <;> cases nameOk a.s <;> cases dW a.e <;> cases a.e.may <;> rfl
end Go.WK
namespace Go.WK
open Go.RowKit
section
variable {bl : List Nat} {w : World} {s t : StmtX} {y z : Lay}
theorem SAt.kt (bl : List Nat) (w : World) (k : Int) (t : List UInt8) : SAt bl w { StmtX.zero with k := k,t := t } Lay.nil :=
 ⟨[],[],[],[],[],[],[],eI _ _ _,eI _ _ _,eI _ _ _,eI _ _ _,lC _ _ _ _ _ _ _,⟨eI _ _ _,eI _ _ _,lC _ _ _ _ _ _ _,eI _ _ _⟩⟩
theorem SAt.setn (h : SAt bl w t z) (n : List UInt8) : SAt bl w { t with n := n } z := by
 obtain ⟨a,b,c,d,e,f,g,h⟩ := h
 exact ⟨a,b,c,d,e,f,g,h.C,h.N,h.R,h.S,h.W,h.q⟩
theorem SAt.setC (h : SAt bl w t z) (k : SAt bl w s y) : SAt bl w { t with cols := s.cols } { z with C := y.C } := by
 obtain ⟨a,b,c,d,e,f,g,h⟩ := h
 obtain ⟨a',b',c',d',e',f',g',k⟩ := k
 exact ⟨a',b,c,d,e,f,g,k.C,h.N,h.R,h.S,h.W,h.q⟩
theorem SAt.setN (h : SAt bl w t z) (k : SAt bl w s y) : SAt bl w { t with on := s.on,un := s.un } { z with N := y.N } := by
 obtain ⟨a,b,c,d,e,f,g,h⟩ := h
 obtain ⟨a',b',c',d',e',f',g',k⟩ := k
 exact ⟨a,b',c,d,e,f,g,h.C,k.N,h.R,h.S,h.W,h.q⟩
theorem SAt.setR (h : SAt bl w t z) (k : SAt bl w s y) : SAt bl w { t with rows := s.rows } { z with R := y.R } := by
 obtain ⟨a,b,c,d,e,f,g,h⟩ := h
 obtain ⟨a',b',c',d',e',f',g',k⟩ := k
 exact ⟨a,b,c',d,e,f,g,h.C,h.N,k.R,h.S,h.W,h.q⟩
theorem SAt.setW (h : SAt bl w t z) (k : SAt bl w s y) : SAt bl w { t with wh := s.wh } { z with W := y.W } := by
 obtain ⟨a,b,c,d,e,f,g,h⟩ := h
 obtain ⟨a',b',c',d',e',f',g',k⟩ := k
 exact ⟨a,b,c,d,e,f,g,h.C,h.N,h.R,h.S,k.W,h.q⟩
theorem SAt.setS (h : SAt bl w t z) (k : SAt bl w s y) : SAt bl w { t with sets := s.sets } { z with S := y.S } := by
 obtain ⟨a,b,c,d,e,f,g,h⟩ := h
 obtain ⟨a',b',c',d',e',f',g',k⟩ := k
 exact ⟨a,b,c,d',e,f,g,h.C,h.N,h.R,k.S,h.W,h.q⟩
theorem SAt.setQ (h : SAt bl w t z) (k : SAt bl w s y) : SAt bl w { t with q := s.q } { z with q := y.q } := by
 obtain ⟨a,b,c,d,e,f,g,h⟩ := h
 obtain ⟨a',b',c',d',e',f',g',k⟩ := k
 exact ⟨a,b,c,d,e',f',g',h.C,h.N,h.R,h.S,h.W,k.q⟩
end
def kp1 (s : StmtX) : StmtX := if (decide (s.k ≠ 4) && decide (s.k < 8)) = true then { StmtX.zero with k := s.k,t := s.t } else { StmtX.zero with k := s.k,t := [] }
def kp2 (s : StmtX) : StmtX := if (decide (s.k = 3) || decide (s.k = 4)) = true then { kp1 s with n := s.n } else kp1 s
def kp3 (s : StmtX) : StmtX := if s.k = 1 then { kp2 s with cols := s.cols } else kp2 s
def kp4 (s : StmtX) : StmtX := if s.k = 3 then { kp3 s with on := s.on,un := s.un } else kp3 s
def kp5 (s : StmtX) : StmtX := if s.k = 5 then { kp4 s with rows := s.rows } else kp4 s
def kp6 (s : StmtX) : StmtX := if (decide (s.k = 6) || decide (s.k = 7)) = true then { kp5 s with wh := s.wh } else kp5 s
def kp7 (s : StmtX) : StmtX := if s.k = 7 then { kp6 s with sets := s.sets } else kp6 s
def kp8 (s : StmtX) : StmtX := if s.k = 8 then { kp7 s with q := s.q } else kp7 s
def few (b : Bool) (n : Nat) : Bool := (b && decide (0 < (n : Int))) && decide ((n : Int) < 17)
def pt1 (s : StmtX) : Bool := if (decide (s.k ≠ 4) && decide (s.k < 8)) = true then nameOk s.t else true
def pt2 (s : StmtX) : Bool := if (decide (s.k = 3) || decide (s.k = 4)) = true then pt1 s && nameOk s.n else pt1 s
def pt3 (s : StmtX) : Bool := if s.k = 1 then few (pt2 s) s.cols.length && bO (fun i => ew (s.cols.getD i ColX.zero)) s.cols.length else pt2 s
def pt4 (s : StmtX) : Bool := if s.k = 3 then few (pt3 s) s.on.length && bO (fun i => nameOk (s.on.getD i [])) s.on.length else pt3 s
def pt5 (s : StmtX) : Bool := if s.k = 5 then (pt4 s && decide (0 < (s.rows.length : Int))) && bO (fun i => cS (s.rows.getD i [])) s.rows.length else pt4 s
def pt6 (s : StmtX) : Bool := if (decide (s.k = 6) || decide (s.k = 7)) = true then pt5 s && (dW s.wh || s.wh.may) else pt5 s
def pt7 (s : StmtX) : Bool := if s.k = 7 then few (pt6 s) s.sets.length && bO (fun i => fu (s.sets.getD i SetX.zero)) s.sets.length else pt6 s
def pt8 (s : StmtX) : Bool := if s.k = 8 then fL s.q else pt7 s
theorem few_eq (b : Bool) (n : Nat) : few b n = (b && ft n 16) := by
 unfold few ft
 rw [Bool.and_assoc]
 congr 2
 · exact decide_eq_decide.2 (by omega)
 · exact decide_eq_decide.2 (by omega)
theorem doc_may (s : StmtX) (h : 1 ≤ s.k ∧ s.k ≤ 11) : (pt8 s && decide (s = kp8 s)) = eh s := by
 have e0 : decide (0 < (s.rows.length : Int)) = decide (0 < s.rows.length) := decide_eq_decide.2 (by omega)
 have hcs : s.k = 1 ∨ s.k = 2 ∨ s.k = 3 ∨ s.k = 4 ∨ s.k = 5 ∨ s.k = 6 ∨ s.k = 7 ∨ s.k = 8 ∨ s.k = 9 ∨ s.k = 10 ∨ s.k = 11 := by omega
 unfold eh cL eg
 rcases hcs with h | h | h | h | h | h | h | h | h | h | h <;>
  simp [pt8,pt7,pt6,pt5,pt4,pt3,pt2,pt1,kp8,kp7,kp6,kp5,kp4,kp3,kp2,kp1,few_eq,gR,StmtX.zero,Bool.and_assoc,Bool.and_left_comm,h]
theorem doc_no (s : StmtX) (h : ¬ (1 ≤ s.k ∧ s.k ≤ 11)) : eh s = false := by
 unfold eh cL
 rw [if_neg (by omega),if_neg (by omega),if_neg (by omega),if_neg (by omega),if_neg (by omega),if_neg (by omega),if_neg (by omega),if_neg (by omega),decide_eq_false (by omega)]; rfl
theorem tA (b : Bool) (g : Nat → ColX) (i : Nat) : ((((b && bO (fun i => ew (g i)) i) && nameOk (g i).n) && decide (0 < (g i).k)) && decide ((g i).k < 4)) = (b && bO (fun i => ew (g i)) (i + 1)) := by
 have e1 : decide (0 < (g i).k) = decide (1 ≤ (g i).k) := decide_eq_decide.2 (by omega)
 have e2 : decide ((g i).k < 4) = decide ((g i).k ≤ 3) := decide_eq_decide.2 (by omega)
 simp only [bO,ew,Bool.and_assoc,e1,e2]
theorem tB (b : Bool) (g : Nat → List Ex) (i : Nat) : ((b && bO (fun i => cS (g i)) i) && cS (g i)) = (b && bO (fun i => cS (g i)) (i + 1)) := by
 simp only [bO,Bool.and_assoc]
end Go.WK
namespace Go.WK
open Go.RowKit
abbrev txC (t : Txt) : List Value := [.string (B t.1),.int .i64 (t.2 : Int)]
theorem max_nat (a b : Nat) : max (a : Int) (b : Int) = ((max a b : Nat) : Int) := by omega
theorem comma_no {t : Txt} {i : Nat} (h : (i : Int) = 0) : t = cat t (raw (cm i)) := by
 obtain rfl : i = 0 := by omega
 exact (dE t).symm
theorem nK {t : Txt} {i : Nat} (h : ¬ (i : Int) = 0) : cat t (raw [44,32]) = cat t (raw (cm i)) := by
 rw [show cm i = [44,32] from if_neg (by omega)]
theorem as_no {t : Txt} {s : List UInt8} (h : s = []) : t = cat t (raw (asT s)) := by
 subst h
 exact (dE t).symm
theorem qY {t : Txt} {s : List UInt8} (h : ¬ s = []) : cat t (raw ([32,97,115,32] ++ s)) = cat t (raw (asT s)) := by
 rw [show asT s = _ from if_neg h]
def qZ : List (List UInt8) := [[],[32,105,110,116],[32,116,101,120,116],[32,98,111,111,108]]
theorem kinds_at {k : Int} (h : 1 ≤ k ∧ k ≤ 3) : qZ.getD k.toNat [] = jl k := by
 obtain rfl | rfl | rfl : k = 1 ∨ k = 2 ∨ k = 3 := by omega
 all_goals rfl
def begL : List (List UInt8) := [[98,101,103,105,110],[99,111,109,109,105,116],[114,111,108,108,98,97,99,107]]
theorem beg_at {s : StmtX} (h : 9 ≤ s.k ∧ s.k ≤ 11) : raw (begL.getD (s.k - 9).toNat []) = dk s := by
 obtain h | h | h : s.k = 9 ∨ s.k = 10 ∨ s.k = 11 := by omega
 · rw [st_9 h,h]; rfl
 · rw [st_10 h,h]; rfl
 · rw [st_11 h,h]; rfl
def Wt (s : StmtX) (n : Int) : Txt := if s.k ≤ n then dk s else ([],0)
theorem iP {s : StmtX} {n : Int} (h : s.k ≤ n) : Wt s n = dk s := if_pos h
theorem gr {s : StmtX} {n : Int} (h : n < s.k) : Wt s n = ([],0) := if_neg (by omega)
theorem iQ {s : StmtX} {n m : Int} (h : ¬ s.k = m) (hm : m = n + 1) : Wt s n = Wt s m := by
 unfold Wt
 by_cases h1 : s.k ≤ n
 · rw [if_pos h1,if_pos (by omega)]
 · rw [if_neg h1,if_neg (by omega)]
theorem k_rng {s : StmtX} (h : eh s = true) : 1 ≤ s.k ∧ s.k ≤ 11 := by
 unfold eh at h
 simp only [Bool.and_eq_true] at h
 have h1 := h.1
 by_cases h9 : s.k < 1 ∨ 8 < s.k
 · rw [mK (by omega)] at h1
   have := of_decide_eq_true h1
   omega
 · omega
theorem pG {s : StmtX} (h : eh s = true) : cL s = true := by
 unfold eh at h
 simp only [Bool.and_eq_true] at h
 exact h.1
theorem pH {q : QryX} (h : fL q = true) {i : Nat} (hi : i < q.items.length) : (q.items.getD i ItemX.zero).e.may = true := by
 simp only [fL,Bool.and_eq_true] at h
 have h1 := dO h.2.2.1 hi
 simp only [ij,Bool.and_eq_true] at h1
 exact h1.1
theorem sg {q : QryX} (h : fL q = true) {i : Nat} (hi : i < q.from_.length) (h0 : ¬ (i : Int) = 0) : (q.from_.getD i SrcX.zero).e.may = true := by
 simp only [fL,Bool.and_eq_true] at h
 have h1 := dO h.2.2.2.1 hi
 simp only [iY,Bool.and_eq_true] at h1
 rw [if_neg (by omega)] at h1
 exact h1.2.2
theorem sh {q : QryX} (h : fL q = true) (ho : q.wh.o ≠ 0) : q.wh.may = true := by
 simp only [fL,Bool.and_eq_true] at h
 exact kF h.1.1 ho
theorem mN {i : Nat} (h : (i : Int) = 0) (a : SrcX) : eD i a = cat (raw ([32,102,114,111,109,32] ++ a.t)) (raw (asT a.s)) := by
 obtain rfl : i = 0 := by omega
 simp [eD,cat,raw]
theorem mO {i : Nat} (h : ¬ (i : Int) = 0) (a : SrcX) : eD i a = cat (raw ([32,106,111,105,110,32] ++ a.t)) (cat (raw (asT a.s)) (cat (raw [32,111,110,32]) (a.e.txt 1))) := by
 have h1 : ¬ i = 0 := by omega
 simp [eD,cat,raw,h1]
theorem col_kind {s : StmtX} (h : cL s = true) (hk : s.k = 1) {i : Nat} (hi : i < s.cols.length) : 1 ≤ (s.cols.getD i ColX.zero).k ∧ (s.cols.getD i ColX.zero).k ≤ 3 := by
 rw [qT hk] at h
 simp only [Bool.and_eq_true] at h
 have h1 := dO h.2.2 hi
 simp only [ew,Bool.and_eq_true,decide_eq_true_eq] at h1
 exact h1.2
theorem si {s : StmtX} (h : cL s = true) (hk : s.k = 5) {i k : Nat} (hi : i < s.rows.length) (hk2 : k < (s.rows.getD i []).length) : ((s.rows.getD i []).getD k Ex.zero).may = true := by
 rw [qU hk] at h
 simp only [Bool.and_eq_true] at h
 have h1 := dO h.2.2 hi
 simp only [cS,Bool.and_eq_true] at h1
 exact dO h1.2 hk2
theorem sj {s : StmtX} (h : cL s = true) (hk : s.k = 6) (ho : s.wh.o ≠ 0) : s.wh.may = true := by
 rw [oo hk] at h
 simp only [Bool.and_eq_true] at h
 exact kF h.2 ho
theorem sk {s : StmtX} (h : cL s = true) (hk : s.k = 7) (ho : s.wh.o ≠ 0) : s.wh.may = true := by
 rw [mJ hk] at h
 simp only [Bool.and_eq_true] at h
 exact kF h.2.2.1 ho
theorem sm {s : StmtX} (h : cL s = true) (hk : s.k = 7) {i : Nat} (hi : i < s.sets.length) : (s.sets.getD i SetX.zero).e.may = true := by
 rw [mJ hk] at h
 simp only [Bool.and_eq_true] at h
 have h1 := dO h.2.2.2 hi
 simp only [fu,Bool.and_eq_true] at h1
 exact h1.2
theorem so {s : StmtX} (h : cL s = true) (hk : s.k = 8) : fL s.q = true := by rw [← oq hk]; exact h
theorem itemT_eq (a : ItemX) : dv a = cat (a.e.txt 1) (raw (asT a.s)) := rfl
theorem ow (a : OrdX) : gS a = raw (a.n ++ jQ a.b) := rfl
theorem ox (a : ColX) : ik a = raw (a.n ++ (jl a.k ++ eC a.b)) := rfl
theorem sq (l : List Ex) : i6 l = cat (raw [40]) (cat (cr (fun k => (l.getD k Ex.zero).txt 1) l.length) (raw [41])) := rfl
theorem sr (a : SetX) : iZ a = cat (raw (a.n ++ [32,61,32])) (a.e.txt 1) := rfl
theorem bD (a b : Txt) : (cat a b).1.length = a.1.length + b.1.length := by simp [cat]
theorem bC (s : List UInt8) : (raw s).1.length = s.length := rfl
theorem fh (H : Txt) (g : Nat → Txt) (i : Nat) : cat (cat H (cr g i)) (cat (raw (cm i)) (g i)) = cat H (cr g (i + 1)) := by rw [bZ]; rfl
theorem su (H : Txt) (g : Nat → Txt) (i : Nat) : cat (cat H (upT g i)) (g i) = cat H (upT g (i + 1)) := by rw [bZ]; rfl
theorem kd (g : Nat → Txt) {i n : Nat} (h : i < n) : (cr g i).1.length + ((cm i).length + (g i).1.length) ≤ (cr g n).1.length := by
 have := mH (fun i => cat (raw (cm i)) (g i)) h
 simp only [cat,raw,List.length_append] at this
 exact this
theorem lf {i : Nat} : gI (i + 1) = [32,111,114,100,101,114,32,98,121,32] := if_pos (by omega)
theorem nL {i : Nat} (h : (i : Int) = 0) : gI i = [] := if_neg (by omega)
theorem ordH_pos {i : Nat} (h : ¬ (i : Int) = 0) : gI i = [32,111,114,100,101,114,32,98,121,32] := if_pos (by omega)
end Go.WK
namespace Go.WK
open Go.RowKit Go.ChangeShapes Go.WideShapes Go.ChangeAt Go.ChangeMaps
variable {H : Type} {enc : TypeId × Value → H}
theorem na {P : Program} {w0 : World} {laid : List (String × DataW Unit)} (args : Array Value) (hf : w0.layFits P laid [] = true) (hi : w0.layIfaces P laid (w0.layVars P laid) = true) : laidMet P laid ((w0.layVars P laid).forCall (fun _ _ => 0) ⟨#[],args,[]⟩).memory := by
 have e1 : (laid.filter fun x => (laid.map (·.1)).contains x.1) = laid := List.filter_eq_self.2 fun x hx => List.contains_iff_mem.2 (List.mem_map.2 ⟨x,hx,rfl⟩)
 have e2 : (laid.filter fun x => !(laid.map (·.1)).contains x.1) = [] := List.filter_eq_nil_iff.2 fun x hx => by rw [List.contains_iff_mem.2 (List.mem_map.2 ⟨x,hx,rfl⟩)]; simp
 have h : laidMet P laid (w0.layVars P laid) := laidMet_layVars (w0 := w0) (laid.map (·.1)) [] (by rw [e1]) (by rw [e1]; exact hf) (by rw [e1]; exact hi) (by rw [e2]; exact LaidIn.none)
 exact h.of_heap (by simp [World.memory,World.forCall,Input.heap])
theorem mP {P : Program} {laid : List (String × DataW Unit)} {w : World} {x : String × DataW Unit} (h : laidMetH P laid w) (e : (laid.filter fun x => x.2.handleName?.isSome) = [x]) : laidMet P (laid.filter fun x => x.2.handleName?.isNone) w ∧ handlesMet P [x] w := by
 unfold laidMetH at h
 rw [e] at h
 exact h
theorem nb {P : Program} {laid l2 : List (String × DataW Unit)} {w : World} {x : String × DataW Unit} (e : (laid.filter fun x => x.2.handleName?.isSome) = [x]) (e2 : (laid.filter fun x => x.2.handleName?.isNone) = l2) (h1 : laidMet P l2 w) (h2 : handlesMet P [x] w) : laidMetH P laid w := by
 unfold laidMetH
 rw [e,e2]
 exact ⟨h1,h2⟩
end Go.WK
namespace Go.WK
open Go.RowKit Go.ChangeShapes Go.WideShapes Go.ChangeAt Go.ChangeMaps
section
variable {H : Type} {enc : TypeId × Value → H}
theorem ke {C : Checked} {os : Os} {f : FuncId} {fn : Func} {s : OpenSpec} {conds : List PathCond} {apart : Bool} {laid : List (String × DataW Unit)} (modest : Bool) (w0 : World) (args : Array Value) (hos : w0.os = os)
  (hsh : (w0.forCall (fun _ _ => 0) ⟨#[],args,[]⟩).Shaped C.prog)
  (hok : Input.okWideB C.prog (w0.forCall (fun _ _ => 0) ⟨#[],args,[]⟩) f ⟨#[],args,[]⟩ = true)
  (hrow : s.preRow enc C.prog fn conds apart laid (w0.forCall (fun _ _ => 0) ⟨#[],args,[]⟩).memory args) :
  ∃ (w : World) (tape : Tape) (i : Input),w.os = os ∧ (w.forCall tape i).Shaped C.prog ∧ i.vars = [] ∧ Input.okWide C.prog (w.forCall tape i) .any w.heap.size f i ∧
   s.preRow enc C.prog fn conds apart laid (w.forCall tape i).memory i.args ∧ ({ modest := modest } : Assume).holds C.prog (lone (Frame.enter C.prog f i.args .normal) [] (w.forCall tape i)) :=
 ⟨w0,fun _ _ => 0,⟨#[],args,[]⟩,hos,hsh,(Input.okWide_of_okWideB (base := 0) hok).1,(Input.okWide_of_okWideB hok).2,hrow,by
  simp only [Assume.holds]
  exact ⟨by simp,by simp,fun _ => Modest.zero,by simp,by simp⟩⟩
end
mutual
theorem ExC.k {w : World} : ∀ (e : Ex) (cs : List Value),ExC w e cs → ∃ bl,(∀ k ∈ bl,k < w.heap.size) ∧ ExK bl w e cs
 | .mk o v t n c as,cs,h => by
  obtain ⟨A,k,xs,h1,h2,h3,h4⟩ := h
  obtain ⟨bl,hb,hx⟩ := ExsC.k as xs h4
  by_cases hn : as = []
  · exact ⟨bl,hb,A,k,xs,h1,h2,h3,fun _ _ h => absurd hn h,hx⟩
  · have hl := h4.len
    have hp : 0 < as.length := List.length_pos_iff.2 hn
    obtain ⟨u,hu⟩ : ∃ u,xs[0]? = some u := ⟨_,List.getElem?_eq_getElem (by omega)⟩
    obtain ⟨a,rfl,hc⟩ := h3 0 u hu
    have ha : a.block < w.heap.size := World.block_lt_of_cell? w (a.add 0) hc
    refine ⟨a.block :: bl,fun k hk => ?_,some a,k,xs,h1,h2,h3,fun a' e _ => ?_,ExsK.mono (fun k hk => List.mem_cons_of_mem _ hk) as xs hx⟩
    · rcases List.mem_cons.1 hk with rfl | hk
      · exact ha
      · exact hb k hk
    · cases e; exact List.mem_cons_self
theorem ExsC.k {w : World} : ∀ (l : List Ex) (xs : List Value),ExsC w l xs → ∃ bl,(∀ k ∈ bl,k < w.heap.size) ∧ ExsK bl w l xs
 | [],xs,h => ⟨[],(by simp),h⟩
 | e :: es,xs,h => by
  obtain ⟨y,ys,h1,h2,h3⟩ := h
  obtain ⟨b1,k1,m1⟩ := ExC.k e y h2
  obtain ⟨b2,k2,m2⟩ := ExsC.k es ys h3
  refine ⟨b1 ++ b2,fun k hk => ?_,y,ys,h1,ExK.mono (fun k hk => List.mem_append_left _ hk) e y m1,ExsK.mono (fun k hk => List.mem_append_right _ hk) es ys m2⟩
  rcases List.mem_append.1 hk with hk | hk
  · exact k1 k hk
  · exact k2 k hk
end
section
variable {H : Type} {enc : TypeId × Value → H} {P : Program}
end
theorem op_len (o : Int) : (iW o).length ≤ 3 := by
 have key : ∀ (c : Prop) [Decidable c] (a b : List UInt8),a.length ≤ 3 → b.length ≤ 3 → (if c then a else b).length ≤ 3 := by intro c _ a b h1 h2; split <;> assumption
 unfold iW
 iterate 14 (refine key _ _ _ (by decide) ?_)
 decide
theorem sv (v : Val) (h : v.ok) : (prV v).1.length ≤ 2 * v.s.length + 20 := by
 have hi : (Lib.itoa v.n).length ≤ 20 := by
  have hn := h.2
  by_cases h0 : v.n < 0
  · rw [pg h0]
    have := oa (u := v.n.natAbs) (by omega)
    simp only [List.length_cons]; omega
  · rw [ph h0]
    have := oa (u := v.n.toNat) (by omega)
    omega
 have hd := lM v.s
 unfold prV
 split
 · simp only
   split
   · omega
   · split
     · simp only [List.length_cons,List.length_append,List.length_nil]; omega
     · split
       · split <;> simp only [List.length_cons,List.length_nil] <;> omega
       · simp only [List.length_cons,List.length_nil]; omega
 · simp only [List.length_nil]; omega
theorem txt_len : ∀ (m : Nat) (e : Ex),e.size < m → e.may = true → e.ok → ∀ low : Int,(e.txt low).1.length ≤ 32 * e.size := by
 intro m
 induction m with
 | zero => intro e h; omega
 | succ m ih =>
  intro e hs hm ho low
  have core : e.core.1.length + 2 ≤ 32 * e.size := by
   have hv := view hm
   cases hv with
   | cst v hv h0 =>
    rw [c_cst]
    have := sv v ho.2.1
    have e1 : (cst v).size = v.s.length + 1 := by simp [cst,Ex.size,Exs.size]
    simp only; omega
   | nam t n hn ht =>
    rw [c_nam]
    have e1 : (Ex.mk 2 Val.zero t n 0 []).size = t.length + n.length + 1 := by simp [Ex.size,Exs.size,Val.zero]
    simp only
    split
    · omega
    · simp only [List.length_append,List.length_cons]; omega
   | un o a ho' ha =>
    have hsz := r5 o a
    have ih := ih a (by omega) ha ho.2.2.2.1
    have hcs : o = 5 ∨ o = 4 ∨ o = 6 ∨ o = 7 := by omega
    rcases hcs with rfl | rfl | rfl | rfl
    · rw [c_not]; have := ih 3; simp only [List.length_append,List.length_cons,List.length_nil]; omega
    · rw [c_neg]; have := ih 7; simp only [List.length_append,List.length_cons]; split <;> simp only [List.length_cons,List.length_nil] <;> omega
    · rw [c_nul]; have := ih 5; simp only [List.length_append,List.length_cons,List.length_nil]; omega
    · rw [c_nnul]; have := ih 5; simp only [List.length_append,List.length_cons,List.length_nil]; omega
   | bin o a b ho' ha hb =>
    have hsz := py o a b
    have hs2 : (bin o a b).size = a.size + b.size + 1 := by simp [bin,Ex.size,Exs.size,Val.zero]
    have iha := ih a (by omega) ha ho.2.2.2.1 (if lvl o = 4 then 5 else lvl o)
    have ihb := ih b (by omega) hb ho.2.2.2.2.1 (lvl o + 1)
    have := op_len o
    rw [c_bin a b o ho'.1]
    simp only [List.length_append,List.length_cons,List.length_nil]; omega
  by_cases hlow : lvl e.o < low
  · rw [kE hlow]; simp only [List.length_append,List.length_cons,List.length_nil]; omega
  · rw [cU hlow]; omega
end Go.WK
namespace Go.WK
open Go.RowKit Go.ChangeShapes Go.WideShapes Go.ChangeAt Go.ChangeMaps
def eK {α : Type} (f : α → Nat) : List α → Nat
 | [] => 0
 | a :: l => f a + eK f l
theorem gt {α : Type} (f : α → Nat) (zero : α) : ∀ {l : List α} {i : Nat},i < l.length → f (l.getD i zero) ≤ eK f l
 | [],i,h => by simp at h
 | a :: l,0,_ => by simp only [List.getD_cons_zero,eK]; omega
 | a :: l,i + 1,h => by
  have := gt f zero (l := l) (i := i) (by simpa using h)
  simp only [List.getD_cons_succ,eK]; omega
theorem fi {α : Type} (f : α → Nat) (h1 : ∀ a,1 ≤ f a) : ∀ l : List α,l.length ≤ eK f l
 | [] => Nat.le_refl _
 | a :: l => by
  have := fi f h1 l
  have := h1 a
  simp only [List.length_cons,eK]; omega
theorem pI {α β : Type} (f : α → Nat) (g : β → Nat) (V : Nat → α) (D : Nat → β) : ∀ l : List Nat,(∀ i ∈ l,f (V i) ≤ g (D i)) → eK f (l.map V) ≤ eK g (l.map D)
 | [],_ => Nat.le_refl _
 | i :: l,h => by
  have h1 := h i List.mem_cons_self
  have h2 := pI f g V D l (fun j hj => h j (List.mem_cons_of_mem _ hj))
  simp only [List.map_cons,eK]; omega
theorem cut {α : Type} (cs : List α) (a z b : Nat) (h : a + z = b) : cs.drop a = (cs.drop a).take z ++ cs.drop b := by
 subst h
 rw [← List.drop_drop]
 exact (List.take_append_drop z (cs.drop a)).symm
theorem cW {α : Type} (cs : List α) (a z b : Nat) (h : a + z = b) {p r : List α} (hp : (cs.drop a).take z = p) (hr : cs.drop b = r) : cs.drop a = p ++ r := by
 have := cut cs a z b h
 rw [hp,hr] at this
 exact this
theorem sl_of_R {α : Type} {K : Kd α} {bl : List Nat} {w : World} {l : List α} {y : SL} {xs : List Value} (h : SlR K bl w l y xs) : K.sl bl w l (.slice y.A l.length y.k) :=
 ⟨y.A,y.k,xs,rfl,h.1,h.2.1,fun a ha hl => h.2.2.1 a ha (fun hx => hl (by
  have h1 := h.len
  rw [hx] at h1
  have hz := K.pos
  cases l with
  | nil => rfl
  | cons c l => rw [List.length_cons,Nat.add_mul] at h1; simp at h1; omega)),h.2.2.2⟩
section
variable {H : Type} {enc : TypeId × Value → H} {P : Program}
theorem hM {α : Type} (K : Kd α) (zero : α) (bulk : DataW H → Nat) (f : α → Nat) (Q : α → Prop) {w : World} {ta e : TypeId} (hnil : 1 ≤ bulk .nil) (hbulk : ∀ l sp,eK bulk l + 1 ≤ bulk (.slice l sp)) (hta : P.underlying ta = some (.slice e)) (hc : P.cellsOf e = K.z)
    (hel : ∀ n cs d p,DataW.trod enc P w 0 (fun _ => true) true n e cs = some (d,p) → ∃ (x : α) (bl : List Nat),K.rel bl w x cs ∧ (∀ k ∈ bl,k < w.heap.size) ∧ Q x ∧ f x ≤ bulk d)
    {n : Nat} {cs : List Value} {d : DataW H} {p : List MemPlace} (h : DataW.trod enc P w 0 (fun _ => true) true n ta cs = some (d,p)) :
    ∃ (l : List α) (y : SL) (bl : List Nat) (xs : List Value),cs = [.slice y.A l.length y.k] ∧ SlR K bl w l y xs ∧ (∀ k ∈ bl,k < w.heap.size) ∧ (∀ i,i < l.length → Q (l.getD i zero)) ∧ eK f l + 1 ≤ bulk d := by
  rcases Deep.open_slice hta h with ⟨rfl,hx⟩ | ⟨a,len,cap,m,n',D,Pl,rfl,_,hl,hm,hmm,hx,he⟩
  · simp only [Prod.mk.injEq] at hx
    obtain ⟨rfl,_⟩ := hx
    exact ⟨[],⟨none,0⟩,[],[],rfl,⟨Nat.le_refl _,Rd.nil _ _,(fun _ h => by cases h),rfl⟩,fun k hk => by simp at hk,fun i hi => by simp at hi,hnil⟩
  · simp only [Prod.mk.injEq] at hx
    obtain ⟨rfl,_⟩ := hx
    simp only [if_true] at hmm
    subst m
    have : Inhabited α := ⟨zero⟩
    obtain ⟨V,hV⟩ := Deep.choose_lt (α := α) (n := len) (p := fun i u => ∃ cs',w.cells? 0 (a.add (i * K.z)) K.z = some cs' ∧ ∃ bl,K.rel bl w u cs' ∧ (∀ k ∈ bl,k < w.heap.size) ∧ Q u ∧ f u ≤ bulk (D i)) (fun i hi => by
      obtain ⟨cs',k1,k2⟩ := he i (by omega)
      rw [hc] at k1
      obtain ⟨u,bl,k3,k4,k5,k6⟩ := hel _ _ _ _ k2
      exact ⟨u,cs',k1,bl,k3,k4,k5,k6⟩)
    obtain ⟨C,hC⟩ := Deep.choose_lt (α := List Value) (n := len) (p := fun i cs' => w.cells? 0 (a.add (i * K.z)) K.z = some cs' ∧ ∃ bl,K.rel bl w (V i) cs' ∧ (∀ k ∈ bl,k < w.heap.size) ∧ Q (V i) ∧ f (V i) ≤ bulk (D i)) (fun i hi => hV i hi)
    obtain ⟨L,hL⟩ := Deep.choose_lt (α := List Nat) (n := len) (p := fun i bl => K.rel bl w (V i) (C i) ∧ (∀ k ∈ bl,k < w.heap.size) ∧ Q (V i) ∧ f (V i) ≤ bulk (D i)) (fun i hi => (hC i hi).2)
    have hlen : ∀ k,k ≤ len → ((List.range k).flatMap C).length = k * K.z := by
      intro k
      induction k with
      | zero => intro _; simp
      | succ k ihk =>
        intro hk
        rw [List.range_succ,List.flatMap_append,List.length_append,ihk (by omega)]
        simp only [List.flatMap_cons,List.flatMap_nil,List.append_nil]
        rw [K.len (hL k (by omega)).1,Nat.add_mul,Nat.one_mul]
    have hrd : ∀ k,k ≤ len → ∀ j u,((List.range k).flatMap C)[j]? = some u → w.cell? (a.add j) = some u := by
      intro k
      induction k with
      | zero => intro _ j u hu; simp at hu
      | succ k ihk =>
        intro hk j u hu
        have h8 := hlen k (by omega)
        rw [List.range_succ,List.flatMap_append] at hu
        simp only [List.flatMap_cons,List.flatMap_nil,List.append_nil] at hu
        rcases Nat.lt_or_ge j (k * K.z) with hj | hj
        · rw [List.getElem?_append_left (by omega)] at hu
          exact ihk (by omega) j u hu
        · rw [List.getElem?_append_right (by omega),h8] at hu
          obtain ⟨_,hl8,hcell⟩ := World.cells?_some (hC k (by omega)).1
          have hj2 : j - k * K.z < (C k).length := (List.getElem?_eq_some_iff.1 hu).1
          have := hcell (j - k * K.z) (by omega)
          rw [hu,gU,show k * K.z + (j - k * K.z) = j by omega] at this
          exact this
    have hseq : ∀ k,k ≤ len → K.seq (a.block :: (List.range len).flatMap L) w ((List.range k).map V) ((List.range k).flatMap C) := by
      intro k
      induction k with
      | zero => intro _; rfl
      | succ k ihk =>
        intro hk
        rw [List.range_succ,List.flatMap_append,List.map_append]
        simp only [List.flatMap_cons,List.flatMap_nil,List.append_nil,List.map_cons,List.map_nil]
        refine K.seq_app (ihk (by omega)) ⟨C k,[],by simp,K.mono (fun j hj => List.mem_cons_of_mem _ (List.mem_flatMap.2 ⟨k,List.mem_range.2 (by omega),hj⟩)) (hL k (by omega)).1,rfl⟩
    have hget : ∀ i,i < len → ((List.range len).map V).getD i zero = V i := fun i hi => by simp [List.getD,hi]
    have hfit : eK f ((List.range len).map V) + 1 ≤ bulk (.slice ((List.range len).map D) ((List.range (cap - len)).map fun j => D (len + j))) := by
      have h1 := pI f bulk V D (List.range len) (fun i hi => (hL i (List.mem_range.1 hi)).2.2.2)
      have h2 := hbulk ((List.range len).map D) ((List.range (cap - len)).map fun j => D (len + j))
      omega
    have hQ : ∀ i,i < ((List.range len).map V).length → Q (((List.range len).map V).getD i zero) := fun i hi => by
      have hi : i < len := by simpa using hi
      rw [hget i hi]
      exact (hL i hi).2.2.1
    by_cases h0 : len = 0
    · subst h0
      exact ⟨[],⟨some a,cap⟩,[],[],rfl,⟨Nat.zero_le _,(fun j u hu => by simp at hu),(fun _ _ hx => absurd rfl hx),rfl⟩,fun k hk => by simp at hk,fun i hi => by simp at hi,hfit⟩
    · have hab : a.block < w.heap.size := by
        obtain ⟨_,hl8,hcell⟩ := World.cells?_some (hC 0 (by omega)).1
        have hz := K.pos
        have hcl := K.len (hL 0 (by omega)).1
        have := hcell 0 (by omega)
        rw [List.getElem?_eq_getElem (by omega)] at this
        rw [Nat.zero_mul] at this
        have h2 := World.block_lt_of_cell? w _ this
        exact h2
      refine ⟨(List.range len).map V,⟨some a,cap⟩,a.block :: (List.range len).flatMap L,(List.range len).flatMap C,by simp,⟨by simpa using hl,fun j u hu => ⟨a,rfl,hrd len (Nat.le_refl _) j u hu⟩,fun a' e _ => by cases e; exact List.mem_cons_self,hseq len (Nat.le_refl _)⟩,fun k hk => ?_,hQ,hfit⟩
      rcases List.mem_cons.1 hk with rfl | hk
      · exact hab
      · obtain ⟨i,hi,hk⟩ := List.mem_flatMap.1 hk
        exact (hL i (List.mem_range.1 hi)).2.1 k hk
end
def fI (a : ItemX) : Nat := a.e.size + a.s.length + 1
def fF (a : SrcX) : Nat := a.t.length + a.s.length + a.e.size + 1
def fO (a : OrdX) : Nat := a.n.length + 1
def fC (a : ColX) : Nat := a.n.length + 1
def fN (s : List UInt8) : Nat := s.length + 1
def fR (l : List Ex) : Nat := eK Ex.size l + 1
def fT (a : SetX) : Nat := a.n.length + a.e.size + 1
def fQ (q : QryX) : Nat := eK fI q.items + eK fF q.from_ + q.wh.size + eK fO q.ord
def fS (s : StmtX) : Nat := s.t.length + s.n.length + eK fC s.cols + eK fN s.on + eK fR s.rows + eK fT s.sets + s.wh.size + fQ s.q
theorem ex_pos (e : Ex) : 1 ≤ e.size := by cases e; simp only [Ex.size]; omega
theorem qry_bd {q : QryX} (h : fQ q ≤ 70368744177664) : QBd q := by
 unfold fQ at h
 have i1 := fi fI (fun _ => Nat.le_add_left _ _) q.items
 have i2 := fi fF (fun _ => Nat.le_add_left _ _) q.from_
 have i3 := fi fO (fun _ => Nat.le_add_left _ _) q.ord
 refine ⟨by show _ ≤ 70368744177664; omega,by show _ ≤ 70368744177664; omega,by show _ ≤ 70368744177664; omega,fun i hi => ?_,fun i hi => ?_,fun i hi => ?_,by show _ ≤ 70368744177664; omega⟩
 · have := gt fI ItemX.zero hi
   unfold fI at this
   show _ ≤ 70368744177664 ∧ _ ≤ 70368744177664
   unfold fI at h; omega
 · have := gt fF SrcX.zero hi
   unfold fF at this
   show _ ≤ 70368744177664 ∧ _ ≤ 70368744177664 ∧ _ ≤ 70368744177664
   unfold fF at h; omega
 · have := gt fO OrdX.zero hi
   unfold fO at this
   show _ ≤ 70368744177664
   unfold fO at h; omega
theorem stm_bd {s : StmtX} (h : fS s ≤ 70368744177664) : SBd s := by
 unfold fS at h
 have i1 := fi fC (fun _ => Nat.le_add_left _ _) s.cols
 have i2 := fi fN (fun _ => Nat.le_add_left _ _) s.on
 have i3 := fi fR (fun _ => Nat.le_add_left _ _) s.rows
 have i4 := fi fT (fun _ => Nat.le_add_left _ _) s.sets
 refine ⟨by show _ ≤ 70368744177664; omega,by show _ ≤ 70368744177664; omega,by show _ ≤ 70368744177664; omega,by show _ ≤ 70368744177664; omega,by show _ ≤ 70368744177664; omega,by show _ ≤ 70368744177664; omega,fun i hi => ?_,fun i hi => ?_,fun i hi => ?_,fun i hi => ?_,by show _ ≤ 70368744177664; omega,qry_bd (by omega)⟩
 · have := gt fC ColX.zero hi
   unfold fC at this
   show _ ≤ 70368744177664
   unfold fC at h; omega
 · have := gt fN [] hi
   unfold fN at this
   show _ ≤ 70368744177664
   unfold fN at h; omega
 · have := gt fR [] hi
   have hlr := fi Ex.size ex_pos (s.rows.getD i [])
   unfold fR at this
   refine ⟨by show _ ≤ 70368744177664; unfold fR at h; omega,fun j hj => ?_⟩
   have := gt Ex.size Ex.zero hj
   show _ ≤ 70368744177664
   unfold fR at h; omega
 · have := gt fT SetX.zero hi
   unfold fT at this
   show _ ≤ 70368744177664 ∧ _ ≤ 70368744177664
   unfold fT at h; omega
theorem sw {α : Type} (f : α → Nat) (zero : α) : ∀ (l : List α) (g : Nat → Txt),(∀ i,i < l.length → (g i).1.length ≤ 64 * f (l.getD i zero)) → (upT g l.length).1.length ≤ 64 * eK f l := by
 have key : ∀ (l : List α) (g : Nat → Txt),(upT g (l.length + 1)).1.length = (g 0).1.length + (upT (fun i => g (i + 1)) l.length).1.length := by
  intro l g
  induction l.length with
  | zero => simp [upT,cat]
  | succ n ih =>
   have e : ∀ (g : Nat → Txt) (n : Nat),(upT g (n + 1)).1.length = (upT g n).1.length + (g n).1.length := fun g n => by simp [upT,cat]
   rw [e,ih,e]; omega
 intro l
 induction l with
 | nil => intro g _; exact Nat.le_refl _
 | cons a l ih =>
  intro g h
  rw [List.length_cons,key,eK]
  have h0 := h 0 (by simp)
  have h1 := ih (fun i => g (i + 1)) (fun i hi => by have := h (i + 1) (by simpa using hi); simpa using this)
  simp only [List.getD_cons_zero] at h0
  omega
theorem gJ {α : Type} (f : α → Nat) (zero : α) (l : List α) (g : Nat → Txt) (h : ∀ i,i < l.length → (g i).1.length + 2 ≤ 64 * f (l.getD i zero)) : (cr g l.length).1.length ≤ 64 * eK f l :=
 sw f zero l _ (fun i hi => by
  have h1 := h i hi
  have h2 : (cm i).length ≤ 2 := by unfold cm; split <;> simp
  simp only [cat,raw,List.length_append]; omega)
theorem sx (s : List UInt8) : (asT s).length ≤ 4 + s.length := by
 unfold asT
 split
 · simp
 · simp only [List.length_append,List.length_cons,List.length_nil]; omega
theorem kH {e : Ex} (hm : e.may = true) (ho : e.ok) : (e.txt 1).1.length ≤ 32 * e.size := txt_len _ e (Nat.lt_succ_self _) hm ho 1
theorem kf {e : Ex} (hm : e.o ≠ 0 → e.may = true) (ho : e.ok) : (cT e).1.length ≤ 7 + 32 * e.size := by
 unfold cT
 by_cases h : e.o = 0
 · rw [if_pos h]; simp
 · rw [if_neg h]
   have := kH (hm h) ho
   simp only [cat,raw,List.length_append,List.length_cons,List.length_nil]; omega
theorem lim_len {q : QryX} (h : inR q.lim = true) : (limT q).length ≤ 27 := by
 have hi := sv ⟨1,q.lim,[]⟩ ⟨by show (_ : Int) ≤ 1 ∧ (1 : Int) ≤ _; decide,iL.1 h⟩
 have e : (prV ⟨1,q.lim,[]⟩).1 = Lib.itoa q.lim := by rw [pr_num]
 rw [e] at hi
 unfold limT
 split
 · simp only [List.length_append,List.length_cons,List.length_nil] at hi ⊢; omega
 · simp
theorem qryT_len {q : QryX} (hm : fL q = true) (ho : QOk q) : (i8 q).1.length ≤ 64 * fQ q + 80 := by
 have h1 := gJ fI ItemX.zero q.items (fun i => dv (q.items.getD i ItemX.zero)) (fun i hi => by
  have a := kH (pH hm hi) (ho.items i hi)
  have b := sx (q.items.getD i ItemX.zero).s
  simp only [dv,fI,cat,raw,List.length_append]; omega)
 have h2 := sw fF SrcX.zero q.from_ (fun i => eD i (q.from_.getD i SrcX.zero)) (fun i hi => by
  have b := sx (q.from_.getD i SrcX.zero).s
  by_cases h0 : (i : Int) = 0
  · simp only [mN h0,fF,cat,raw,List.length_append,List.length_cons,List.length_nil]; omega
  · have a := kH (sg hm hi h0) (ho.from_ i hi)
    simp only [mO h0,fF,cat,raw,List.length_append,List.length_cons,List.length_nil]; omega)
 have h3 := gJ fO OrdX.zero q.ord (fun i => gS (q.ord.getD i OrdX.zero)) (fun i hi => by
  have b : (jQ (q.ord.getD i OrdX.zero).b).length ≤ 5 := by unfold jQ; split <;> simp
  simp only [gS,fO,raw,List.length_append]; omega)
 have h4 := kf (sh hm) ho.wh
 have h5 := lim_len ho.lim
 have h6 : (gI q.ord.length).length ≤ 10 := by unfold gI; split <;> simp
 have h7 : (eE q).length ≤ 17 := by unfold eE; (repeat' split) <;> simp
 unfold i8 fQ
 simp only [cat,raw,List.length_append] at h1 h2 h3 ⊢
 omega
theorem stmT_len {s : StmtX} (hm : eh s = true) (ho : SOk s) : (dk s).1.length ≤ 64 * fS s + 200 := by
 have hk := k_rng hm
 have hp := pG hm
 have hfs : fS s = s.t.length + s.n.length + eK fC s.cols + eK fN s.on + eK fR s.rows + eK fT s.sets + s.wh.size + fQ s.q := rfl
 obtain h | h | h | h | h | h | h | h | h | h | h : s.k = 1 ∨ s.k = 2 ∨ s.k = 3 ∨ s.k = 4 ∨ s.k = 5 ∨ s.k = 6 ∨ s.k = 7 ∨ s.k = 8 ∨ s.k = 9 ∨ s.k = 10 ∨ s.k = 11 := by omega
 · have h1 := gJ fC ColX.zero s.cols (fun i => ik (s.cols.getD i ColX.zero)) (fun i hi => by
   have a : (jl (s.cols.getD i ColX.zero).k).length ≤ 5 := by unfold jl; (repeat' split) <;> simp
   have b : (eC (s.cols.getD i ColX.zero).b).length ≤ 9 := by unfold eC; split <;> simp
   simp only [ik,fC,raw,List.length_append]; omega)
   rw [st_1 h]
   simp only [bD,bC,List.length_append,List.length_cons,List.length_nil]; omega
 · rw [st_2 h]
   simp only [bC,List.length_append,List.length_cons,List.length_nil]; omega
 · have h1 := gJ fN [] s.on (fun i => raw (s.on.getD i [])) (fun i hi => by simp only [fN,raw]; omega)
   have h2 : (if s.un = true then [117,110,105,113,117,101,32] else [] : List UInt8).length ≤ 7 := by split <;> simp
   rw [st_3 h]
   simp only [bD,bC,List.length_append,List.length_cons,List.length_nil]; omega
 · rw [st_4 h]
   simp only [bC,List.length_append,List.length_cons,List.length_nil]; omega
 · have h1 := gJ fR [] s.rows (fun i => i6 (s.rows.getD i [])) (fun i hi => by
   have a := gJ Ex.size Ex.zero (s.rows.getD i []) (fun k => ((s.rows.getD i []).getD k Ex.zero).txt 1) (fun k hk => by
    have := kH (si hp h hi hk) (ho.rows i hi k hk)
    have := ex_pos ((s.rows.getD i []).getD k Ex.zero)
    omega)
   simp only [sq,fR,bD,bC,List.length_cons,List.length_nil]; omega)
   rw [st_5 h]
   simp only [bD,bC,List.length_append,List.length_cons,List.length_nil]; omega
 · have h1 := kf (sj hp h) ho.wh
   rw [st_6 h]
   simp only [bD,bC,List.length_append,List.length_cons,List.length_nil]; omega
 · have h1 := gJ fT SetX.zero s.sets (fun i => iZ (s.sets.getD i SetX.zero)) (fun i hi => by
   have a := kH (sm hp h hi) (ho.sets i hi)
   simp only [sr,fT,bD,bC,List.length_append,List.length_cons,List.length_nil]; omega)
   have h2 := kf (sk hp h) ho.wh
   rw [st_7 h]
   simp only [bD,bC,List.length_append,List.length_cons,List.length_nil]; omega
 · have h1 := qryT_len (so hp h) ho.q
   rw [st_8 h]; omega
 · rw [st_9 h]; simp [raw]
 · rw [st_10 h]; simp [raw]
 · rw [st_11 h]; simp [raw]
end Go.WK
