/- Parts of the proof, joined: Rk4, Rk5, Rk6, Rk7, Rk8, Rk9, Rk10, Rk11, Dk1, Dk2, Dk3. -/
import Derived.Test.YtjbpkcbefmpfgaaGreatDoorE4
namespace Go.Proofs.YtjbpkcbefmpfgaaGreatDoor
open Go.WK Go.RowKit 
theorem built67 : Tryz.prog.built 67 [] = some ([.slice none 0 0, .int .i64 0, .int .i64 0] : List Value).toArray := by kernel_rfl
theorem mayXK : ∀ (n : Nat) (e : Ex), e.size < n → MX e := by
  intro n
  induction n with
  | zero => intro e h; omega
  | succ n ih =>
    intro e hs
    obtain ⟨o, v, t, nn, cc, al⟩ := e
    intro cs w hc ho hz
    obtain ⟨Ax, kx, xs, rfl, h1, h2, h3⟩ := hc
    exact mayStep o cc v t nn al Ax kx xs w h1 h2 h3 ho hz (fun i hi => ih _ (by have := Ex.size_at (o := o) (c := cc) (v := v) (t := t) (n := nn) hi; omega))
theorem mayXE (e : Ex) (bl : List Nat) (y : SL) (w : World) (h : ExR bl w e y) (ho : e.ok) (hz : e.size ≤ 70368744177664) : Calls Tryz.prog 32 #[.agg (exCs e y).toArray] w (Pure w (.bool e.may)) := mayXK (e.size + 1) e (by omega) _ w (ExK.c _ _ h) ho hz
theorem lacksE (e : Ex) (y : SL) (w : World) : Calls Tryz.prog 72 #[.agg (exCs e y).toArray] w (Pure w (.bool (lackX e))) := by
  obtain ⟨o, v, t, n, c, al⟩ := e
  exact lacksK o c v t n al y.A y.k w
theorem exprE (e : Ex) (hm : e.may = true) (ho : e.ok) (low : Int) (bl : List Nat) (y : SL) (pb : Nat) (A : Option Addr) (c : Nat) (l : List UInt8) (d m : Int) (w : World) (hP : PrAt w pb A c l d m) (hV : PV w (prL pb A) bl) (hK : ExR bl w e y) (hdm : 0 ≤ d ∧ d ≤ m) (hd : d + ((e.txt low).1.length : Int) ≤ 140737488355328) (hb : l.length + (e.txt low).1.length ≤ 70368744177664) :
    Calls Tryz.prog 26 #[.pointer (some ⟨pb, 0, none⟩), .agg (exCs e y).toArray, .int .i64 low] w (PrT w pb A (l ++ (e.txt low).1) d (max m (d + ((e.txt low).2 : Int)))) :=
  exprK (e.size + 1) e (by omega) hm ho low bl _ pb A c l d m w hP hV hK hdm (by have := deep_le (e.size + 1) e (by omega) hm low; omega) hb
theorem maybeK (e : Ex) (y : SL) (bl : List Nat) (w : World) (hK : ExR bl w e y) (ho : e.ok) (hz : e.size ≤ 70368744177664) (hbl : ∀ k ∈ bl, k < w.heap.size) : Calls Tryz.prog 33 #[.agg (exCs e y).toArray] w (Pure w (.bool (mayb e))) := by
  refine calls_tri (args := [.agg (exCs e y).toArray]) (lent := []) (H := []) Tryz.func33 rfl Tryz.ntmps33 rfl (Sat.start _ _ _ _) ?_; refine (show Tri _ [(0, _)] _ _ _ from ?_); refine tri_seq (tri_region ?_); refine o_box _ rfl rfl rfl (fun b1 => ?_); refine o_assignN rfl rfl ?_; refine tri_seq (tri_region ?_); refine o_loadA agg30 sz30 .z rfl rfl (vs := exCs e y) rfl rfl ?_; refine o_callP (first := []) (cap := []) rfl rfl rfl Tryz.call72 (fun w1 h1 => lacksE e y w1) ?_; refine o_move rfl rfl ?_
  refine' triL_or [_, _] [(2, _)] (dj := 5) (dr := 7) rfl rfl (fun g1 => ?_) ⟨_, rfl, rfl, rfl, (.cons rfl (.nil _))⟩ rfl ?_
  rotate_left
  · skip
    refine o_loadA agg30 sz30 .z rfl rfl (vs := exCs e y) rfl rfl ?_; refine o_callP (first := []) (cap := []) rfl rfl rfl Tryz.call32 (fun w1 h1 => mayXE e bl y w1 (hK.stab (fun k hk => h1.chg.block k (hbl k hk) (by simp))) ho hz) ?_
    exact triL_nil (Piece.mk rfl rfl (.cons rfl (.nil _)) (fun _ h => h))
  refine o_assignN rfl rfl ?_; refine tri_ret ?_; refine end1 rfl rfl ?_
  exact fun w1 hw1 => ⟨rfl, hw1.chg⟩
theorem Sat.nilRow {cx : Cx} {H : List Chunk} {w : World} (h : Sat cx H w) (t : Nat) : Sat cx (row (.slice none 0 0) t 1 0 [] :: H) w :=
  h.fuse (l := []) _ (fun _ => ⟨rfl, .inl ⟨rfl, rfl⟩⟩) (fun k hk => by cases hk)
theorem printExprK (e : Ex) (y : SL) (bl : List Nat) (w : World) (hV : PV w [] bl) (hK : ExR bl w e y) (ho : e.ok) (hz : e.size ≤ 70368744177664) (hT : e.may = true → (e.txt 1).1.length ≤ 70368744177664) : Calls Tryz.prog 13 #[.agg (exCs e y).toArray] w (Pure w (.tuple #[.string (B (prX e).1), .int .i64 (prX e).2])) := by
  refine calls_tri (args := [.agg (exCs e y).toArray]) (lent := []) (H := []) Tryz.func13 rfl Tryz.ntmps13 rfl (Sat.start _ _ _ _) ?_; refine (show Tri _ [(0, _)] _ _ _ from ?_)
  have hbl : ∀ k ∈ bl, k < w.heap.size := fun k hk => (hV.pe.lt k hk).1
  rw [prX_told]
  refine tri_seq (tri_region ?_); refine o_box _ rfl rfl rfl (fun b1 => ?_); refine o_assign rfl rfl ?_; refine o_assignN rfl rfl ?_; refine tri_seq ?_; refine tri_seq (tri_region ?_); refine o_loadA agg30 sz30 .z rfl rfl (vs := exCs e y) rfl rfl ?_; refine o_callP (first := []) (cap := []) rfl rfl rfl Tryz.call32 (fun w1 h1 => mayXE e bl y w1 (hK.stab (fun k hk => h1.chg.block k (hbl k hk) (by simp))) ho hz) ?_; refine o_not rfl rfl ?_; refine triL_nilN ?_; refine tri_cond rfl (fun q0 => ?_) (fun q0 => ?_)
  · skip
    have q0 := not_true q0
    refine tri_seq ?_; refine tri_slots [] (.nil _) ?_; refine tri_region ?_; refine o_assign rfl rfl ?_; refine o_assignN rfl rfl ?_; refine tri_ret ?_; refine thenQ_ret ?_; refine end2 rfl rfl rfl ?_
    exact fun w1 hw1 => ⟨by rw [if_neg (ne_t q0)], hw1.chg⟩
  · skip
    have q0 := not_false q0
    refine tri_skip ?_; refine thenQ_normal ?_; refine tri_seq ?_; refine tri_slots [(1, _)] (.cons rfl (.nil _)) ?_; refine tri_region ?_; refine o_build built67 rfl rfl ?_; refine o_box _ rfl rfl rfl (fun b9 => ?_); refine o_assignN rfl rfl ?_; refine tri_seq ?_
    have hT2 := hT q0
    refine Tri.heap (H' := [box b1 30 (exCs e y)] ++ prD b9 none 0 [] 0 0) (fun w hw => (Sat.nilRow hw 5).sel [2, 1, 0] (by decide)) ?_; refine tri_region ?_; refine o_move rfl rfl ?_; refine o_loadA agg30 sz30 .z rfl rfl (vs := exCs e y) rfl rfl ?_; refine o_callPr (pb := b9) [_] rfl rfl rfl rfl Tryz.call26 (fun w1 h1 h2 h3 => exprE e q0 ho 1 bl y b9 _ _ _ _ _ w1 h2 (hV.sub (PSub.of h1 h3)) (hK.stab (hV.pe.st (PSub.of h1 h3))) (by omega) (by omega) (by simp only [List.length_nil]; omega)) (fun A12 c12 => ?_); refine triL_nilN ?_; refine tri_seq ?_; refine tri_slots [(4, _)] (.cons rfl (.nil _)) ?_; refine tri_region ?_; refine o_move rfl rfl ?_; refine o_callM (J := Unit) (val := fun _ => .tuple #[.string (B (toldX _ _).1), .int .i64 (toldX _ _).2]) (D' := fun _ => prD b9 _ _ _ _ _) (Pu := fun _ => True) [_] (prD b9 _ _ _ _ _) [] (prL b9 _) rfl rfl rfl rfl Tryz.call28 (prD1 _ _ _ _ _ _) (prD2 _ _ _ _ _ _) (fun w1 h1 h2 => toldK b9 _ _ _ _ _ w1 h2 (by (try simp only [List.nil_append]); omega)) (fun _ _ => ?_); refine o_extract rfl rfl rfl ?_; refine o_extract rfl rfl rfl ?_; refine o_assign rfl rfl ?_; refine o_assignN rfl rfl ?_; refine tri_ret ?_; refine end2 rfl rfl rfl ?_
    exact fun w1 hw1 => ⟨by rw [if_pos q0, List.nil_append, show max (0 : Int) (0 + ((e.txt 1).2 : Int)) = ((e.txt 1).2 : Int) by omega], hw1.chg⟩
end Go.Proofs.YtjbpkcbefmpfgaaGreatDoor
namespace Go.Proofs.YtjbpkcbefmpfgaaGreatDoor
open Go.WK Go.RowKit 
theorem asR_ (s : List UInt8) (pb : Nat) (A : Option Addr) (c : Nat) (l : List UInt8) (m : Int) (w : World) (hP : PrAt w pb A c l 0 m) (_ : 0 ≤ m) (hb : l.length + (asT s).length ≤ 70368744177664) : Calls Tryz.prog 119 #[.pointer (some ⟨pb, 0, none⟩), .string (B s)] w (PrT w pb A (l ++ asT s) 0 m) := by
  refine calls_tri (args := [.pointer (some ⟨pb, 0, none⟩), .string (B s)]) (lent := prL pb A) (H := prD pb A c l 0 m) Tryz.func119 rfl Tryz.ntmps119 rfl (Sat.cx hP) ?_; refine (show Tri _ [(0, _), (1, _)] _ _ _ from ?_)
  unfold asT at hb ⊢
  refine tri_seq (tri_region ?_); refine o_move rfl rfl ?_; refine o_neqT rfl rfl rfl ?_; refine triL_nilN ?_; refine tri_cond rfl (fun q0 => ?_) (fun q0 => ?_)
  · skip
    have q0 := of_decide_eq_true q0
    rw [if_neg q0] at hb ⊢
    refine tri_region ?_; refine o_move rfl rfl ?_; refine o_move rfl rfl ?_; refine o_lit (parts := [_, _]) (strsV [[32, 97, 115, 32], s]) Tryz.underlying23 zs9 rfl rfl rfl rfl (by decide) (by decide) (fun b8 => ?_); refine o_callPr (pb := pb) [_] rfl rfl rfl rfl Tryz.call20 (fun w1 h1 h2 h3 => addK [[32, 97, 115, 32], s] _ _ pb _ _ _ _ _ w1 h2 (RdS.row .z w1 h1) (fun a ha => by cases ha; exact pr_apart h1 (fun x hx => hx) rfl) (by (try simp only [List.length_append, List.length_cons, List.length_nil, List.flatten_cons, List.flatten_nil] at hb ⊢); omega) (by simp)) (fun A9 c9 => ?_); refine triL_nil ?_; refine end0n rfl ?_
    exact fin_turn (J := Option Addr × Nat) (A9, c9) rfl trivial (fun w2 hw2 => prD_eq (by simp) rfl (by rfl) (hw2.sel [1, 2] (by decide)))
  · skip
    have q0 := Decidable.not_not.1 (of_decide_eq_false q0)
    rw [if_pos q0] at hb ⊢
    refine tri_skip ?_; refine end0n rfl ?_
    exact fin_turn (J := Option Addr × Nat) (A, c) rfl trivial (fun w2 hw2 => prD_eq (by simp) rfl (by rfl) (hw2.sel [0, 1] (by decide)))
theorem whereR_ (e : Ex) (y : SL) (bl : List Nat) (pb : Nat) (A : Option Addr) (c : Nat) (l : List UInt8) (m : Int) (w : World) (hP : PrAt w pb A c l 0 m) (hm0 : 0 ≤ m) (hV : PV w (prL pb A) bl) (hK : ExR bl w e y) (ho : e.ok) (hmy : mayb e = true) (hb : l.length + (whereT e).1.length ≤ 70368744177664) : Calls Tryz.prog 60 #[.pointer (some ⟨pb, 0, none⟩), .agg (exCs e y).toArray] w (PrT w pb A (l ++ (whereT e).1) 0 (max m ((whereT e).2 : Int))) := by
  refine calls_tri (args := [.pointer (some ⟨pb, 0, none⟩), .agg (exCs e y).toArray]) (lent := prL pb A) (H := prD pb A c l 0 m) Tryz.func60 rfl Tryz.ntmps60 rfl (Sat.cx hP) ?_; refine (show Tri _ [(0, _), (1, _)] _ _ _ from ?_)
  unfold whereT at hb ⊢
  refine tri_seq (tri_region ?_); refine o_box _ rfl rfl rfl (fun b3 => ?_); refine triL_nilN ?_; refine tri_seq (tri_region ?_); refine o_field fo30_0 rfl rfl ?_; refine o_load agg3 (by repeat (first | exact Nth.z | apply Nth.s)) rfl rfl rfl ?_; refine o_neqI rfl rfl rfl ?_; refine triL_nilN ?_; refine tri_if rfl (fun q0 => ?_) (fun q0 => ?_)
  · skip
    rw [if_neg q0] at hb ⊢
    refine tri_seq ?_; refine tri_slots [(3, _), (0, _)] (.cons rfl (.cons rfl (.nil _))) ?_; refine tri_region ?_; refine o_move rfl rfl ?_; refine o_lit1 Tryz.underlying23 zs9 rfl rfl rfl rfl rfl (by decide) (by decide) (fun b8 => ?_); refine o_callPr (pb := pb) [_, _] rfl rfl rfl rfl Tryz.call20 (fun w1 h1 h2 h3 => addK [[32, 119, 104, 101, 114, 101, 32]] _ _ pb _ _ _ _ _ w1 h2 (RdS.row .z w1 h1) (fun a ha => by cases ha; exact pr_apart h1 (fun x hx => (List.mem_cons_of_mem _ hx)) rfl) (by (try simp only [cat, raw, List.length_append, List.length_cons, List.length_nil, List.flatten_cons, List.flatten_nil] at hb ⊢); omega) (by simp)) (fun A9 c9 => ?_); refine triL_nilN ?_; refine tri_region ?_; refine o_move rfl rfl ?_; refine o_loadA agg30 sz30 (.s .z) rfl rfl (vs := exCs e y) rfl rfl ?_; refine o_callPr (pb := pb) [_, _] rfl rfl rfl rfl Tryz.call26 (fun w1 h1 h2 h3 => exprE e (mayb_may hmy q0) ho 1 bl y pb _ _ _ _ _ w1 h2 (hV.sub (PSub.of h1 h3)) (hK.stab (hV.pe.st (PSub.of h1 h3))) (by omega) (by (try simp only [cat, raw, List.length_append, List.length_cons, List.length_nil] at hb ⊢); omega) (by (try simp only [cat, raw, List.length_append, List.length_cons, List.length_nil, List.flatten_cons, List.flatten_nil] at hb ⊢); omega)) (fun A12 c12 => ?_); refine triL_nil ?_; refine end0n rfl ?_
    exact fin_turn (J := Option Addr × Nat) (A12, c12) rfl trivial (fun w2 hw2 => prD_eq (by simp [cat, raw]) rfl (by simp only [cat, raw]; omega) (hw2.sel [2, 3] (by decide)))
  · skip
    have q0 := Decidable.not_not.1 q0
    rw [if_pos q0] at hb ⊢
    refine tri_skip ?_; refine end0n rfl ?_
    exact fin_turn (J := Option Addr × Nat) (A, c) rfl trivial (fun w2 hw2 => prD_eq (by simp) rfl (by simp only; omega) (hw2.sel [1, 2] (by decide)))
theorem comT_succ (g : Nat → Txt) (i : Nat) : comT g (i + 1) = cat (comT g i) (cat (raw (cm i)) (g i)) := rfl
theorem comT_le (g : Nat → Txt) {i n : Nat} (h : i < n) : (comT g i).1.length + ((cm i).length + (g i).1.length) ≤ (comT g n).1.length := by
  have := upT_at (fun i => cat (raw (cm i)) (g i)) h
  simpa [cat, raw, comT] using this
theorem commasK (g : Nat → Txt) (n : Nat) (q : Nat) (fst cap : List Value) (pb : Nat) (A : Option Addr) (c : Nat) (l : List UInt8) (m : Int) (w : World) (hP : PrAt w pb A c l 0 m) (hm0 : 0 ≤ m) (hn : n ≤ 70368744177664) (hb : l.length + (comT g n).1.length ≤ 70368744177664) (hcf : ∀ args w, (callFunc q args).run Tryz.prog w = .ok (.enter q args) w) (hone : ∀ (i : Nat) (A1 : Option Addr) (c1 : Nat) (l1 : List UInt8) (m1 : Int) (w1 : World), i < n → PSub w (prL pb A) w1 (prL pb A1) → PrAt w1 pb A1 c1 l1 0 m1 → 0 ≤ m1 → l1.length + (g i).1.length ≤ 70368744177664 → Calls Tryz.prog q (fst ++ [Value.int .i64 (i : Int)] ++ cap).toArray w1 (PrT w1 pb A1 (l1 ++ (g i).1) 0 (max m1 ((g i).2 : Int)))) : Calls Tryz.prog 21 #[.pointer (some ⟨pb, 0, none⟩), .int .i64 (n : Int), .func (.func q) fst.toArray cap.toArray] w (PrT w pb A (l ++ (comT g n).1) 0 (max m ((comT g n).2 : Int))) := by
  refine calls_tri (args := [.pointer (some ⟨pb, 0, none⟩), .int .i64 (n : Int), .func (.func q) fst.toArray cap.toArray]) (lent := prL pb A) (H := prD pb A c l 0 m) Tryz.func21 rfl Tryz.ntmps21 rfl (Sat.cx hP) ?_; refine (show Tri _ [(0, _), (1, _), (2, _)] _ _ _ from ?_); refine tri_seq (tri_region ?_); refine o_move rfl rfl ?_; refine o_move rfl rfl ?_; refine triL_nilN ?_; refine tri_block ?_; refine tri_loop (ι := Nat × Option Addr × Nat) (F := fun i => [(0, .pointer (some ⟨pb, 0, none⟩)), (2, .func (.func q) fst.toArray cap.toArray), (7, .int .i64 (n : Int)), (8, .int .i64 (i.1 : Int))]) (HH := fun i => prD pb i.2.1 i.2.2 (l ++ (comT g i.1).1) 0 (max m ((comT g i.1).2 : Int))) (Pu := fun i => i.1 ≤ n) (μ := fun i => n - i.1) ((0, A, c)) (.cons rfl (.cons rfl (.cons rfl (.cons rfl (.nil _))))) (fun w2 hw2 => prD_eq (by simp [comT, upT]) rfl (by simp only [comT, upT]; omega) hw2) (Nat.zero_le _) (fun i hi => ?_); refine tri_seq (tri_region ?_); refine o_lss rfl rfl rfl ?_; refine triL_nilN ?_; refine tri_seq ?_; refine tri_if rfl (fun q0 => ?_) (fun q0 => ?_)
  · skip
    have hil : i.1 < n := by omega
    refine tri_skip ?_; refine thenQ_normal ?_; refine tri_seq ?_; refine tri_block ?_; refine tri_seq (tri_region ?_); refine o_move rfl rfl ?_; refine o_assignN rfl rfl ?_; refine tri_join (ι := Option Addr × Nat) (fun j => [(0, .pointer (some ⟨pb, 0, none⟩)), (2, .func (.func q) fst.toArray cap.toArray), (6, .int .i64 (i.1 : Int)), (7, .int .i64 (n : Int)), (8, .int .i64 (i.1 : Int))]) (fun j => prD pb j.1 j.2 (l ++ ((comT g i.1).1 ++ cm i.1)) 0 (max m ((comT g i.1).2 : Int))) (fun j => True) ?_ (fun j hj => ?_)
    · skip
      refine tri_seq (tri_region ?_); refine o_move rfl rfl ?_; refine o_gtr rfl rfl rfl ?_; refine triL_nilN ?_; refine tri_if rfl (fun q1 => ?_) (fun q1 => ?_)
      · skip
        refine tri_slots [(6, _), (0, _), (2, _), (7, _), (8, _)] (.cons rfl (.cons rfl (.cons rfl (.cons rfl (.cons rfl (.nil _)))))) ?_; refine tri_region ?_; refine o_move rfl rfl ?_; refine o_lit1 Tryz.underlying23 zs9 rfl rfl rfl rfl rfl (by decide) (by decide) (fun b14 => ?_); refine o_callPr (pb := pb) [_] rfl rfl rfl rfl Tryz.call20 (fun w1 h1 h2 h3 => addK [[44, 32]] _ _ pb _ _ _ _ _ w1 h2 (RdS.row .z w1 h1) (fun a ha => by cases ha; exact pr_apart h1 (fun x hx => hx) rfl) (by have := comT_le g hil; rw [cm, if_neg (by omega)] at this; simp only [List.length_append, List.length_cons, List.length_nil, List.flatten_cons, List.flatten_nil] at this ⊢; omega) (by simp)) (fun A15 c15 => ?_); refine triL_nilN ?_
        exact ⟨(A15, c15), (.cons rfl (.cons rfl (.cons rfl (.cons rfl (.cons rfl (.nil _)))))), (fun w2 hw2 => prD_eq (by rw [cm, if_neg (by omega)]; simp) rfl rfl (hw2.sel [1, 2] (by decide))), trivial⟩
      · skip
        refine tri_skip ?_; refine thenQ_normal ?_
        exact ⟨(i.2.1, i.2.2), (.cons rfl (.cons rfl (.cons rfl (.cons rfl (.cons rfl (.nil _)))))), (fun w2 hw2 => prD_eq (by rw [cm, if_pos (by omega)]; simp) rfl rfl hw2), trivial⟩
    refine tri_region ?_; refine o_move rfl rfl ?_; refine o_move rfl rfl ?_; refine o_callPr (pb := pb) [] rfl rfl rfl rfl hcf (fun w1 h1 h2 h3 => hone i.1 _ _ _ _ w1 hil (PSub.of h1 h3) h2 (by omega) (by have := comT_le g hil; simp only [List.length_append]; omega)) (fun A18 c18 => ?_); refine triL_nil ?_; refine blockQ_normal ?_; refine thenQ_normal ?_; refine tri_slots [(0, _), (2, _), (7, _), (8, _)] (.cons rfl (.cons rfl (.cons rfl (.cons rfl (.nil _))))) ?_; refine tri_region ?_; refine o_addN rfl rfl rfl (by omega) ?_; refine o_move rfl rfl ?_; refine triL_nilN ?_
    exact ⟨(i.1 + 1, A18, c18), (.cons rfl (.cons rfl (.cons rfl (.cons rfl (.nil _))))), (fun w2 hw2 => prD_eq (by rw [comT_succ]; simp [cat, raw]) rfl (by rw [comT_succ]; simp only [cat, raw]; omega) hw2), by simp only; omega, (by simp only; omega)⟩
  · skip
    refine tri_exit ?_; refine thenQ_exit ?_; refine thenQ_exit ?_; refine blockQ_here ?_; refine end0n rfl ?_
    exact fin_turn (J := Option Addr × Nat) (i.2.1, i.2.2) rfl trivial (fun w2 hw2 => prD_eq (by rw [show i.1 = n by omega]) rfl (by rw [show i.1 = n by omega]) hw2)
end Go.Proofs.YtjbpkcbefmpfgaaGreatDoor
namespace Go.Proofs.YtjbpkcbefmpfgaaGreatDoor
open Go.WK Go.RowKit 
theorem agg64 : aggB Tryz.prog 64 = some false := by kernel_rfl
theorem fo53_0 : fieldB Tryz.prog 53 0 = some 0 := by kernel_rfl
theorem fo121_0 : fieldB Tryz.prog 121 0 = some 0 := by kernel_rfl
theorem agg4 : aggB Tryz.prog 4 = some false := by kernel_rfl
theorem mayI_1 {a : ItemX} (h : mayI a = true) : a.e.may = true := by
  unfold mayI at h; simp only [Bool.and_eq_true] at h; exact h.1
theorem query1K (q : QryX) (y : QLay) (bl : List Nat) (bp bx i : Nat) (pb : Nat) (A : Option Addr) (c : Nat) (l : List UInt8) (m : Int) (w : World) (hP : PrAt w pb A c l 0 m) (hm0 : 0 ≤ m) (hV : PV w (prL pb A) bl) (hE : CEnv w bl bp pb bx (quCs q y)) (hA : QAt bl w q y) (hi : i < q.items.length) (hmy : mayI (q.items.getD i ItemX.zero) = true) (ho : (q.items.getD i ItemX.zero).e.ok) (hb : l.length + (itemT (q.items.getD i ItemX.zero)).1.length ≤ 70368744177664) : Calls Tryz.prog 118 #[.int .i64 (i : Int), .pointer (some ⟨bp, 0, none⟩), .pointer (some ⟨bx, 0, none⟩)] w (PrT w pb A (l ++ (itemT (q.items.getD i ItemX.zero)).1) 0 (max m ((itemT (q.items.getD i ItemX.zero)).2 : Int))) := by
  refine calls_tri (args := [.int .i64 (i : Int), .pointer (some ⟨bp, 0, none⟩), .pointer (some ⟨bx, 0, none⟩)]) (lent := prL pb A) (H := prD pb A c l 0 m) Tryz.func118 rfl Tryz.ntmps118 rfl (Sat.cx hP) ?_; refine (show Tri _ [(0, _), (1, _), (2, _)] _ _ _ from ?_)
  have hP_ := hE.rp hV.pe
  have hX_ := hE.rx hV.pe
  obtain ⟨xI, xF, xO, hI, _, _, _⟩ := hA
  obtain ⟨ye, hci, hye⟩ := item_at hI i hi
  simp only [itemT, cat, raw, List.length_append] at hb
  refine tri_seq ?_; refine tri_mix (_) [(0, true), (1, true), (2, true), (3, true), (4, true), (5, true), (6, true), (7, false)] [7] (by kernel_rfl) (by kernel_rfl) (fun _ h => h) ?_; refine mix_fix rfl ?_; refine o_loadR (A := some ⟨bp, 0, none⟩) (kk := 0) agg64 rfl rfl (hP_ _ _ rfl rfl) rfl ?_; refine triL_nil ⟨rfl, mix_fix rfl ?_⟩; refine o_fieldAt (A := some ⟨bx, 0, none⟩) (kk := 0) fo35_2 rfl rfl (hX_ _ _ rfl rfl) rfl ?_; refine triL_nil ⟨rfl, mix_fix rfl ?_⟩; refine o_loadR agg31 rfl rfl (hX_ _ _ rfl rfl) rfl ?_; refine triL_nil ⟨rfl, mix_fix rfl ?_⟩; refine o_move rfl rfl ?_; refine triL_nil ⟨rfl, mix_fix rfl ?_⟩; refine o_idxS Tryz.underlying31 sz53 rfl rfl rfl (hI.rd hV.pe _ _ rfl rfl) (by omega) (by omega) hI.len (by decide) ?_; refine triL_nil ⟨rfl, mix_fix rfl ?_⟩; refine o_fieldAt fo53_0 rfl rfl (hI.rd hV.pe _ _ rfl rfl) (take_get hci (j := 0) rfl) ?_; refine triL_nil ⟨rfl, mix_fix rfl ?_⟩; refine o_loadRA agg30 sz30 rfl rfl (hI.rd hV.pe _ _ rfl rfl) (vs := exCs ((q.items.getD i ItemX.zero).e) ye) (take_mid (p := []) (cs := exCs ((q.items.getD i ItemX.zero).e) ye) (r := [_]) hci) rfl (by decide) ?_; refine triL_nil ⟨rfl, ?_⟩; refine mix_rest [7] [_] rfl rfl ?_; refine o_callPr (pb := pb) [] rfl rfl rfl rfl Tryz.call26 (fun w1 h1 h2 h3 => exprE ((q.items.getD i ItemX.zero).e) (mayI_1 hmy) (ho) 1 bl ye pb _ _ _ _ _ w1 h2 (hV.sub (PSub.of h1 h3)) (hye.stab (hV.pe.st (PSub.of h1 h3))) (by omega) (by (try simp only [cat, raw, List.length_append, List.length_cons, List.length_nil, List.flatten_cons, List.flatten_nil] at hb ⊢); omega) (by (try simp only [cat, raw, List.length_append, List.length_cons, List.length_nil, List.flatten_cons, List.flatten_nil] at hb ⊢); omega)) (fun A11 c11 => ?_); refine triL_nil ⟨rfl, ?_⟩; refine thenQ_normal ?_; refine tri_slots [(0, _), (1, _), (2, _)] (.cons rfl (.cons rfl (.cons rfl (.nil _)))) ?_; refine tri_mix (_) [(0, true), (1, true), (2, true), (3, true), (4, true), (5, true), (6, true), (7, false)] [7] (by kernel_rfl) (by kernel_rfl) (fun _ h => h) ?_; refine mix_fix rfl ?_; refine o_loadR (A := some ⟨bp, 0, none⟩) (kk := 0) agg64 rfl rfl (hP_ _ _ rfl rfl) rfl ?_; refine triL_nil ⟨rfl, mix_fix rfl ?_⟩; refine o_fieldAt (A := some ⟨bx, 0, none⟩) (kk := 0) fo35_2 rfl rfl (hX_ _ _ rfl rfl) rfl ?_; refine triL_nil ⟨rfl, mix_fix rfl ?_⟩; refine o_loadR agg31 rfl rfl (hX_ _ _ rfl rfl) rfl ?_; refine triL_nil ⟨rfl, mix_fix rfl ?_⟩; refine o_move rfl rfl ?_; refine triL_nil ⟨rfl, mix_fix rfl ?_⟩; refine o_idxS Tryz.underlying31 sz53 rfl rfl rfl (hI.rd hV.pe _ _ rfl rfl) (by omega) (by omega) hI.len (by decide) ?_; refine triL_nil ⟨rfl, mix_fix rfl ?_⟩; refine o_fieldAt fo53_1 rfl rfl (hI.rd hV.pe _ _ rfl rfl) (take_get hci (j := 0) rfl) ?_; refine triL_nil ⟨rfl, mix_fix rfl ?_⟩; refine o_loadR agg9 rfl rfl (hI.rd hV.pe _ _ rfl rfl) (take_get hci (j := 8) rfl) ?_; refine triL_nil ⟨rfl, ?_⟩; refine mix_rest [7] [_] rfl rfl ?_; refine o_callPr (pb := pb) [] rfl rfl rfl rfl Tryz.call119 (fun w1 h1 h2 h3 => asR_ (q.items.getD i ItemX.zero).s pb _ _ _ _ w1 h2 (by omega) (by (try simp only [List.length_append] at hb ⊢); omega)) (fun A19 c19 => ?_); refine triL_nil ⟨rfl, ?_⟩; refine end0n rfl ?_
  exact fin_turn (J := Option Addr × Nat) (A19, c19) rfl trivial (fun w2 hw2 => prD_eq (by simp [itemT, cat, raw]) rfl (by simp only [itemT, cat, raw]; omega) (hw2.sel [0, 1] (by decide)))
theorem query2K (q : QryX) (y : QLay) (bl : List Nat) (bp bx i : Nat) (pb : Nat) (A : Option Addr) (c : Nat) (l : List UInt8) (m : Int) (w : World) (hP : PrAt w pb A c l 0 m) (hm0 : 0 ≤ m) (hV : PV w (prL pb A) bl) (hE : CEnv w bl bp pb bx (quCs q y)) (hA : QAt bl w q y) (hi : i < q.ord.length) (hb : l.length + (ordT (q.ord.getD i OrdX.zero)).1.length ≤ 70368744177664) : Calls Tryz.prog 120 #[.int .i64 (i : Int), .pointer (some ⟨bp, 0, none⟩), .pointer (some ⟨bx, 0, none⟩)] w (PrT w pb A (l ++ (ordT (q.ord.getD i OrdX.zero)).1) 0 (max m ((ordT (q.ord.getD i OrdX.zero)).2 : Int))) := by
  refine calls_tri (args := [.int .i64 (i : Int), .pointer (some ⟨bp, 0, none⟩), .pointer (some ⟨bx, 0, none⟩)]) (lent := prL pb A) (H := prD pb A c l 0 m) Tryz.func120 rfl Tryz.ntmps120 rfl (Sat.cx hP) ?_; refine (show Tri _ [(0, _), (1, _), (2, _)] _ _ _ from ?_)
  have hP_ := hE.rp hV.pe
  have hX_ := hE.rx hV.pe
  obtain ⟨xI, xF, xO, _, _, _, hO⟩ := hA
  have hci := ord_at hO i hi
  simp only [ordT, raw, List.length_append] at hb
  refine tri_seq ?_; refine tri_mix (_) [(0, true), (1, true), (2, true), (3, true), (4, true), (5, true), (6, true), (7, false), (8, false)] [8] (by kernel_rfl) (by kernel_rfl) (fun _ h => h) ?_; refine mix_fix rfl ?_; refine o_loadR (A := some ⟨bp, 0, none⟩) (kk := 0) agg64 rfl rfl (hP_ _ _ rfl rfl) rfl ?_; refine triL_nil ⟨rfl, mix_fix rfl ?_⟩; refine o_fieldAt (A := some ⟨bx, 0, none⟩) (kk := 0) fo35_5 rfl rfl (hX_ _ _ rfl rfl) rfl ?_; refine triL_nil ⟨rfl, mix_fix rfl ?_⟩; refine o_loadR agg33 rfl rfl (hX_ _ _ rfl rfl) rfl ?_; refine triL_nil ⟨rfl, mix_fix rfl ?_⟩; refine o_move rfl rfl ?_; refine triL_nil ⟨rfl, mix_fix rfl ?_⟩; refine o_idxS Tryz.underlying33 sz121 rfl rfl rfl (hO.rd hV.pe _ _ rfl rfl) (by omega) (by omega) hO.len (by decide) ?_; refine triL_nil ⟨rfl, mix_fix rfl ?_⟩; refine o_fieldAt fo121_0 rfl rfl (hO.rd hV.pe _ _ rfl rfl) (take_get hci (j := 0) rfl) ?_; refine triL_nil ⟨rfl, mix_fix rfl ?_⟩; refine o_loadR agg9 rfl rfl (hO.rd hV.pe _ _ rfl rfl) (take_get hci (j := 0) rfl) ?_; refine triL_nil ⟨rfl, ?_⟩; refine mix_op rfl ?_; refine o_lit1 Tryz.underlying23 zs9 rfl rfl rfl rfl rfl (by decide) (by decide) (fun b11 => ?_); refine triL_nil ⟨rfl, fun _ _ h => Sat.dropS 1 h, ?_⟩; refine mix_rest [8] [_] rfl rfl ?_; refine o_callPr (pb := pb) [_] rfl rfl rfl rfl Tryz.call20 (fun w1 h1 h2 h3 => addK [(q.ord.getD i OrdX.zero).n] _ _ pb _ _ _ _ _ w1 h2 (RdS.row .z w1 h1) (fun a ha => by cases ha; exact pr_apart h1 (fun x hx => hx) rfl) (by (try simp only [List.length_append, List.length_nil, List.flatten_cons, List.flatten_nil] at hb ⊢); omega) (by simp)) (fun A12 c12 => ?_); refine triL_nil ⟨rfl, ?_⟩; refine thenQ_normal ?_; refine tri_seq ?_; refine tri_slots [(0, _), (1, _), (2, _)] (.cons rfl (.cons rfl (.cons rfl (.nil _)))) ?_; refine tri_region ?_; refine o_fieldAt (A := some ⟨bx, 0, none⟩) (kk := 0) fo35_5 rfl rfl (hX_ _ _ rfl rfl) rfl ?_; refine o_loadR agg33 rfl rfl (hX_ _ _ rfl rfl) rfl ?_; refine o_move rfl rfl ?_; refine o_idxS Tryz.underlying33 sz121 rfl rfl rfl (hO.rd hV.pe _ _ rfl rfl) (by omega) (by omega) hO.len (by decide) ?_; refine o_fieldAt fo121_1 rfl rfl (hO.rd hV.pe _ _ rfl rfl) (take_get hci (j := 0) rfl) ?_; refine o_loadR agg4 rfl rfl (hO.rd hV.pe _ _ rfl rfl) (take_get hci (j := 1) rfl) ?_; refine triL_nilN ?_; refine tri_cond rfl (fun q0 => ?_) (fun q0 => ?_)
  · skip
    refine tri_slots [(1, _)] (.cons rfl (.nil _)) ?_; refine tri_region ?_; refine o_loadR (A := some ⟨bp, 0, none⟩) (kk := 0) agg64 rfl rfl (hP_ _ _ rfl rfl) rfl ?_; refine o_lit1 Tryz.underlying23 zs9 rfl rfl rfl rfl rfl (by decide) (by decide) (fun b20 => ?_); refine o_callPr (pb := pb) [_, _] rfl rfl rfl rfl Tryz.call20 (fun w1 h1 h2 h3 => addK [[32, 100, 101, 115, 99]] _ _ pb _ _ _ _ _ w1 h2 (RdS.row .z w1 h1) (fun a ha => by cases ha; exact pr_apart h1 (fun x hx => (List.mem_cons_of_mem _ hx)) rfl) (by rw [q0] at hb; simp only [descT, if_true, List.length_append, List.length_cons, List.length_nil, List.flatten_cons, List.flatten_nil] at hb ⊢; omega) (by simp)) (fun A21 c21 => ?_); refine triL_nil ?_; refine end0n rfl ?_
    exact fin_turn (J := Option Addr × Nat) (A21, c21) rfl trivial (fun w2 hw2 => prD_eq (by rw [ordT, q0]; simp [raw, descT]) rfl (by simp only [ordT, raw]; omega) (hw2.sel [2, 3] (by decide)))
  · skip
    refine tri_skip ?_; refine end0n rfl ?_
    exact fin_turn (J := Option Addr × Nat) (A12, c12) rfl trivial (fun w2 hw2 => prD_eq (by rw [ordT, q0]; simp [raw, descT]) rfl (by simp only [ordT, raw]; omega) (hw2.sel [1, 2] (by decide)))
end Go.Proofs.YtjbpkcbefmpfgaaGreatDoor
namespace Go.Proofs.YtjbpkcbefmpfgaaGreatDoor
open Go.WK Go.RowKit 
theorem built160 : ∀ (a b : ByteArray), Tryz.prog.built 160 [(0, .string a), (1, .string b)] = some ([.string a, .string b] : List Value).toArray := by intros; kernel_rfl
theorem fo87_0 : fieldB Tryz.prog 87 0 = some 0 := by kernel_rfl
theorem prF_eq {F : List Chunk} {pb : Nat} {A : Option Addr} {c : Nat} {l l' : List UInt8} {d d' m m' : Int} {cx : Cx} {w : World} (h1 : l = l') (h2 : d = d') (h3 : m = m') (h : Sat cx (F ++ prD pb A c l d m) w) : Sat cx (F ++ prD pb A c l' d' m') w := by subst h1 h2 h3; exact h
theorem mayQ_parts {q : QryX} (h : mayQ q = true) : mayb q.wh = true ∧ (q.from_.length ≤ 4 ∧ q.ord.length ≤ 16 ∧ q.items.length ≤ 16) ∧ (∀ i, i < q.items.length → mayI (q.items.getD i ItemX.zero) = true) ∧ (∀ i, i < q.from_.length → mayF i (q.from_.getD i SrcX.zero) = true) := by
  unfold mayQ at h
  simp only [Bool.and_eq_true, decide_eq_true_eq] at h
  obtain ⟨⟨h1, h2, h3, _⟩, h4, h5, h6, _⟩ := h
  refine ⟨h1, ⟨h2, h3, ?_⟩, fun i hi => allT_at h5 hi, fun i hi => allT_at h6 hi⟩
  split at h4
  · have := of_decide_eq_true h4; omega
  · unfold upTo at h4; simp only [Bool.and_eq_true, decide_eq_true_eq] at h4; exact h4.2
theorem srcT_len (i : Nat) (a : SrcX) : (srcT i a).1.length = 6 + (a.t.length + (asT a.s).length) + (if i = 0 then 0 else 4 + (a.e.txt 1).1.length) := by
  unfold srcT
  by_cases h : i = 0
  · rw [if_pos h, if_pos h, if_pos h]; simp only [cat, raw, List.length_append, List.length_cons, List.length_nil]; try omega
  · rw [if_neg h, if_neg h, if_neg h]; simp only [cat, raw, List.length_append, List.length_cons, List.length_nil]; try omega
theorem fj_get (i : Nat) : ([.string (B [32, 102, 114, 111, 109, 32]), .string (B [32, 106, 111, 105, 110, 32])] : List Value)[(min (i : Int) 1).toNat]? = some (.string (B (if i = 0 then [32, 102, 114, 111, 109, 32] else [32, 106, 111, 105, 110, 32]))) := by
  by_cases h : i = 0
  · subst h; rfl
  · rw [if_neg h, show (min (i : Int) 1).toNat = 1 by omega]; rfl
theorem mayF_2 {i : Nat} {a : SrcX} (h : mayF i a = true) (hi : 0 < i) : a.e.may = true := by
  unfold mayF at h
  rw [if_neg (by omega)] at h
  simp only [Bool.and_eq_true] at h
  exact h.2.2
set_option maxHeartbeats 1000000 in
theorem queryP (q : QryX) (y : QLay) (bl : List Nat) (pb : Nat) (A : Option Addr) (c : Nat) (l : List UInt8) (m : Int) (w : World) (hP : PrAt w pb A c l 0 m) (hm0 : 0 ≤ m) (hV : PV w (prL pb A) bl) (hA : QAt bl w q y) (hmy : mayQ q = true) (hok : QOk q) (hb : l.length + (qryT q).1.length ≤ 70368744177664) : Calls Tryz.prog 62 #[.pointer (some ⟨pb, 0, none⟩), .agg (quCs q y).toArray] w (PrT w pb A (l ++ (qryT q).1) 0 (max m ((qryT q).2 : Int))) := by
  refine calls_tri (args := [.pointer (some ⟨pb, 0, none⟩), .agg (quCs q y).toArray]) (lent := prL pb A) (H := prD pb A c l 0 m) Tryz.func62 rfl Tryz.ntmps62 rfl (Sat.cx hP) ?_; refine (show Tri _ [(0, _), (1, _)] _ _ _ from ?_)
  obtain ⟨my1, ⟨my2, my3, my4⟩, my5, my6⟩ := mayQ_parts hmy
  obtain ⟨xI, xF, xO, hI, hF, hW, hO⟩ := id hA
  simp only [qryT, cat, raw, List.length_append] at hb
  refine tri_seq (tri_region ?_); refine o_box _ rfl rfl rfl (fun b2 => ?_); refine o_box _ rfl rfl rfl (fun b3 => ?_); refine triL_nilN ?_; refine tri_seq (tri_region ?_); refine o_load agg64 (by repeat (first | exact Nth.z | apply Nth.s)) rfl rfl rfl ?_; refine o_lit1 Tryz.underlying23 zs9 rfl rfl rfl rfl rfl (by decide) (by decide) (fun b7 => ?_); refine o_callPr (pb := pb) [_, _, _] rfl rfl rfl rfl Tryz.call20 (fun w1 h1 h2 h3 => addK [[115, 101, 108, 101, 99, 116, 32]] _ _ pb _ _ _ _ _ w1 h2 (RdS.row .z w1 h1) (fun a ha => by cases ha; exact pr_apart h1 (fun x hx => (List.mem_cons_of_mem _ (List.mem_cons_of_mem _ hx))) rfl) (by (try simp only [List.length_append, List.length_cons, List.length_nil, List.flatten_cons, List.flatten_nil, selT] at hb ⊢); omega) (by simp)) (fun A8 c8 => ?_); refine triL_nilN ?_; refine tri_join (ι := Option Addr × Nat) (fun j => [(2, .pointer (some ⟨b2, 0, none⟩)), (3, .pointer (some ⟨b3, 0, none⟩))]) (fun j => [box b3 35 (quCs q y), box b2 64 [.pointer (some ⟨pb, 0, none⟩)]] ++ prD pb j.1 j.2 (l ++ ([115, 101, 108, 101, 99, 116, 32] ++ (if q.di = true then [100, 105, 115, 116, 105, 110, 99, 116, 32] else []))) 0 (m)) (fun j => True) ?_ (fun j hj => ?_)
  · skip
    refine tri_seq ?_; refine tri_slots [(3, _), (2, _)] (.cons rfl (.cons rfl (.nil _))) ?_; refine tri_region ?_; refine o_field fo35_0 rfl rfl ?_; refine o_load agg4 (by repeat (first | exact Nth.z | apply Nth.s)) rfl rfl rfl ?_; refine triL_nilN ?_; refine tri_cond rfl (fun q0 => ?_) (fun q0 => ?_)
    · skip
      refine tri_region ?_; refine o_load agg64 (by repeat (first | exact Nth.z | apply Nth.s)) rfl rfl rfl ?_; refine o_lit1 Tryz.underlying23 zs9 rfl rfl rfl rfl rfl (by decide) (by decide) (fun b12 => ?_); refine o_callPr (pb := pb) [_, _, _, _] rfl rfl rfl rfl Tryz.call20 (fun w1 h1 h2 h3 => addK [[100, 105, 115, 116, 105, 110, 99, 116, 32]] _ _ pb _ _ _ _ _ w1 h2 (RdS.row .z w1 h1) (fun a ha => by cases ha; exact pr_apart h1 (fun x hx => (List.mem_cons_of_mem _ (List.mem_cons_of_mem _ (List.mem_cons_of_mem _ hx)))) rfl) (by rw [selT, q0] at hb; (try simp only [List.length_append, List.length_cons, List.length_nil, List.flatten_cons, List.flatten_nil, if_true] at hb ⊢); omega) (by simp)) (fun A13 c13 => ?_); refine triL_nilN ?_
      exact ⟨(A13, c13), (.cons rfl (.cons rfl (.nil _))), (fun w2 hw2 => prF_eq (by rw [q0]; simp) rfl (by rfl) (hw2.sel [2, 3, 4, 5] (by decide))), trivial⟩
    · skip
      refine tri_skip ?_; refine thenQ_normal ?_
      exact ⟨(A8, c8), (.cons rfl (.cons rfl (.nil _))), (fun w2 hw2 => prF_eq (by rw [q0]; simp) rfl (by rfl) (hw2.sel [1, 2, 3, 4] (by decide))), trivial⟩
  refine tri_join (ι := Option Addr × Nat) (fun j => [(2, .pointer (some ⟨b2, 0, none⟩)), (3, .pointer (some ⟨b3, 0, none⟩))]) (fun j => [box b3 35 (quCs q y), box b2 64 [.pointer (some ⟨pb, 0, none⟩)]] ++ prD pb j.1 j.2 (l ++ selT q) 0 (m)) (fun j => True) ?_ (fun j hj => ?_)
  · skip
    refine tri_seq (tri_region ?_); refine o_field fo35_1 rfl rfl ?_; refine o_load agg4 (by repeat (first | exact Nth.z | apply Nth.s)) rfl rfl rfl ?_; refine triL_nilN ?_; refine tri_cond rfl (fun q1 => ?_) (fun q1 => ?_)
    · skip
      refine tri_region ?_; refine o_load agg64 (by repeat (first | exact Nth.z | apply Nth.s)) rfl rfl rfl ?_; refine o_lit1 Tryz.underlying23 zs9 rfl rfl rfl rfl rfl (by decide) (by decide) (fun b17 => ?_); refine o_callPr (pb := pb) [_, _, _] rfl rfl rfl rfl Tryz.call20 (fun w1 h1 h2 h3 => addK [[42]] _ _ pb _ _ _ _ _ w1 h2 (RdS.row .z w1 h1) (fun a ha => by cases ha; exact pr_apart h1 (fun x hx => (List.mem_cons_of_mem _ (List.mem_cons_of_mem _ hx))) rfl) (by rw [selT, q1] at hb; (try simp only [List.length_append, List.length_cons, List.length_nil, List.flatten_cons, List.flatten_nil, if_true] at hb ⊢); omega) (by simp)) (fun A18 c18 => ?_); refine triL_nilN ?_
      exact ⟨(A18, c18), (.cons rfl (.cons rfl (.nil _))), (fun w2 hw2 => prF_eq (by rw [selT, q1]; simp) rfl (by rfl) (hw2.sel [1, 2, 3, 4] (by decide))), trivial⟩
    · skip
      refine tri_skip ?_; refine thenQ_normal ?_
      exact ⟨j, (.cons rfl (.cons rfl (.nil _))), (fun w2 hw2 => prF_eq (by rw [selT, q1]; simp) rfl (by rfl) (hw2.sel [0, 1, 2, 3] (by decide))), trivial⟩
  refine tri_seq (tri_region ?_); refine o_load agg64 (by repeat (first | exact Nth.z | apply Nth.s)) rfl rfl rfl ?_; refine o_field fo35_2 rfl rfl ?_; refine o_load agg31 (by repeat (first | exact Nth.z | apply Nth.s)) rfl rfl rfl ?_; refine o_lenS Tryz.underlying31 rfl rfl ?_; refine o_makeFunc rfl rfl rfl ?_; refine o_callPr (pb := pb) [_, _] rfl rfl rfl rfl Tryz.call21 (fun w1 h1 h2 h3 => commasK (fun i => itemT (q.items.getD i ItemX.zero)) q.items.length 118 [] [.pointer (some ⟨b2, 0, none⟩), .pointer (some ⟨b3, 0, none⟩)] pb _ _ _ _ w1 h2 (by omega) (by omega) (by (try simp only [List.length_append] at hb ⊢); omega) Tryz.call118 (fun i A1 c1 l1 m1 w2 hi hs hP1 hm1 hb1 => by have hce := cenv (F := [_, _]) hV.pe h1 (.s .z) .z; have hPV : PV w1 _ _ := ⟨hce.1, (hV.lv.chgL h1.chg (fun k hk => (hV.pe.g k hk).2))⟩; have hA2 := (hA.stab (hV.pe.st (PSub.of h1 h3))).mono (bl' := b2 :: b3 :: bl) (fun k hk => List.mem_cons_of_mem _ (List.mem_cons_of_mem _ hk)); exact query1K q y (b2 :: b3 :: bl) b2 b3 i pb A1 c1 l1 m1 w2 hP1 hm1 (hPV.sub hs) (hce.2.stab (hce.1.st hs)) (hA2.stab (hce.1.st hs)) hi (my5 i hi) (hok.items i hi) hb1)) (fun A24 c24 => ?_); refine triL_nilN ?_; refine tri_seq ?_; refine tri_seq ?_; refine tri_slots [(2, _), (3, _)] (.cons rfl (.cons rfl (.nil _))) ?_; refine tri_region ?_; refine o_field fo35_3 rfl rfl ?_; refine o_load agg32 (by repeat (first | exact Nth.z | apply Nth.s)) rfl rfl rfl ?_; refine o_lenS Tryz.underlying32 rfl rfl ?_; refine o_move rfl rfl ?_; refine triL_nilN ?_; refine tri_block ?_; refine tri_loop (ι := Nat × Option Addr × Nat) (F := fun i => [(2, .pointer (some ⟨b2, 0, none⟩)), (3, .pointer (some ⟨b3, 0, none⟩)), (26, .slice y.F.A q.from_.length y.F.k), (27, .int .i64 (q.from_.length : Int)), (28, .int .i64 (i.1 : Int))]) (HH := fun i => [box b3 35 (quCs q y), box b2 64 [.pointer (some ⟨pb, 0, none⟩)]] ++ prD pb i.2.1 i.2.2 (l ++ (selT q ++ ((comT (fun i => itemT (q.items.getD i ItemX.zero)) q.items.length).1 ++ (upT (fun i => srcT i (q.from_.getD i SrcX.zero)) i.1).1))) 0 (max (max m ((comT (fun i => itemT (q.items.getD i ItemX.zero)) q.items.length).2 : Int)) ((upT (fun i => srcT i (q.from_.getD i SrcX.zero)) i.1).2 : Int))) (Pu := fun i => i.1 ≤ q.from_.length) (μ := fun i => q.from_.length - i.1) ((0, A24, c24)) (.cons rfl (.cons rfl (.cons rfl (.cons rfl (.cons rfl (.nil _)))))) ((fun w2 hw2 => prF_eq (by simp [upT]) rfl (by simp only [upT]; omega) (hw2.sel [0, 1, 2, 3] (by decide)))) (Nat.zero_le _) (fun i hi => ?_); refine tri_seq (tri_region ?_); refine o_lss rfl rfl rfl ?_; refine triL_nilN ?_; refine tri_seq ?_; refine tri_if rfl (fun q2 => ?_) (fun q2 => ?_)
  · skip
    have hil : i.1 < q.from_.length := by omega
    have hbF := upT_at (fun i => srcT i (q.from_.getD i SrcX.zero)) hil
    simp only [srcT_len] at hbF
    have h6 : (if i.1 = 0 then [32, 102, 114, 111, 109, 32] else [32, 106, 111, 105, 110, 32] : List UInt8).length = 6 := by split <;> rfl
    refine tri_skip ?_; refine thenQ_normal ?_; refine tri_seq ?_; refine tri_block ?_; refine tri_seq ?_
    obtain ⟨ye, hci, hye⟩ := src_at hF i.1 hil
    refine tri_region ?_; refine o_move rfl rfl ?_; refine o_idxS Tryz.underlying32 sz87 rfl rfl rfl (hF.rd hV.pe _ _ rfl rfl) (by omega) (by omega) hF.len (by decide) ?_; refine o_loadRA agg87 sz87 rfl rfl (hF.rd hV.pe _ _ rfl rfl) (vs := Value.string (B (q.from_.getD i.1 SrcX.zero).t) :: Value.string (B (q.from_.getD i.1 SrcX.zero).s) :: exCs (q.from_.getD i.1 SrcX.zero).e ye) hci rfl (by decide) ?_; refine o_alloc _ rfl zero87 rfl (fun b5 => ?_); refine o_assign rfl rfl ?_; refine o_store sz87 (by repeat (first | exact Nth.z | apply Nth.s)) rfl rfl rfl rfl rfl (Nat.le_of_ble_eq_true rfl) rfl ?_; refine triL_nilN ?_; refine tri_seq ?_; refine tri_slots [(4, _), (5, _), (2, _), (3, _), (26, _), (27, _), (28, _)] (.cons rfl (.cons rfl (.cons rfl (.cons rfl (.cons rfl (.cons rfl (.cons rfl (.nil _)))))))) ?_; refine tri_mix (_) [(0, true), (1, true), (2, true), (3, true), (4, true), (5, true), (6, true), (7, false), (8, false)] [8] (by kernel_rfl) (by kernel_rfl) (fun _ h => h) ?_; refine mix_fix rfl ?_; refine o_load agg64 (by repeat (first | exact Nth.z | apply Nth.s)) rfl rfl rfl ?_; refine triL_nil ⟨rfl, mix_fix rfl ?_⟩; refine o_build (built160 _ _) rfl rfl ?_; refine triL_nil ⟨rfl, mix_fix rfl ?_⟩; refine o_move rfl rfl ?_; refine triL_nil ⟨rfl, mix_fix rfl ?_⟩; refine o_min rfl rfl rfl ?_; refine triL_nil ⟨rfl, mix_fix rfl ?_⟩; refine o_idxArr1 Tryz.underlying160 agg9 sz9 rfl rfl rfl (by omega) (by omega) rfl (fj_get i.1) ?_; refine triL_nil ⟨rfl, mix_fix rfl ?_⟩; refine o_field fo87_0 rfl rfl ?_; refine triL_nil ⟨rfl, mix_fix rfl ?_⟩; refine o_load agg9 (by repeat (first | exact Nth.z | apply Nth.s)) rfl rfl rfl ?_; refine triL_nil ⟨rfl, ?_⟩; refine mix_op rfl ?_; refine o_lit (parts := [_, _]) (strsV [if i.1 = 0 then [32, 102, 114, 111, 109, 32] else [32, 106, 111, 105, 110, 32], (q.from_.getD i.1 SrcX.zero).t]) Tryz.underlying23 zs9 rfl rfl rfl rfl (by decide) (by decide) (fun b40 => ?_); refine triL_nil ⟨rfl, fun _ _ h => Sat.dropS 1 h, ?_⟩; refine mix_rest [8] [_] rfl rfl ?_; refine o_callPr (pb := pb) [_, _, _, _] rfl rfl rfl rfl Tryz.call20 (fun w1 h1 h2 h3 => addK [if i.1 = 0 then [32, 102, 114, 111, 109, 32] else [32, 106, 111, 105, 110, 32], (q.from_.getD i.1 SrcX.zero).t] _ _ pb _ _ _ _ _ w1 h2 (RdS.row .z w1 h1) (fun a ha => by cases ha; exact pr_apart h1 (fun x hx => (List.mem_cons_of_mem _ (List.mem_cons_of_mem _ (List.mem_cons_of_mem _ hx)))) rfl) (by (try simp only [List.length_append, List.length_cons, List.length_nil, List.flatten_cons, List.flatten_nil, selT] at hb ⊢); omega) (by simp)) (fun A41 c41 => ?_); refine triL_nil ⟨rfl, ?_⟩; refine thenQ_normal ?_; refine tri_seq ?_; refine tri_slots [(4, _), (5, _), (2, _), (3, _), (26, _), (27, _), (28, _)] (.cons rfl (.cons rfl (.cons rfl (.cons rfl (.cons rfl (.cons rfl (.cons rfl (.nil _)))))))) ?_; refine tri_region ?_; refine o_load agg64 (by repeat (first | exact Nth.z | apply Nth.s)) rfl rfl rfl ?_; refine o_field fo87_1 rfl rfl ?_; refine o_load agg9 (by repeat (first | exact Nth.z | apply Nth.s)) rfl rfl rfl ?_; refine o_callPr (pb := pb) [_, _, _, _] rfl rfl rfl rfl Tryz.call119 (fun w1 h1 h2 h3 => asR_ (q.from_.getD i.1 SrcX.zero).s pb _ _ _ _ w1 h2 (by omega) (by (try simp only [List.length_append, List.length_cons, List.length_nil, List.flatten_cons, List.flatten_nil, selT] at hb ⊢); omega)) (fun A45 c45 => ?_); refine triL_nilN ?_; refine tri_seq ?_; refine tri_slots [(4, _), (5, _), (2, _), (3, _), (26, _), (27, _), (28, _)] (.cons rfl (.cons rfl (.cons rfl (.cons rfl (.cons rfl (.cons rfl (.cons rfl (.nil _)))))))) ?_; refine tri_region ?_; refine o_move rfl rfl ?_; refine o_gtr rfl rfl rfl ?_; refine triL_nilN ?_; refine tri_if rfl (fun q3 => ?_) (fun q3 => ?_)
    · skip
      refine tri_seq (tri_region ?_); refine o_load agg64 (by repeat (first | exact Nth.z | apply Nth.s)) rfl rfl rfl ?_; refine o_lit1 Tryz.underlying23 zs9 rfl rfl rfl rfl rfl (by decide) (by decide) (fun b49 => ?_); refine o_callPr (pb := pb) [_, _, _, _, _] rfl rfl rfl rfl Tryz.call20 (fun w1 h1 h2 h3 => addK [[32, 111, 110, 32]] _ _ pb _ _ _ _ _ w1 h2 (RdS.row .z w1 h1) (fun a ha => by cases ha; exact pr_apart h1 (fun x hx => (List.mem_cons_of_mem _ (List.mem_cons_of_mem _ (List.mem_cons_of_mem _ (List.mem_cons_of_mem _ hx))))) rfl) (by rw [if_neg (by omega)] at hbF; (try simp only [List.length_append, List.length_cons, List.length_nil, List.flatten_cons, List.flatten_nil, selT] at hb ⊢); omega) (by simp)) (fun A50 c50 => ?_); refine triL_nilN ?_; refine tri_slots [(5, _), (2, _), (3, _), (26, _), (27, _), (28, _)] (.cons rfl (.cons rfl (.cons rfl (.cons rfl (.cons rfl (.cons rfl (.nil _))))))) ?_; refine tri_region ?_; refine o_load agg64 (by repeat (first | exact Nth.z | apply Nth.s)) rfl rfl rfl ?_; refine o_field fo87_2 rfl rfl ?_; refine o_loadA agg30 sz30 (.s (.s .z)) rfl rfl (vs := exCs (q.from_.getD i.1 SrcX.zero).e ye) rfl rfl ?_; refine o_callPr (pb := pb) [_, _, _, _, _] rfl rfl rfl rfl Tryz.call26 (fun w1 h1 h2 h3 => exprE (q.from_.getD i.1 SrcX.zero).e (mayF_2 (my6 i.1 hil) (by omega)) (hok.from_ i.1 hil) 1 bl ye pb _ _ _ _ _ w1 h2 (hV.sub (PSub.of h1 h3)) (hye.stab (hV.pe.st (PSub.of h1 h3))) (by omega) (by rw [if_neg (by omega)] at hbF; (try simp only [List.length_append, List.length_cons, List.length_nil, selT] at hb ⊢); omega) (by rw [if_neg (by omega)] at hbF; (try simp only [List.length_append, List.length_cons, List.length_nil, List.flatten_cons, List.flatten_nil, selT] at hb ⊢); omega)) (fun A54 c54 => ?_); refine triL_nil ?_; refine blockQ_normal ?_; refine thenQ_normal ?_; refine tri_slots [(2, _), (3, _), (26, _), (27, _), (28, _)] (.cons rfl (.cons rfl (.cons rfl (.cons rfl (.cons rfl (.nil _)))))) ?_; refine tri_region ?_; refine o_addN rfl rfl rfl (by omega) ?_; refine o_move rfl rfl ?_; refine triL_nilN ?_
      exact ⟨(i.1 + 1, A54, c54), (.cons rfl (.cons rfl (.cons rfl (.cons rfl (.cons rfl (.nil _)))))), (fun w2 hw2 => prF_eq (by simp only [upT, cat, raw, srcT]; rw [if_neg (by omega), if_neg (by omega)]; simp) rfl (by simp only [upT, cat, raw, srcT]; rw [if_neg (by omega)]; simp only; omega) (hw2.sel [3, 4, 5, 6] (by decide))), by simp only; omega, (by simp only; omega)⟩
    · skip
      refine tri_skip ?_; refine blockQ_normal ?_; refine thenQ_normal ?_; refine tri_slots [(2, _), (3, _), (26, _), (27, _), (28, _)] (.cons rfl (.cons rfl (.cons rfl (.cons rfl (.cons rfl (.nil _)))))) ?_; refine tri_region ?_; refine o_addN rfl rfl rfl (by omega) ?_; refine o_move rfl rfl ?_; refine triL_nilN ?_
      exact ⟨(i.1 + 1, A45, c45), (.cons rfl (.cons rfl (.cons rfl (.cons rfl (.cons rfl (.nil _)))))), (fun w2 hw2 => prF_eq (by simp only [upT, cat, raw, srcT]; rw [if_pos (by omega), if_pos (by omega)]; simp) rfl (by simp only [upT, cat, raw, srcT]; rw [if_pos (by omega)]; simp only; omega) (hw2.sel [2, 3, 4, 5] (by decide))), by simp only; omega, (by simp only; omega)⟩
  · skip
    have hie : i.1 = q.from_.length := by omega
    rw [hie]
    refine tri_exit ?_; refine thenQ_exit ?_; refine thenQ_exit ?_; refine blockQ_here ?_; refine thenQ_normal ?_; refine tri_seq ?_; refine tri_slots [(2, _), (3, _)] (.cons rfl (.cons rfl (.nil _))) ?_; refine tri_region ?_; refine o_load agg64 (by repeat (first | exact Nth.z | apply Nth.s)) rfl rfl rfl ?_; refine o_field fo35_4 rfl rfl ?_; refine o_loadA agg30 sz30 .z rfl rfl (vs := exCs q.wh y.V) rfl rfl ?_; refine o_callPr (pb := pb) [_, _] rfl rfl rfl rfl Tryz.call60 (fun w1 h1 h2 h3 => whereR_ q.wh y.V bl pb _ _ _ _ w1 h2 (by omega) (hV.sub (PSub.of h1 h3)) (hW.stab (hV.pe.st (PSub.of h1 h3))) hok.wh my1 (by (try simp only [List.length_append, List.length_cons, List.length_nil, selT] at hb ⊢); omega)) (fun A59 c59 => ?_); refine triL_nilN ?_; refine tri_join (ι := Option Addr × Nat) (fun j => [(2, .pointer (some ⟨b2, 0, none⟩)), (3, .pointer (some ⟨b3, 0, none⟩))]) (fun j => [box b3 35 (quCs q y), box b2 64 [.pointer (some ⟨pb, 0, none⟩)]] ++ prD pb j.1 j.2 (l ++ (selT q ++ ((comT (fun i => itemT (q.items.getD i ItemX.zero)) q.items.length).1 ++ ((upT (fun i => srcT i (q.from_.getD i SrcX.zero)) q.from_.length).1 ++ ((whereT q.wh).1 ++ ordHT q.ord.length))))) 0 (max (max (max m ((comT (fun i => itemT (q.items.getD i ItemX.zero)) q.items.length).2 : Int)) ((upT (fun i => srcT i (q.from_.getD i SrcX.zero)) q.from_.length).2 : Int)) ((whereT q.wh).2 : Int))) (fun j => True) ?_ (fun j hj => ?_)
    · skip
      refine tri_seq ?_; refine tri_slots [(2, _), (3, _)] (.cons rfl (.cons rfl (.nil _))) ?_; refine tri_region ?_; refine o_field fo35_5 rfl rfl ?_; refine o_load agg33 (by repeat (first | exact Nth.z | apply Nth.s)) rfl rfl rfl ?_; refine o_lenS Tryz.underlying33 rfl rfl ?_; refine o_gtr rfl rfl rfl ?_; refine triL_nilN ?_; refine tri_if rfl (fun q4 => ?_) (fun q4 => ?_)
      · skip
        refine tri_slots [(2, _), (3, _)] (.cons rfl (.cons rfl (.nil _))) ?_; refine tri_region ?_; refine o_load agg64 (by repeat (first | exact Nth.z | apply Nth.s)) rfl rfl rfl ?_; refine o_lit1 Tryz.underlying23 zs9 rfl rfl rfl rfl rfl (by decide) (by decide) (fun b65 => ?_); refine o_callPr (pb := pb) [_, _, _] rfl rfl rfl rfl Tryz.call20 (fun w1 h1 h2 h3 => addK [[32, 111, 114, 100, 101, 114, 32, 98, 121, 32]] _ _ pb _ _ _ _ _ w1 h2 (RdS.row .z w1 h1) (fun a ha => by cases ha; exact pr_apart h1 (fun x hx => (List.mem_cons_of_mem _ (List.mem_cons_of_mem _ hx))) rfl) (by rw [ordHT, if_pos (by omega)] at hb; (try simp only [List.length_append, List.length_cons, List.length_nil, List.flatten_cons, List.flatten_nil, selT] at hb ⊢); omega) (by simp)) (fun A66 c66 => ?_); refine triL_nilN ?_
        exact ⟨(A66, c66), (.cons rfl (.cons rfl (.nil _))), (fun w2 hw2 => prF_eq (by rw [ordHT, if_pos (by omega)]; simp) rfl (by rfl) (hw2.sel [1, 2, 3, 4] (by decide))), trivial⟩
      · skip
        refine tri_skip ?_; refine thenQ_normal ?_
        exact ⟨(A59, c59), (.cons rfl (.cons rfl (.nil _))), (fun w2 hw2 => prF_eq (by rw [ordHT, if_neg (by omega)]; simp) rfl (by rfl) (hw2.sel [0, 1, 2, 3] (by decide))), trivial⟩
    refine tri_seq (tri_region ?_); refine o_load agg64 (by repeat (first | exact Nth.z | apply Nth.s)) rfl rfl rfl ?_; refine o_field fo35_5 rfl rfl ?_; refine o_load agg33 (by repeat (first | exact Nth.z | apply Nth.s)) rfl rfl rfl ?_; refine o_lenS Tryz.underlying33 rfl rfl ?_; refine o_makeFunc rfl rfl rfl ?_; refine o_callPr (pb := pb) [_, _] rfl rfl rfl rfl Tryz.call21 (fun w1 h1 h2 h3 => commasK (fun i => ordT (q.ord.getD i OrdX.zero)) q.ord.length 120 [] [.pointer (some ⟨b2, 0, none⟩), .pointer (some ⟨b3, 0, none⟩)] pb _ _ _ _ w1 h2 (by omega) (by omega) (by (try simp only [List.length_append] at hb ⊢); omega) Tryz.call120 (fun i A1 c1 l1 m1 w2 hi hs hP1 hm1 hb1 => by have hce := cenv (F := [_, _]) hV.pe h1 (.s .z) .z; have hPV : PV w1 _ _ := ⟨hce.1, (hV.lv.chgL h1.chg (fun k hk => (hV.pe.g k hk).2))⟩; have hA2 := (hA.stab (hV.pe.st (PSub.of h1 h3))).mono (bl' := b2 :: b3 :: bl) (fun k hk => List.mem_cons_of_mem _ (List.mem_cons_of_mem _ hk)); exact query2K q y (b2 :: b3 :: bl) b2 b3 i pb A1 c1 l1 m1 w2 hP1 hm1 (hPV.sub hs) (hce.2.stab (hce.1.st hs)) (hA2.stab (hce.1.st hs)) hi hb1)) (fun A72 c72 => ?_); refine triL_nilN ?_; refine tri_seq ?_; refine tri_slots [(2, _), (3, _)] (.cons rfl (.cons rfl (.nil _))) ?_; refine tri_region ?_; refine o_field fo35_6 rfl rfl ?_; refine o_load agg4 (by repeat (first | exact Nth.z | apply Nth.s)) rfl rfl rfl ?_; refine triL_nilN ?_; refine tri_cond rfl (fun q5 => ?_) (fun q5 => ?_)
    · skip
      refine tri_mix (_) [(0, true), (1, true), (2, true), (3, false), (4, false), (5, false)] [5] (by kernel_rfl) (by kernel_rfl) (fun _ h => h) ?_; refine mix_fix rfl ?_; refine o_load agg64 (by repeat (first | exact Nth.z | apply Nth.s)) rfl rfl rfl ?_; refine triL_nil ⟨rfl, mix_fix rfl ?_⟩; refine o_field fo35_7 rfl rfl ?_; refine triL_nil ⟨rfl, mix_fix rfl ?_⟩; refine o_load agg3 (by repeat (first | exact Nth.z | apply Nth.s)) rfl rfl rfl ?_; refine triL_nil ⟨rfl, ?_⟩; refine mix_op rfl ?_; refine o_callP (first := []) (cap := []) rfl rfl rfl Tryz.call121 (fun w1 h1 => lib_itoa q.lim w1 hok.lim (hV.lv.chgL h1.chg (fun k hk => (hV.pe.g k hk).2))) ?_; refine triL_nil ⟨rfl, fun _ _ h => Sat.dropS 0 h, ?_⟩; refine mix_op rfl ?_; refine o_lit (parts := [_, _]) (strsV [[32, 108, 105, 109, 105, 116, 32], Lib.itoa q.lim]) Tryz.underlying23 zs9 rfl rfl rfl rfl (by decide) (by decide) (fun b79 => ?_); refine triL_nil ⟨rfl, fun _ _ h => Sat.dropS 1 h, ?_⟩; refine mix_rest [5] [_] rfl rfl ?_; refine o_callPr (pb := pb) [_, _, _] rfl rfl rfl rfl Tryz.call20 (fun w1 h1 h2 h3 => addK [[32, 108, 105, 109, 105, 116, 32], Lib.itoa q.lim] _ _ pb _ _ _ _ _ w1 h2 (RdS.row .z w1 h1) (fun a ha => by cases ha; exact pr_apart h1 (fun x hx => (List.mem_cons_of_mem _ (List.mem_cons_of_mem _ hx))) rfl) (by rw [limT, if_pos q5] at hb; (try simp only [List.length_append, List.length_cons, List.length_nil, List.flatten_cons, List.flatten_nil, selT] at hb ⊢); omega) (by simp)) (fun A80 c80 => ?_); refine triL_nil ⟨rfl, ?_⟩; refine end0n rfl ?_
      exact fin_turn (J := Option Addr × Nat) (A80, c80) rfl trivial (fun w2 hw2 => prD_eq (by rw [qryT, limT, if_pos q5]; simp [cat, raw]) rfl (by simp only [qryT, cat, raw]; omega) (hw2.sel [3, 4] (by decide)))
    · skip
      refine tri_skip ?_; refine end0n rfl ?_
      exact fin_turn (J := Option Addr × Nat) (A72, c72) rfl trivial (fun w2 hw2 => prD_eq (by rw [qryT, limT, if_neg (ne_t q5)]; simp [cat, raw]) rfl (by simp only [qryT, cat, raw]; omega) (hw2.sel [2, 3] (by decide)))
end Go.Proofs.YtjbpkcbefmpfgaaGreatDoor
namespace Go.Proofs.YtjbpkcbefmpfgaaGreatDoor
open Go.WK Go.RowKit 
theorem built72 : ∀ (a b c d : ByteArray), Tryz.prog.built 72 [(0, .string a), (1, .string b), (2, .string c), (3, .string d)] = some ([.string a, .string b, .string c, .string d] : List Value).toArray := by intros; kernel_rfl
theorem fo37_3 : fieldB Tryz.prog 37 3 = some 3 := by kernel_rfl
theorem agg22 : aggB Tryz.prog 22 = some false := by kernel_rfl
theorem agg71 : aggB Tryz.prog 71 = some true := by kernel_rfl
theorem sz71 : szB Tryz.prog 71 = some 3 := by kernel_rfl
theorem zero71 : (Tryz.prog.info? 71).map (·.zero) = some (some (.agg #[.string .empty, .int .i64 0, .bool false])) := by kernel_rfl
theorem fo71_0 : fieldB Tryz.prog 71 0 = some 0 := by kernel_rfl
theorem fo71_1 : fieldB Tryz.prog 71 1 = some 1 := by kernel_rfl
theorem fo71_2 : fieldB Tryz.prog 71 2 = some 2 := by kernel_rfl
theorem fo37_4 : fieldB Tryz.prog 37 4 = some 4 := by kernel_rfl
theorem agg23 : aggB Tryz.prog 23 = some false := by kernel_rfl
theorem fo37_6 : fieldB Tryz.prog 37 6 = some 6 := by kernel_rfl
theorem agg24 : aggB Tryz.prog 24 = some false := by kernel_rfl
theorem sz28 : szB Tryz.prog 28 = some 1 := by kernel_rfl
theorem fo37_7 : fieldB Tryz.prog 37 7 = some 7 := by kernel_rfl
theorem agg25 : aggB Tryz.prog 25 = some false := by kernel_rfl
theorem sz82 : szB Tryz.prog 82 = some 9 := by kernel_rfl
theorem fo82_0 : fieldB Tryz.prog 82 0 = some 0 := by kernel_rfl
theorem fo82_1 : fieldB Tryz.prog 82 1 = some 1 := by kernel_rfl
theorem agg35 : aggB Tryz.prog 35 = some true := by kernel_rfl
theorem sz35 : szB Tryz.prog 35 = some 15 := by kernel_rfl
theorem fo37_1 : fieldB Tryz.prog 37 1 = some 1 := by kernel_rfl
theorem fo37_8 : fieldB Tryz.prog 37 8 = some 8 := by kernel_rfl
theorem print1K (s : StmtX) (y : Lay) (bl : List Nat) (bp bx i : Nat) (pb : Nat) (A : Option Addr) (c : Nat) (l : List UInt8) (m : Int) (w : World) (hP : PrAt w pb A c l 0 m) (hm0 : 0 ≤ m) (hV : PV w (prL pb A) bl) (hE : CEnv w bl bp pb bx (stCs s y)) (hA : SAt bl w s y) (hi : i < s.cols.length) (hmy : mayCol (s.cols.getD i ColX.zero) = true) (hb : l.length + (colT (s.cols.getD i ColX.zero)).1.length ≤ 70368744177664) : Calls Tryz.prog 22 #[.int .i64 (i : Int), .pointer (some ⟨bx, 0, none⟩), .pointer (some ⟨bp, 0, none⟩)] w (PrT w pb A (l ++ (colT (s.cols.getD i ColX.zero)).1) 0 (max m ((colT (s.cols.getD i ColX.zero)).2 : Int))) := by
  refine calls_tri (args := [.int .i64 (i : Int), .pointer (some ⟨bx, 0, none⟩), .pointer (some ⟨bp, 0, none⟩)]) (lent := prL pb A) (H := prD pb A c l 0 m) Tryz.func22 rfl Tryz.ntmps22 rfl (Sat.cx hP) ?_; refine (show Tri _ [(0, _), (1, _), (2, _)] _ _ _ from ?_)
  have hP_ := hE.rp hV.pe
  have hX_ := hE.rx hV.pe
  obtain ⟨xC, xN, xR, xS, xI, xF, xO, hC, hN, hR_, hS, hW, hQ⟩ := id hA
  have hci := col_at hC i hi
  have hk := mayCol_k hmy
  simp only [colT, raw, List.length_append] at hb
  refine tri_seq (tri_region ?_); refine o_fieldAt (A := some ⟨bx, 0, none⟩) (kk := 0) fo37_3 rfl rfl (hX_ _ _ rfl rfl) rfl ?_; refine o_loadR agg22 rfl rfl (hX_ _ _ rfl rfl) rfl ?_; refine o_move rfl rfl ?_; refine o_idxS Tryz.underlying22 sz71 rfl rfl rfl (hC.rd hV.pe _ _ rfl rfl) (by omega) (by omega) hC.len (by decide) ?_; refine o_loadRA agg71 sz71 rfl rfl (hC.rd hV.pe _ _ rfl rfl) (vs := [Value.string (B (s.cols.getD i ColX.zero).n), Value.int .i64 (s.cols.getD i ColX.zero).k, Value.bool (s.cols.getD i ColX.zero).b]) hci rfl (by decide) ?_; refine o_alloc _ rfl zero71 rfl (fun b4 => ?_); refine o_store sz71 (by repeat (first | exact Nth.z | apply Nth.s)) rfl rfl rfl rfl rfl (Nat.le_of_ble_eq_true rfl) rfl ?_; refine triL_nilN ?_; refine tri_seq ?_; refine tri_slots [(4, _), (2, _)] (.cons rfl (.cons rfl (.nil _))) ?_; refine tri_mix (_) [(0, true), (1, true), (2, true), (3, true), (4, true), (5, true), (6, true), (7, false), (8, false)] [8] (by kernel_rfl) (by kernel_rfl) (fun _ h => h) ?_; refine mix_fix rfl ?_; refine o_loadR (A := some ⟨bp, 0, none⟩) (kk := 0) agg64 rfl rfl (hP_ _ _ rfl rfl) rfl ?_; refine triL_nil ⟨rfl, mix_fix rfl ?_⟩; refine o_field fo71_0 rfl rfl ?_; refine triL_nil ⟨rfl, mix_fix rfl ?_⟩; refine o_load agg9 (by repeat (first | exact Nth.z | apply Nth.s)) rfl rfl rfl ?_; refine triL_nil ⟨rfl, mix_fix rfl ?_⟩; refine o_build (built72 _ _ _ _) rfl rfl ?_; refine triL_nil ⟨rfl, mix_fix rfl ?_⟩; refine o_field fo71_1 rfl rfl ?_; refine triL_nil ⟨rfl, mix_fix rfl ?_⟩; refine o_load agg3 (by repeat (first | exact Nth.z | apply Nth.s)) rfl rfl rfl ?_; refine triL_nil ⟨rfl, mix_fix rfl ?_⟩; refine o_idxArr1 Tryz.underlying72 agg9 sz9 rfl rfl rfl (by omega) (by omega) rfl (kd_get hk) ?_; refine triL_nil ⟨rfl, ?_⟩; refine mix_op rfl ?_; refine o_lit (parts := [_, _]) (strsV [(s.cols.getD i ColX.zero).n, kindT (s.cols.getD i ColX.zero).k]) Tryz.underlying23 zs9 rfl rfl rfl rfl (by decide) (by decide) (fun b17 => ?_); refine triL_nil ⟨rfl, fun _ _ h => Sat.dropS 1 h, ?_⟩; refine mix_rest [8] [_] rfl rfl ?_; refine o_callPr (pb := pb) [_, _] rfl rfl rfl rfl Tryz.call20 (fun w1 h1 h2 h3 => addK [(s.cols.getD i ColX.zero).n, kindT (s.cols.getD i ColX.zero).k] _ _ pb _ _ _ _ _ w1 h2 (RdS.row .z w1 h1) (fun a ha => by cases ha; exact pr_apart h1 (fun x hx => (List.mem_cons_of_mem _ hx)) rfl) (by (try simp only [List.length_append, List.length_nil, List.flatten_cons, List.flatten_nil] at hb ⊢); omega) (by simp)) (fun A18 c18 => ?_); refine triL_nil ⟨rfl, ?_⟩; refine thenQ_normal ?_; refine tri_seq ?_; refine tri_slots [(4, _), (2, _)] (.cons rfl (.cons rfl (.nil _))) ?_; refine tri_region ?_; refine o_field fo71_2 rfl rfl ?_; refine o_load agg4 (by repeat (first | exact Nth.z | apply Nth.s)) rfl rfl rfl ?_; refine triL_nilN ?_; refine tri_cond rfl (fun q0 => ?_) (fun q0 => ?_)
  · skip
    refine tri_region ?_; refine o_loadR (A := some ⟨bp, 0, none⟩) (kk := 0) agg64 rfl rfl (hP_ _ _ rfl rfl) rfl ?_; refine o_lit1 Tryz.underlying23 zs9 rfl rfl rfl rfl rfl (by decide) (by decide) (fun b22 => ?_); refine o_callPr (pb := pb) [_, _, _] rfl rfl rfl rfl Tryz.call20 (fun w1 h1 h2 h3 => addK [[32, 110, 111, 116, 32, 110, 117, 108, 108]] _ _ pb _ _ _ _ _ w1 h2 (RdS.row .z w1 h1) (fun a ha => by cases ha; exact pr_apart h1 (fun x hx => (List.mem_cons_of_mem _ (List.mem_cons_of_mem _ hx))) rfl) (by rw [q0] at hb; simp only [notNullT, if_true, List.length_append, List.length_cons, List.length_nil, List.flatten_cons, List.flatten_nil] at hb ⊢; omega) (by simp)) (fun A23 c23 => ?_); refine triL_nil ?_; refine end0n rfl ?_
    exact fin_turn (J := Option Addr × Nat) (A23, c23) rfl trivial (fun w2 hw2 => prD_eq (by rw [colT, q0]; simp [raw, notNullT]) rfl (by simp only [colT, raw]; omega) (hw2.sel [3, 4] (by decide)))
  · skip
    refine tri_skip ?_; refine end0n rfl ?_
    exact fin_turn (J := Option Addr × Nat) (A18, c18) rfl trivial (fun w2 hw2 => prD_eq (by rw [colT, q0]; simp [raw, notNullT]) rfl (by simp only [colT, raw]; omega) (hw2.sel [2, 3] (by decide)))
theorem print2K (s : StmtX) (y : Lay) (bl : List Nat) (bp bx i : Nat) (pb : Nat) (A : Option Addr) (c : Nat) (l : List UInt8) (m : Int) (w : World) (hP : PrAt w pb A c l 0 m) (hm0 : 0 ≤ m) (hV : PV w (prL pb A) bl) (hE : CEnv w bl bp pb bx (stCs s y)) (hA : SAt bl w s y) (hi : i < s.on.length) (hb : l.length + (raw (s.on.getD i [])).1.length ≤ 70368744177664) : Calls Tryz.prog 23 #[.int .i64 (i : Int), .pointer (some ⟨bp, 0, none⟩), .pointer (some ⟨bx, 0, none⟩)] w (PrT w pb A (l ++ (raw (s.on.getD i [])).1) 0 (max m ((raw (s.on.getD i [])).2 : Int))) := by
  refine calls_tri (args := [.int .i64 (i : Int), .pointer (some ⟨bp, 0, none⟩), .pointer (some ⟨bx, 0, none⟩)]) (lent := prL pb A) (H := prD pb A c l 0 m) Tryz.func23 rfl Tryz.ntmps23 rfl (Sat.cx hP) ?_; refine (show Tri _ [(0, _), (1, _), (2, _)] _ _ _ from ?_)
  have hP_ := hE.rp hV.pe
  have hX_ := hE.rx hV.pe
  obtain ⟨xC, xN, xR, xS, xI, xF, xO, hC, hN, hR_, hS, hW, hQ⟩ := id hA
  have hci := name_at hN i hi
  simp only [raw] at hb
  refine tri_mix (_) [(0, true), (1, true), (2, true), (3, true), (4, true), (5, true), (6, false), (7, false)] [7] (by kernel_rfl) (by kernel_rfl) (fun _ h => h) ?_; refine mix_fix rfl ?_; refine o_loadR (A := some ⟨bp, 0, none⟩) (kk := 0) agg64 rfl rfl (hP_ _ _ rfl rfl) rfl ?_; refine triL_nil ⟨rfl, mix_fix rfl ?_⟩; refine o_fieldAt (A := some ⟨bx, 0, none⟩) (kk := 0) fo37_4 rfl rfl (hX_ _ _ rfl rfl) rfl ?_; refine triL_nil ⟨rfl, mix_fix rfl ?_⟩; refine o_loadR agg23 rfl rfl (hX_ _ _ rfl rfl) rfl ?_; refine triL_nil ⟨rfl, mix_fix rfl ?_⟩; refine o_move rfl rfl ?_; refine triL_nil ⟨rfl, mix_fix rfl ?_⟩; refine o_idxS Tryz.underlying23 sz9 rfl rfl rfl (hN.rd hV.pe _ _ rfl rfl) (by omega) (by omega) hN.len (by decide) ?_; refine triL_nil ⟨rfl, mix_fix rfl ?_⟩; refine o_loadR agg9 rfl rfl (hN.rd hV.pe _ _ rfl rfl) (take_get hci (j := 0) rfl) ?_; refine triL_nil ⟨rfl, ?_⟩; refine mix_op rfl ?_; refine o_lit1 Tryz.underlying23 zs9 rfl rfl rfl rfl rfl (by decide) (by decide) (fun b10 => ?_); refine triL_nil ⟨rfl, fun _ _ h => Sat.dropS 1 h, ?_⟩; refine mix_rest [7] [_] rfl rfl ?_; refine o_callPr (pb := pb) [_] rfl rfl rfl rfl Tryz.call20 (fun w1 h1 h2 h3 => addK [(s.on.getD i [])] _ _ pb _ _ _ _ _ w1 h2 (RdS.row .z w1 h1) (fun a ha => by cases ha; exact pr_apart h1 (fun x hx => hx) rfl) (by (try simp only [List.length_append, List.length_nil, List.flatten_cons, List.flatten_nil] at hb ⊢); omega) (by simp)) (fun A11 c11 => ?_); refine triL_nil ⟨rfl, ?_⟩; refine end0n rfl ?_
  exact fin_turn (J := Option Addr × Nat) (A11, c11) rfl trivial (fun w2 hw2 => prD_eq (by simp [raw]) rfl (by simp only [raw]; omega) (hw2.sel [1, 2] (by decide)))
theorem print31K (s : StmtX) (y : Lay) (bl : List Nat) (bp bx bi i k : Nat) (pb : Nat) (A : Option Addr) (c : Nat) (l : List UInt8) (m : Int) (w : World) (hP : PrAt w pb A c l 0 m) (hm0 : 0 ≤ m) (hV : PV w (prL pb A) bl) (hE : CEnv w bl bp pb bx (stCs s y)) (hA : SAt bl w s y) (hBI : Rd w (some ⟨bi, 0, none⟩) [.int .i64 (i : Int)]) (hbi : bi ∈ bl) (hi : i < s.rows.length) (hk : k < (s.rows.getD i []).length) (hmy : ((s.rows.getD i []).getD k Ex.zero).may = true) (ho : ((s.rows.getD i []).getD k Ex.zero).ok) (hb : l.length + (((s.rows.getD i []).getD k Ex.zero).txt 1).1.length ≤ 70368744177664) : Calls Tryz.prog 25 #[.int .i64 (k : Int), .pointer (some ⟨bp, 0, none⟩), .pointer (some ⟨bx, 0, none⟩), .pointer (some ⟨bi, 0, none⟩)] w (PrT w pb A (l ++ (((s.rows.getD i []).getD k Ex.zero).txt 1).1) 0 (max m ((((s.rows.getD i []).getD k Ex.zero).txt 1).2 : Int))) := by
  refine calls_tri (args := [.int .i64 (k : Int), .pointer (some ⟨bp, 0, none⟩), .pointer (some ⟨bx, 0, none⟩), .pointer (some ⟨bi, 0, none⟩)]) (lent := prL pb A) (H := prD pb A c l 0 m) Tryz.func25 rfl Tryz.ntmps25 rfl (Sat.cx hP) ?_; refine (show Tri _ [(0, _), (1, _), (2, _), (3, _)] _ _ _ from ?_)
  have hP_ := hE.rp hV.pe
  have hX_ := hE.rx hV.pe
  obtain ⟨xC, xN, xR, xS, xI, xF, xO, hC, hN, hR_, hS, hW, hQ⟩ := id hA
  obtain ⟨yr, xr, hcr, hRr⟩ := rows_at hR_ i hi
  obtain ⟨ye, hci, hye⟩ := ex_at hRr k hk
  have hB_ := fun cx H e1 e2 => hV.pe.rd hBI (fun a ha _ => by cases ha; exact hbi) cx H e1 e2
  refine tri_mix (_) [(0, true), (1, true), (2, true), (3, true), (4, true), (5, true), (6, true), (7, true), (8, true), (9, false)] [9] (by kernel_rfl) (by kernel_rfl) (fun _ h => h) ?_; refine mix_fix rfl ?_; refine o_loadR (A := some ⟨bp, 0, none⟩) (kk := 0) agg64 rfl rfl (hP_ _ _ rfl rfl) rfl ?_; refine triL_nil ⟨rfl, mix_fix rfl ?_⟩; refine o_fieldAt (A := some ⟨bx, 0, none⟩) (kk := 0) fo37_6 rfl rfl (hX_ _ _ rfl rfl) rfl ?_; refine triL_nil ⟨rfl, mix_fix rfl ?_⟩; refine o_loadR agg24 rfl rfl (hX_ _ _ rfl rfl) rfl ?_; refine triL_nil ⟨rfl, mix_fix rfl ?_⟩; refine o_loadR (A := some ⟨bi, 0, none⟩) (kk := 0) agg3 rfl rfl (hB_ _ _ rfl rfl) rfl ?_; refine triL_nil ⟨rfl, mix_fix rfl ?_⟩; refine o_idxS Tryz.underlying24 sz28 rfl rfl rfl (hR_.rd hV.pe _ _ rfl rfl) (by omega) (by omega) hR_.len (by decide) ?_; refine triL_nil ⟨rfl, mix_fix rfl ?_⟩; refine o_loadR agg28 rfl rfl (hR_.rd hV.pe _ _ rfl rfl) (take_get hcr (j := 0) rfl) ?_; refine triL_nil ⟨rfl, mix_fix rfl ?_⟩; refine o_move rfl rfl ?_; refine triL_nil ⟨rfl, mix_fix rfl ?_⟩; refine o_idxS Tryz.underlying28 sz30 rfl rfl rfl (hRr.rd hV.pe _ _ rfl rfl) (by omega) (by omega) hRr.len (by decide) ?_; refine triL_nil ⟨rfl, mix_fix rfl ?_⟩; refine o_loadRA agg30 sz30 rfl rfl (hRr.rd hV.pe _ _ rfl rfl) (vs := exCs ((s.rows.getD i []).getD k Ex.zero) ye) hci rfl (by decide) ?_; refine triL_nil ⟨rfl, ?_⟩; refine mix_rest [9] [_] rfl rfl ?_; refine o_callPr (pb := pb) [] rfl rfl rfl rfl Tryz.call26 (fun w1 h1 h2 h3 => exprE (((s.rows.getD i []).getD k Ex.zero)) (hmy) (ho) 1 bl ye pb _ _ _ _ _ w1 h2 (hV.sub (PSub.of h1 h3)) (hye.stab (hV.pe.st (PSub.of h1 h3))) (by omega) (by (try simp only [cat, raw, List.length_append, List.length_cons, List.length_nil, List.flatten_cons, List.flatten_nil] at hb ⊢); omega) (by (try simp only [cat, raw, List.length_append, List.length_cons, List.length_nil, List.flatten_cons, List.flatten_nil] at hb ⊢); omega)) (fun A14 c14 => ?_); refine triL_nil ⟨rfl, ?_⟩; refine end0n rfl ?_
  exact fin_turn (J := Option Addr × Nat) (A14, c14) rfl trivial (fun w2 hw2 => prD_eq (by rfl) rfl (by omega) (hw2.sel [0, 1] (by decide)))
theorem print3K (s : StmtX) (y : Lay) (bl : List Nat) (bp bx i : Nat) (pb : Nat) (A : Option Addr) (c : Nat) (l : List UInt8) (m : Int) (w : World) (hP : PrAt w pb A c l 0 m) (hm0 : 0 ≤ m) (hV : PV w (prL pb A) bl) (hE : CEnv w bl bp pb bx (stCs s y)) (hA : SAt bl w s y) (hi : i < s.rows.length) (hmy : mayRow (s.rows.getD i []) = true) (hoR : ∀ j, j < (s.rows.getD i []).length → ((s.rows.getD i []).getD j Ex.zero).ok) (hb : l.length + (rowT (s.rows.getD i [])).1.length ≤ 70368744177664) : Calls Tryz.prog 24 #[.int .i64 (i : Int), .pointer (some ⟨bp, 0, none⟩), .pointer (some ⟨bx, 0, none⟩)] w (PrT w pb A (l ++ (rowT (s.rows.getD i [])).1) 0 (max m ((rowT (s.rows.getD i [])).2 : Int))) := by
  refine calls_tri (args := [.int .i64 (i : Int), .pointer (some ⟨bp, 0, none⟩), .pointer (some ⟨bx, 0, none⟩)]) (lent := prL pb A) (H := prD pb A c l 0 m) Tryz.func24 rfl Tryz.ntmps24 rfl (Sat.cx hP) ?_; refine (show Tri _ [(0, _), (1, _), (2, _)] _ _ _ from ?_)
  have hP_ := hE.rp hV.pe
  have hX_ := hE.rx hV.pe
  obtain ⟨xC, xN, xR, xS, xI, xF, xO, hC, hN, hR_, hS, hW, hQ⟩ := id hA
  obtain ⟨yr, xr, hcr, hRr⟩ := rows_at hR_ i hi
  obtain ⟨mr1, mr2⟩ := mayRow_p hmy
  simp only [rowT, cat, raw, List.length_append, List.length_cons, List.length_nil] at hb
  refine tri_seq (tri_region ?_); refine o_box _ rfl rfl rfl (fun b3 => ?_); refine triL_nilN ?_; refine tri_seq (tri_region ?_); refine o_loadR (A := some ⟨bp, 0, none⟩) (kk := 0) agg64 rfl rfl (hP_ _ _ rfl rfl) rfl ?_; refine o_lit1 Tryz.underlying23 zs9 rfl rfl rfl rfl rfl (by decide) (by decide) (fun b5 => ?_); refine o_callPr (pb := pb) [_, _] rfl rfl rfl rfl Tryz.call20 (fun w1 h1 h2 h3 => addK [[40]] _ _ pb _ _ _ _ _ w1 h2 (RdS.row .z w1 h1) (fun a ha => by cases ha; exact pr_apart h1 (fun x hx => (List.mem_cons_of_mem _ hx)) rfl) (by (try simp only [List.length_append, List.length_cons, List.length_nil, List.flatten_cons, List.flatten_nil] at hb ⊢); omega) (by simp)) (fun A6 c6 => ?_); refine triL_nilN ?_; refine tri_seq ?_; refine tri_slots [(3, _), (1, _), (2, _)] (.cons rfl (.cons rfl (.cons rfl (.nil _)))) ?_; refine tri_mix (_) [(0, true), (1, true), (2, true), (3, true), (4, true), (5, true), (6, true), (7, true), (8, false)] [8] (by kernel_rfl) (by kernel_rfl) (fun _ h => h) ?_; refine mix_fix rfl ?_; refine o_loadR (A := some ⟨bp, 0, none⟩) (kk := 0) agg64 rfl rfl (hP_ _ _ rfl rfl) rfl ?_; refine triL_nil ⟨rfl, mix_fix rfl ?_⟩; refine o_fieldAt (A := some ⟨bx, 0, none⟩) (kk := 0) fo37_6 rfl rfl (hX_ _ _ rfl rfl) rfl ?_; refine triL_nil ⟨rfl, mix_fix rfl ?_⟩; refine o_loadR agg24 rfl rfl (hX_ _ _ rfl rfl) rfl ?_; refine triL_nil ⟨rfl, mix_fix rfl ?_⟩; refine o_load agg3 (by repeat (first | exact Nth.z | apply Nth.s)) rfl rfl rfl ?_; refine triL_nil ⟨rfl, mix_fix rfl ?_⟩; refine o_idxS Tryz.underlying24 sz28 rfl rfl rfl (hR_.rd hV.pe _ _ rfl rfl) (by omega) (by omega) hR_.len (by decide) ?_; refine triL_nil ⟨rfl, mix_fix rfl ?_⟩; refine o_loadR agg28 rfl rfl (hR_.rd hV.pe _ _ rfl rfl) (take_get hcr (j := 0) rfl) ?_; refine triL_nil ⟨rfl, mix_fix rfl ?_⟩; refine o_lenS Tryz.underlying28 rfl rfl ?_; refine triL_nil ⟨rfl, mix_fix rfl ?_⟩; refine o_makeFunc rfl rfl rfl ?_; refine triL_nil ⟨rfl, ?_⟩; refine mix_rest [8] [_] rfl rfl ?_; refine o_callPr (pb := pb) [_, _] rfl rfl rfl rfl Tryz.call21 (fun w1 h1 h2 h3 => commasK (fun k => ((s.rows.getD i []).getD k Ex.zero).txt 1) (s.rows.getD i []).length 25 [] [.pointer (some ⟨bp, 0, none⟩), .pointer (some ⟨bx, 0, none⟩), .pointer (some ⟨b3, 0, none⟩)] pb _ _ _ _ w1 h2 (by omega) (by omega) (by (try simp only [List.length_append, List.length_cons, List.length_nil, List.flatten_cons, List.flatten_nil] at hb ⊢); omega) Tryz.call25 (fun k A1 c1 l1 m1 w2 hk hs hP1 hm1 hb1 => by have hbe := benv (F := [_, _]) h1 (.s .z); have hs1 := PSub.of h1 h3; have hPE := (hV.pe.sub hs1).cons hbe.2.1 hbe.2.2; have hPV : PV w1 _ _ := ⟨hPE, (hV.lv.chgL h1.chg (fun k hk => (hV.pe.g k hk).2))⟩; have hup : ∀ j ∈ bl, j ∈ b3 :: bl := fun j hj => List.mem_cons_of_mem _ hj; have hA2 := (hA.stab (hV.pe.st hs1)).mono hup; have hE2 := (hE.stab (hV.pe.st hs1)).mono hup; exact print31K s y (b3 :: bl) bp bx b3 i k pb A1 c1 l1 m1 w2 hP1 hm1 (hPV.sub hs) (hE2.stab (hPE.st hs)) (hA2.stab (hPE.st hs)) (hbe.1.same (fun a ha _ => by cases ha; exact hPE.st hs _ List.mem_cons_self)) List.mem_cons_self hi hk (mr2 k hk) (hoR k hk) hb1)) (fun A15 c15 => ?_); refine triL_nil ⟨rfl, ?_⟩; refine thenQ_normal ?_; refine tri_slots [(1, _)] (.cons rfl (.nil _)) ?_; refine tri_region ?_; refine o_loadR (A := some ⟨bp, 0, none⟩) (kk := 0) agg64 rfl rfl (hP_ _ _ rfl rfl) rfl ?_; refine o_lit1 Tryz.underlying23 zs9 rfl rfl rfl rfl rfl (by decide) (by decide) (fun b17 => ?_); refine o_callPr (pb := pb) [_, _, _] rfl rfl rfl rfl Tryz.call20 (fun w1 h1 h2 h3 => addK [[41]] _ _ pb _ _ _ _ _ w1 h2 (RdS.row .z w1 h1) (fun a ha => by cases ha; exact pr_apart h1 (fun x hx => (List.mem_cons_of_mem _ (List.mem_cons_of_mem _ hx))) rfl) (by (try simp only [List.length_append, List.length_cons, List.length_nil, List.flatten_cons, List.flatten_nil] at hb ⊢); omega) (by simp)) (fun A18 c18 => ?_); refine triL_nil ?_; refine end0n rfl ?_
  exact fin_turn (J := Option Addr × Nat) (A18, c18) rfl trivial (fun w2 hw2 => prD_eq (by simp [rowT, cat, raw]) rfl (by simp only [rowT, cat, raw]; omega) (hw2.sel [3, 4] (by decide)))
theorem others1K (s : StmtX) (y : Lay) (bl : List Nat) (bp bx i : Nat) (pb : Nat) (A : Option Addr) (c : Nat) (l : List UInt8) (m : Int) (w : World) (hP : PrAt w pb A c l 0 m) (hm0 : 0 ≤ m) (hV : PV w (prL pb A) bl) (hE : CEnv w bl bp pb bx (stCs s y)) (hA : SAt bl w s y) (hi : i < s.sets.length) (hmy : maySet (s.sets.getD i SetX.zero) = true) (ho : (s.sets.getD i SetX.zero).e.ok) (hb : l.length + (setT (s.sets.getD i SetX.zero)).1.length ≤ 70368744177664) : Calls Tryz.prog 61 #[.int .i64 (i : Int), .pointer (some ⟨bp, 0, none⟩), .pointer (some ⟨bx, 0, none⟩)] w (PrT w pb A (l ++ (setT (s.sets.getD i SetX.zero)).1) 0 (max m ((setT (s.sets.getD i SetX.zero)).2 : Int))) := by
  refine calls_tri (args := [.int .i64 (i : Int), .pointer (some ⟨bp, 0, none⟩), .pointer (some ⟨bx, 0, none⟩)]) (lent := prL pb A) (H := prD pb A c l 0 m) Tryz.func61 rfl Tryz.ntmps61 rfl (Sat.cx hP) ?_; refine (show Tri _ [(0, _), (1, _), (2, _)] _ _ _ from ?_)
  have hP_ := hE.rp hV.pe
  have hX_ := hE.rx hV.pe
  obtain ⟨xC, xN, xR, xS, xI, xF, xO, hC, hN, hR_, hS, hW, hQ⟩ := id hA
  obtain ⟨ye, hci, hye⟩ := set_at hS i hi
  simp only [setT, cat, raw, List.length_append, List.length_cons, List.length_nil] at hb
  refine tri_seq ?_; refine tri_mix (_) [(0, true), (1, true), (2, true), (3, true), (4, true), (5, true), (6, true), (7, false), (8, false)] [8] (by kernel_rfl) (by kernel_rfl) (fun _ h => h) ?_; refine mix_fix rfl ?_; refine o_loadR (A := some ⟨bp, 0, none⟩) (kk := 0) agg64 rfl rfl (hP_ _ _ rfl rfl) rfl ?_; refine triL_nil ⟨rfl, mix_fix rfl ?_⟩; refine o_fieldAt (A := some ⟨bx, 0, none⟩) (kk := 0) fo37_7 rfl rfl (hX_ _ _ rfl rfl) rfl ?_; refine triL_nil ⟨rfl, mix_fix rfl ?_⟩; refine o_loadR agg25 rfl rfl (hX_ _ _ rfl rfl) rfl ?_; refine triL_nil ⟨rfl, mix_fix rfl ?_⟩; refine o_move rfl rfl ?_; refine triL_nil ⟨rfl, mix_fix rfl ?_⟩; refine o_idxS Tryz.underlying25 sz82 rfl rfl rfl (hS.rd hV.pe _ _ rfl rfl) (by omega) (by omega) hS.len (by decide) ?_; refine triL_nil ⟨rfl, mix_fix rfl ?_⟩; refine o_fieldAt fo82_0 rfl rfl (hS.rd hV.pe _ _ rfl rfl) (take_get hci (j := 0) rfl) ?_; refine triL_nil ⟨rfl, mix_fix rfl ?_⟩; refine o_loadR agg9 rfl rfl (hS.rd hV.pe _ _ rfl rfl) (take_get hci (j := 0) rfl) ?_; refine triL_nil ⟨rfl, ?_⟩; refine mix_op rfl ?_; refine o_lit (parts := [_, _]) (strsV [(s.sets.getD i SetX.zero).n, [32, 61, 32]]) Tryz.underlying23 zs9 rfl rfl rfl rfl (by decide) (by decide) (fun b11 => ?_); refine triL_nil ⟨rfl, fun _ _ h => Sat.dropS 1 h, ?_⟩; refine mix_rest [8] [_] rfl rfl ?_; refine o_callPr (pb := pb) [_] rfl rfl rfl rfl Tryz.call20 (fun w1 h1 h2 h3 => addK [(s.sets.getD i SetX.zero).n, [32, 61, 32]] _ _ pb _ _ _ _ _ w1 h2 (RdS.row .z w1 h1) (fun a ha => by cases ha; exact pr_apart h1 (fun x hx => hx) rfl) (by (try simp only [List.length_append, List.length_cons, List.length_nil, List.flatten_cons, List.flatten_nil] at hb ⊢); omega) (by simp)) (fun A12 c12 => ?_); refine triL_nil ⟨rfl, ?_⟩; refine thenQ_normal ?_; refine tri_slots [(0, _), (1, _), (2, _)] (.cons rfl (.cons rfl (.cons rfl (.nil _)))) ?_; refine tri_mix (_) [(0, true), (1, true), (2, true), (3, true), (4, true), (5, true), (6, true), (7, false)] [7] (by kernel_rfl) (by kernel_rfl) (fun _ h => h) ?_; refine mix_fix rfl ?_; refine o_loadR (A := some ⟨bp, 0, none⟩) (kk := 0) agg64 rfl rfl (hP_ _ _ rfl rfl) rfl ?_; refine triL_nil ⟨rfl, mix_fix rfl ?_⟩; refine o_fieldAt (A := some ⟨bx, 0, none⟩) (kk := 0) fo37_7 rfl rfl (hX_ _ _ rfl rfl) rfl ?_; refine triL_nil ⟨rfl, mix_fix rfl ?_⟩; refine o_loadR agg25 rfl rfl (hX_ _ _ rfl rfl) rfl ?_; refine triL_nil ⟨rfl, mix_fix rfl ?_⟩; refine o_move rfl rfl ?_; refine triL_nil ⟨rfl, mix_fix rfl ?_⟩; refine o_idxS Tryz.underlying25 sz82 rfl rfl rfl (hS.rd hV.pe _ _ rfl rfl) (by omega) (by omega) hS.len (by decide) ?_; refine triL_nil ⟨rfl, mix_fix rfl ?_⟩; refine o_fieldAt fo82_1 rfl rfl (hS.rd hV.pe _ _ rfl rfl) (take_get hci (j := 0) rfl) ?_; refine triL_nil ⟨rfl, mix_fix rfl ?_⟩; refine o_loadRA agg30 sz30 rfl rfl (hS.rd hV.pe _ _ rfl rfl) (vs := exCs ((s.sets.getD i SetX.zero).e) ye) (take_mid (p := [.string (B (s.sets.getD i SetX.zero).n)]) (cs := exCs ((s.sets.getD i SetX.zero).e) ye) (r := []) hci) rfl (by decide) ?_; refine triL_nil ⟨rfl, ?_⟩; refine mix_rest [7] [_] rfl rfl ?_; refine o_callPr (pb := pb) [_] rfl rfl rfl rfl Tryz.call26 (fun w1 h1 h2 h3 => exprE ((s.sets.getD i SetX.zero).e) (maySet_1 hmy) (ho) 1 bl ye pb _ _ _ _ _ w1 h2 (hV.sub (PSub.of h1 h3)) (hye.stab (hV.pe.st (PSub.of h1 h3))) (by omega) (by (try simp only [cat, raw, List.length_append, List.length_cons, List.length_nil, List.flatten_cons, List.flatten_nil] at hb ⊢); omega) (by (try simp only [List.length_append, List.length_cons, List.length_nil, List.flatten_cons, List.flatten_nil] at hb ⊢); omega)) (fun A20 c20 => ?_); refine triL_nil ⟨rfl, ?_⟩; refine end0n rfl ?_
  exact fin_turn (J := Option Addr × Nat) (A20, c20) rfl trivial (fun w2 hw2 => prD_eq (by simp [setT, cat, raw]) rfl (by simp only [setT, cat, raw]; omega) (hw2.sel [1, 2] (by decide)))
set_option maxHeartbeats 1000000 in
theorem othersK (s : StmtX) (y : Lay) (bl : List Nat) (pb : Nat) (A : Option Addr) (c : Nat) (l : List UInt8) (m : Int) (w : World) (hP : PrAt w pb A c l 0 m) (hm0 : 0 ≤ m) (hV : PV w (prL pb A) bl) (hA : SAt bl w s y) (hk6 : 6 ≤ s.k) (hmy : partS s = true) (hok : SOk s) (hb : l.length + (stmT s).1.length ≤ 70368744177664) : Calls Tryz.prog 27 #[.pointer (some ⟨pb, 0, none⟩), .agg (stCs s y).toArray] w (PrT w pb A (l ++ (stmT s).1) 0 (max m ((stmT s).2 : Int))) := by
  refine calls_tri (args := [.pointer (some ⟨pb, 0, none⟩), .agg (stCs s y).toArray]) (lent := prL pb A) (H := prD pb A c l 0 m) Tryz.func27 rfl Tryz.ntmps27 rfl (Sat.cx hP) ?_; refine (show Tri _ [(0, _), (1, _)] _ _ _ from ?_)
  obtain ⟨xC, xN, xR, xS, xI, xF, xO, hC, hN, hR_, hS, hW, hQ⟩ := id hA
  refine tri_seq (tri_region ?_); refine o_box _ rfl rfl rfl (fun b2 => ?_); refine o_box _ rfl rfl rfl (fun b3 => ?_); refine triL_nilN ?_; refine tri_seq (tri_region ?_); refine o_field fo37_0 rfl rfl ?_; refine o_load agg3 (by repeat (first | exact Nth.z | apply Nth.s)) rfl rfl rfl ?_; refine triL_nilN ?_; refine tri_block ?_; refine tri_seq (tri_region ?_); refine o_eqlI rfl rfl rfl ?_; refine o_assignN rfl rfl ?_; refine tri_if rfl (fun q6 => ?_) (fun q6 => ?_)
  · skip
    rw [st_6 q6] at hb ⊢
    simp only [cat, raw, List.length_append, List.length_cons, List.length_nil] at hb
    have hmw : mayb s.wh = true := by rw [part_6 q6] at hmy; simp only [Bool.and_eq_true] at hmy; exact hmy.2
    refine tri_seq ?_; refine tri_slots [(3, _), (2, _)] (.cons rfl (.cons rfl (.nil _))) ?_; refine tri_region ?_; refine o_load agg64 (by repeat (first | exact Nth.z | apply Nth.s)) rfl rfl rfl ?_; refine o_field fo37_1 rfl rfl ?_; refine o_load agg9 (by repeat (first | exact Nth.z | apply Nth.s)) rfl rfl rfl ?_; refine o_lit (parts := [_, _]) (strsV [[100, 101, 108, 101, 116, 101, 32, 102, 114, 111, 109, 32], s.t]) Tryz.underlying23 zs9 rfl rfl rfl rfl (by decide) (by decide) (fun b11 => ?_); refine o_callPr (pb := pb) [_, _, _] rfl rfl rfl rfl Tryz.call20 (fun w1 h1 h2 h3 => addK [[100, 101, 108, 101, 116, 101, 32, 102, 114, 111, 109, 32], s.t] _ _ pb _ _ _ _ _ w1 h2 (RdS.row .z w1 h1) (fun a ha => by cases ha; exact pr_apart h1 (fun x hx => (List.mem_cons_of_mem _ (List.mem_cons_of_mem _ hx))) rfl) (by (try simp only [List.length_append, List.length_cons, List.length_nil, List.flatten_cons, List.flatten_nil] at hb ⊢); omega) (by simp)) (fun A12 c12 => ?_); refine triL_nilN ?_; refine tri_slots [(3, _), (2, _)] (.cons rfl (.cons rfl (.nil _))) ?_; refine tri_region ?_; refine o_load agg64 (by repeat (first | exact Nth.z | apply Nth.s)) rfl rfl rfl ?_; refine o_field fo37_8 rfl rfl ?_; refine o_loadA agg30 sz30 (.s .z) rfl rfl (vs := exCs s.wh y.W) rfl rfl ?_; refine o_callPr (pb := pb) [_, _, _] rfl rfl rfl rfl Tryz.call60 (fun w1 h1 h2 h3 => whereR_ s.wh y.W bl pb _ _ _ _ w1 h2 (by omega) (hV.sub (PSub.of h1 h3)) (hW.stab (hV.pe.st (PSub.of h1 h3))) hok.wh hmw (by (try simp only [List.length_append, List.length_cons, List.length_nil, List.flatten_cons, List.flatten_nil] at hb ⊢); omega)) (fun A16 c16 => ?_); refine triL_nil ?_; refine blockQ_normal ?_; refine end0n rfl ?_
    exact fin_turn (J := Option Addr × Nat) (A16, c16) rfl trivial (fun w2 hw2 => prD_eq (by simp [cat, raw]) rfl (by simp only [cat, raw]; omega) (hw2.sel [3, 4] (by decide)))
  · skip
    refine tri_seq ?_; refine tri_slots [(5, _), (3, _), (2, _)] (.cons rfl (.cons rfl (.cons rfl (.nil _)))) ?_; refine tri_region ?_; refine o_eqlI rfl rfl rfl ?_; refine o_assignN rfl rfl ?_; refine tri_if rfl (fun q7 => ?_) (fun q7 => ?_)
    · skip
      rw [st_7 q7] at hb ⊢
      simp only [cat, raw, List.length_append, List.length_cons, List.length_nil] at hb
      rw [part_7 q7] at hmy
      simp only [Bool.and_eq_true] at hmy
      obtain ⟨_, hmu, hmw, hma⟩ := hmy
      have hmu := upTo_le hmu
      have hms : ∀ i, i < s.sets.length → maySet (s.sets.getD i SetX.zero) = true := fun i hi => allT_at hma hi
      refine tri_seq (tri_region ?_); refine o_load agg64 (by repeat (first | exact Nth.z | apply Nth.s)) rfl rfl rfl ?_; refine o_field fo37_1 rfl rfl ?_; refine o_load agg9 (by repeat (first | exact Nth.z | apply Nth.s)) rfl rfl rfl ?_; refine o_lit (parts := [_, _, _]) (strsV [[117, 112, 100, 97, 116, 101, 32], s.t, [32, 115, 101, 116, 32]]) Tryz.underlying23 zs9 rfl rfl rfl rfl (by decide) (by decide) (fun b22 => ?_); refine o_callPr (pb := pb) [_, _, _] rfl rfl rfl rfl Tryz.call20 (fun w1 h1 h2 h3 => addK [[117, 112, 100, 97, 116, 101, 32], s.t, [32, 115, 101, 116, 32]] _ _ pb _ _ _ _ _ w1 h2 (RdS.row .z w1 h1) (fun a ha => by cases ha; exact pr_apart h1 (fun x hx => (List.mem_cons_of_mem _ (List.mem_cons_of_mem _ hx))) rfl) (by (try simp only [List.length_append, List.length_cons, List.length_nil, List.flatten_cons, List.flatten_nil] at hb ⊢); omega) (by simp)) (fun A23 c23 => ?_); refine triL_nilN ?_; refine tri_seq ?_; refine tri_slots [(3, _), (2, _)] (.cons rfl (.cons rfl (.nil _))) ?_; refine tri_region ?_; refine o_load agg64 (by repeat (first | exact Nth.z | apply Nth.s)) rfl rfl rfl ?_; refine o_field fo37_7 rfl rfl ?_; refine o_load agg25 (by repeat (first | exact Nth.z | apply Nth.s)) rfl rfl rfl ?_; refine o_lenS Tryz.underlying25 rfl rfl ?_; refine o_makeFunc rfl rfl rfl ?_; refine o_callPr (pb := pb) [_, _, _] rfl rfl rfl rfl Tryz.call21 (fun w1 h1 h2 h3 => commasK (fun i => setT (s.sets.getD i SetX.zero)) s.sets.length 61 [] [.pointer (some ⟨b2, 0, none⟩), .pointer (some ⟨b3, 0, none⟩)] pb _ _ _ _ w1 h2 (by omega) (by omega) (by (try simp only [List.length_append, List.length_cons, List.length_nil, List.flatten_cons, List.flatten_nil] at hb ⊢); omega) Tryz.call61 (fun i A1 c1 l1 m1 w2 hi hs hP1 hm1 hb1 => by have hce := cenv (F := [_, _, _]) hV.pe h1 (.s (.s .z)) (.s .z); have hPV : PV w1 _ _ := ⟨hce.1, (hV.lv.chgL h1.chg (fun k hk => (hV.pe.g k hk).2))⟩; have hA2 := (hA.stab (hV.pe.st (PSub.of h1 h3))).mono (bl' := b2 :: b3 :: bl) (fun k hk => List.mem_cons_of_mem _ (List.mem_cons_of_mem _ hk)); exact others1K s y (b2 :: b3 :: bl) b2 b3 i pb A1 c1 l1 m1 w2 hP1 hm1 (hPV.sub hs) (hce.2.stab (hce.1.st hs)) (hA2.stab (hce.1.st hs)) hi (hms i hi) (hok.sets i hi) hb1)) (fun A29 c29 => ?_); refine triL_nilN ?_; refine tri_slots [(3, _), (2, _)] (.cons rfl (.cons rfl (.nil _))) ?_; refine tri_region ?_; refine o_load agg64 (by repeat (first | exact Nth.z | apply Nth.s)) rfl rfl rfl ?_; refine o_field fo37_8 rfl rfl ?_; refine o_loadA agg30 sz30 (.s .z) rfl rfl (vs := exCs s.wh y.W) rfl rfl ?_; refine o_callPr (pb := pb) [_, _, _] rfl rfl rfl rfl Tryz.call60 (fun w1 h1 h2 h3 => whereR_ s.wh y.W bl pb _ _ _ _ w1 h2 (by omega) (hV.sub (PSub.of h1 h3)) (hW.stab (hV.pe.st (PSub.of h1 h3))) hok.wh hmw (by (try simp only [List.length_append, List.length_cons, List.length_nil, List.flatten_cons, List.flatten_nil] at hb ⊢); omega)) (fun A33 c33 => ?_); refine triL_nil ?_; refine blockQ_normal ?_; refine end0n rfl ?_
      exact fin_turn (J := Option Addr × Nat) (A33, c33) rfl trivial (fun w2 hw2 => prD_eq (by simp [cat, raw]) rfl (by simp only [cat, raw]; omega) (hw2.sel [3, 4] (by decide)))
    · skip
      refine tri_seq (tri_region ?_); refine o_eqlI rfl rfl rfl ?_; refine o_assignN rfl rfl ?_; refine tri_if rfl (fun q8 => ?_) (fun q8 => ?_)
      · skip
        rw [st_8 q8] at hb ⊢
        refine tri_slots [(3, _), (2, _)] (.cons rfl (.cons rfl (.nil _))) ?_; refine tri_region ?_; refine o_load agg64 (by repeat (first | exact Nth.z | apply Nth.s)) rfl rfl rfl ?_; refine o_field fo37_9 rfl rfl ?_; refine o_loadA agg35 sz35 .z rfl rfl (vs := quCs s.q y.q) rfl rfl ?_; refine o_callPr (pb := pb) [_, _] rfl rfl rfl rfl Tryz.call62 (fun w1 h1 h2 h3 => queryP s.q y.q bl pb _ _ _ _ w1 h2 (by omega) (hV.sub (PSub.of h1 h3)) (hA.q.stab (hV.pe.st (PSub.of h1 h3))) (by rw [part_8 q8] at hmy; exact hmy) hok.q (by omega)) (fun A39 c39 => ?_); refine triL_nil ?_; refine blockQ_normal ?_; refine end0n rfl ?_
        exact fin_turn (J := Option Addr × Nat) (A39, c39) rfl trivial (fun w2 hw2 => prD_eq (by rfl) rfl (by rfl) (hw2.sel [2, 3] (by decide)))
      · skip
        refine tri_seq ?_; refine tri_slots [(5, _), (2, _)] (.cons rfl (.cons rfl (.nil _))) ?_; refine tri_region ?_; refine o_eqlI rfl rfl rfl ?_; refine o_assignN rfl rfl ?_; refine tri_if rfl (fun q9 => ?_) (fun q9 => ?_)
        · skip
          rw [st_9 q9] at hb ⊢
          simp only [raw, List.length_cons, List.length_nil] at hb
          refine tri_region ?_; refine o_load agg64 (by repeat (first | exact Nth.z | apply Nth.s)) rfl rfl rfl ?_; refine o_lit1 Tryz.underlying23 zs9 rfl rfl rfl rfl rfl (by decide) (by decide) (fun b43 => ?_); refine o_callPr (pb := pb) [_, _, _] rfl rfl rfl rfl Tryz.call20 (fun w1 h1 h2 h3 => addK [[98, 101, 103, 105, 110]] _ _ pb _ _ _ _ _ w1 h2 (RdS.row .z w1 h1) (fun a ha => by cases ha; exact pr_apart h1 (fun x hx => (List.mem_cons_of_mem _ (List.mem_cons_of_mem _ hx))) rfl) (by (try simp only [List.length_append, List.length_cons, List.length_nil, List.flatten_cons, List.flatten_nil] at hb ⊢); omega) (by simp)) (fun A44 c44 => ?_); refine triL_nil ?_; refine blockQ_normal ?_; refine end0n rfl ?_
          exact fin_turn (J := Option Addr × Nat) (A44, c44) rfl trivial (fun w2 hw2 => prD_eq (by simp [raw]) rfl (by simp only [raw]; omega) (hw2.sel [3, 4] (by decide)))
        · skip
          refine tri_seq (tri_region ?_); refine o_eqlI rfl rfl rfl ?_; refine o_assignN rfl rfl ?_; refine tri_if rfl (fun q10 => ?_) (fun q10 => ?_)
          · skip
            rw [st_10 q10] at hb ⊢
            simp only [raw, List.length_cons, List.length_nil] at hb
            refine tri_slots [(2, _)] (.cons rfl (.nil _)) ?_; refine tri_region ?_; refine o_load agg64 (by repeat (first | exact Nth.z | apply Nth.s)) rfl rfl rfl ?_; refine o_lit1 Tryz.underlying23 zs9 rfl rfl rfl rfl rfl (by decide) (by decide) (fun b48 => ?_); refine o_callPr (pb := pb) [_, _, _] rfl rfl rfl rfl Tryz.call20 (fun w1 h1 h2 h3 => addK [[99, 111, 109, 109, 105, 116]] _ _ pb _ _ _ _ _ w1 h2 (RdS.row .z w1 h1) (fun a ha => by cases ha; exact pr_apart h1 (fun x hx => (List.mem_cons_of_mem _ (List.mem_cons_of_mem _ hx))) rfl) (by (try simp only [List.length_append, List.length_cons, List.length_nil, List.flatten_cons, List.flatten_nil] at hb ⊢); omega) (by simp)) (fun A49 c49 => ?_); refine triL_nil ?_; refine blockQ_normal ?_; refine end0n rfl ?_
            exact fin_turn (J := Option Addr × Nat) (A49, c49) rfl trivial (fun w2 hw2 => prD_eq (by simp [raw]) rfl (by simp only [raw]; omega) (hw2.sel [3, 4] (by decide)))
          · skip
            refine tri_seq ?_; refine tri_slots [(5, _), (2, _)] (.cons rfl (.cons rfl (.nil _))) ?_; refine tri_region ?_; refine o_eqlI rfl rfl rfl ?_; refine o_assignN rfl rfl ?_; refine tri_if rfl (fun q11 => ?_) (fun q11 => ?_)
            · skip
              rw [st_11 q11] at hb ⊢
              simp only [raw, List.length_cons, List.length_nil] at hb
              refine tri_region ?_; refine o_load agg64 (by repeat (first | exact Nth.z | apply Nth.s)) rfl rfl rfl ?_; refine o_lit1 Tryz.underlying23 zs9 rfl rfl rfl rfl rfl (by decide) (by decide) (fun b53 => ?_); refine o_callPr (pb := pb) [_, _, _] rfl rfl rfl rfl Tryz.call20 (fun w1 h1 h2 h3 => addK [[114, 111, 108, 108, 98, 97, 99, 107]] _ _ pb _ _ _ _ _ w1 h2 (RdS.row .z w1 h1) (fun a ha => by cases ha; exact pr_apart h1 (fun x hx => (List.mem_cons_of_mem _ (List.mem_cons_of_mem _ hx))) rfl) (by (try simp only [List.length_append, List.length_cons, List.length_nil, List.flatten_cons, List.flatten_nil] at hb ⊢); omega) (by simp)) (fun A54 c54 => ?_); refine triL_nil ?_; refine blockQ_normal ?_; refine end0n rfl ?_
              exact fin_turn (J := Option Addr × Nat) (A54, c54) rfl trivial (fun w2 hw2 => prD_eq (by simp [raw]) rfl (by simp only [raw]; omega) (hw2.sel [3, 4] (by decide)))
            · skip
              exfalso
              rw [part_9 (by omega)] at hmy
              have := of_decide_eq_true hmy
              omega
end Go.Proofs.YtjbpkcbefmpfgaaGreatDoor
namespace Go.Proofs.YtjbpkcbefmpfgaaGreatDoor
open Go.WK Go.RowKit 
set_option maxHeartbeats 1000000 in
theorem mayQK (q : QryX) (y : QLay) (bl : List Nat) (w : World) (hA : QAt bl w q y) (hbl : ∀ k ∈ bl, k < w.heap.size) (hok : QOk q) (hbd : QBd q) : Calls Tryz.prog 34 #[.agg (quCs q y).toArray] w (Pure w (.bool (mayQ q))) := by
  refine calls_tri (args := [.agg (quCs q y).toArray]) (lent := []) (H := []) Tryz.func34 rfl Tryz.ntmps34 rfl (Sat.start _ _ _ _) ?_; refine (show Tri _ [(0, _)] _ _ _ from ?_)
  obtain ⟨xI, xF, xO, hI, hF, hW, hO⟩ := id hA
  have n1 : q.items.length ≤ 70368744177664 := hbd.ni
  have n2 : q.from_.length ≤ 70368744177664 := hbd.nf
  have n3 : q.ord.length ≤ 70368744177664 := hbd.no
  refine tri_seq (tri_region ?_); refine o_box _ rfl rfl rfl (fun b1 => ?_); refine o_assignN rfl rfl ?_; refine tri_seq (tri_region ?_); refine o_field fo35_4 rfl rfl ?_; refine o_loadA agg30 sz30 .z rfl rfl (vs := exCs q.wh y.V) rfl rfl ?_; refine o_callP (first := []) (cap := []) rfl rfl rfl Tryz.call33 (fun w1 h1 => maybeK q.wh y.V bl w1 (hW.stab (fun k hk => h1.chg.block k (hbl k hk) (by simp))) hok.wh hbd.wh (fun k hk => Nat.lt_of_lt_of_le (hbl k hk) h1.chg.size)) ?_; refine o_move rfl rfl ?_
  refine' triL_and [_, _, _, _] [(1, _)] (dj := 13) (dr := 17) rfl rfl (fun g1 => ?_) ⟨_, rfl, rfl, rfl, (.cons rfl (.nil _))⟩ rfl ?_
  rotate_left
  · skip
    refine o_field fo35_3 rfl rfl ?_; refine o_load agg32 (by repeat (first | exact Nth.z | apply Nth.s)) rfl rfl rfl ?_; refine o_lenS Tryz.underlying32 rfl rfl ?_; refine o_leq rfl rfl rfl ?_
    exact triL_nil (Piece.mk rfl rfl (.cons rfl (.nil _)) (fun _ h => h))
  refine o_move rfl rfl ?_
  refine' triL_and [_, _, _, _] [(1, _)] (dj := 19) (dr := 23) rfl rfl (fun g2 => ?_) ⟨_, rfl, rfl, rfl, (.cons rfl (.nil _))⟩ rfl ?_
  rotate_left
  · skip
    refine o_field fo35_5 rfl rfl ?_; refine o_load agg33 (by repeat (first | exact Nth.z | apply Nth.s)) rfl rfl rfl ?_; refine o_lenS Tryz.underlying33 rfl rfl ?_; refine o_leq rfl rfl rfl ?_
    exact triL_nil (Piece.mk rfl rfl (.cons rfl (.nil _)) (fun _ h => h))
  refine o_move rfl rfl ?_
  refine' triL_and [_, _, _] [(1, _)] (dj := 25) (dr := 28) rfl rfl (fun g3 => ?_) ⟨_, rfl, rfl, rfl, (.cons rfl (.nil _))⟩ rfl ?_
  rotate_left
  · skip
    refine o_field fo35_7 rfl rfl ?_; refine o_load agg3 (by repeat (first | exact Nth.z | apply Nth.s)) rfl rfl rfl ?_; refine o_geq rfl rfl rfl ?_
    exact triL_nil (Piece.mk rfl rfl (.cons rfl (.nil _)) (fun _ h => h))
  refine o_move rfl rfl ?_
  refine' triL_and [_, _, _, _, _, _, _] [(1, _)] (dj := 30) (dr := 37) rfl rfl (fun g4 => ?_) ⟨_, rfl, rfl, rfl, (.cons rfl (.nil _))⟩ rfl ?_
  rotate_left
  · skip
    refine o_field fo35_6 rfl rfl ?_; refine o_load agg4 (by repeat (first | exact Nth.z | apply Nth.s)) rfl rfl rfl ?_; refine o_move rfl rfl ?_
    refine' triL_or [_, _, _] [(30, _), (1, _)] (dj := 33) (dr := 36) rfl rfl (fun g5 => ?_) ⟨_, rfl, rfl, rfl, (.cons rfl (.cons rfl (.nil _)))⟩ rfl ?_
    rotate_left
    · skip
      refine o_field fo35_7 rfl rfl ?_; refine o_load agg3 (by repeat (first | exact Nth.z | apply Nth.s)) rfl rfl rfl ?_; refine o_eqlI rfl rfl rfl ?_
      exact triL_nil (Piece.mk rfl rfl (.cons rfl (.cons rfl (.nil _))) (fun _ h => h))
    exact triL_nil (Piece.mk rfl rfl (.cons rfl (.nil _)) (fun _ h => h))
  refine o_assignN rfl rfl ?_; refine tri_join (ι := Nat) (fun i => [(1, .pointer (some ⟨b1, 0, none⟩)), (3, .bool (mqA q && mqB q))]) (fun i => [box b1 35 (quCs q y)]) (fun i => True) ?_ (fun i hj => ?_)
  · skip
    refine tri_seq (tri_region ?_); refine o_field fo35_1 rfl rfl ?_; refine o_load agg4 (by repeat (first | exact Nth.z | apply Nth.s)) rfl rfl rfl ?_; refine triL_nilN ?_; refine tri_cond rfl (fun q0 => ?_) (fun q0 => ?_)
    · skip
      refine tri_region ?_; refine o_move rfl rfl ?_; refine o_move rfl rfl ?_
      refine' triL_and [_, _, _, _] [(3, _), (1, _)] (dj := 42) (dr := 46) rfl rfl (fun g6 => ?_) ⟨_, rfl, rfl, rfl, (.cons rfl (.cons rfl (.nil _)))⟩ rfl ?_
      rotate_left
      · skip
        refine o_field fo35_2 rfl rfl ?_; refine o_load agg31 (by repeat (first | exact Nth.z | apply Nth.s)) rfl rfl rfl ?_; refine o_lenS Tryz.underlying31 rfl rfl ?_; refine o_eqlI rfl rfl rfl ?_
        exact triL_nil (Piece.mk rfl rfl (.cons rfl (.cons rfl (.nil _))) (fun _ h => h))
      refine o_assignN rfl rfl ?_
      exact ⟨0, (.cons rfl (.cons (congrArg (fun b => some (Value.bool b)) (by unfold mqA mqB; rw [if_pos q0])) (.nil _))), fun _ h => h, trivial⟩
    · skip
      refine tri_region ?_; refine o_move rfl rfl ?_; refine o_move rfl rfl ?_
      refine' triL_and [_, _, _, _] [(3, _), (1, _)] (dj := 49) (dr := 53) rfl rfl (fun g7 => ?_) ⟨_, rfl, rfl, rfl, (.cons rfl (.cons rfl (.nil _)))⟩ rfl ?_
      rotate_left
      · skip
        refine o_field fo35_2 rfl rfl ?_; refine o_load agg31 (by repeat (first | exact Nth.z | apply Nth.s)) rfl rfl rfl ?_; refine o_lenS Tryz.underlying31 rfl rfl ?_; refine o_callP (first := []) (cap := []) rfl rfl rfl Tryz.call31 (fun w1 h1 => upToK q.items.length 16 w1) ?_
        exact triL_nil (Piece.mk rfl rfl (.cons rfl (.cons rfl (.nil _))) (fun _ h => h))
      refine o_assignN rfl rfl ?_
      exact ⟨0, (.cons rfl (.cons (congrArg (fun b => some (Value.bool b)) (by unfold mqA mqB; rw [if_neg (ne_t q0)])) (.nil _))), fun _ h => h, trivial⟩
  refine tri_seq ?_; refine tri_seq (tri_region ?_); refine o_field fo35_2 rfl rfl ?_; refine o_load agg31 (by repeat (first | exact Nth.z | apply Nth.s)) rfl rfl rfl ?_; refine o_lenS Tryz.underlying31 rfl rfl ?_; refine o_move rfl rfl ?_; refine triL_nilN ?_; refine tri_block ?_; refine tri_loop (ι := Nat) (F := fun i => [(1, .pointer (some ⟨b1, 0, none⟩)), (3, .bool ((mqA q && mqB q) && allT (fun i => mayI (q.items.getD i ItemX.zero)) i)), (56, .slice y.I.A q.items.length y.I.k), (57, .int .i64 (q.items.length : Int)), (58, .int .i64 (i : Int))]) (HH := fun i => [box b1 35 (quCs q y)]) (Pu := fun i => i ≤ q.items.length) (μ := fun i => q.items.length - i) (0) (.cons rfl (.cons (congrArg (fun b => some (Value.bool b)) (by simp [allT])) (.cons rfl (.cons rfl (.cons rfl (.nil _)))))) (fun _ h => h) (Nat.zero_le _) (fun i hi => ?_); refine tri_seq (tri_region ?_); refine o_lss rfl rfl rfl ?_; refine triL_nilN ?_; refine tri_seq ?_; refine tri_if rfl (fun q1 => ?_) (fun q1 => ?_)
  · skip
    have hil : i < q.items.length := by omega
    refine tri_skip ?_; refine thenQ_normal ?_; refine tri_seq ?_; refine tri_block ?_; refine tri_seq ?_
    obtain ⟨ye, hci, hye⟩ := item_at hI i hil
    refine tri_region ?_; refine o_idxS Tryz.underlying31 sz53 rfl rfl rfl (hI.rd0 _ _ rfl rfl) (by omega) (by omega) hI.len (by decide) ?_; refine o_loadRA agg53 sz53 rfl rfl (hI.rd0 _ _ rfl rfl) (vs := exCs (q.items.getD i ItemX.zero).e ye ++ [Value.string (B (q.items.getD i ItemX.zero).s)]) hci rfl (by decide) ?_; refine o_alloc _ rfl zero53 rfl (fun b5 => ?_); refine o_store sz53 (by repeat (first | exact Nth.z | apply Nth.s)) rfl rfl rfl rfl rfl (Nat.le_of_ble_eq_true rfl) rfl ?_; refine triL_nilN ?_; refine tri_region ?_; refine o_move rfl rfl ?_; refine o_move rfl rfl ?_
    refine' triL_and [_, _, _] [(5, _), (1, _), (3, _), (56, _), (57, _), (58, _)] (dj := 63) (dr := 66) rfl rfl (fun g8 => ?_) ⟨_, rfl, rfl, rfl, (.cons rfl (.cons rfl (.cons rfl (.cons rfl (.cons rfl (.cons rfl (.nil _)))))))⟩ rfl ?_
    rotate_left
    · skip
      refine o_field fo53_0 rfl rfl ?_; refine o_loadA agg30 sz30 .z rfl rfl (vs := exCs (q.items.getD i ItemX.zero).e ye) rfl rfl ?_; refine o_callP (first := []) (cap := []) rfl rfl rfl Tryz.call32 (fun w1 h1 => mayXE (q.items.getD i ItemX.zero).e bl ye w1 (hye.stab (fun k hk => h1.chg.block k (hbl k hk) (by simp))) (hok.items i hil) (hbd.items i hil).1) ?_
      exact triL_nil (Piece.mk rfl rfl (.cons rfl (.cons rfl (.cons rfl (.cons rfl (.cons rfl (.cons rfl (.nil _))))))) (fun _ h => h))
    refine o_move rfl rfl ?_
    refine' triL_and [_, _, _, _, _, _, _, _] [(1, _), (3, _), (56, _), (57, _), (58, _)] (dj := 68) (dr := 76) rfl rfl (fun g9 => ?_) ⟨_, rfl, rfl, rfl, (.cons rfl (.cons rfl (.cons rfl (.cons rfl (.cons rfl (.nil _))))))⟩ rfl ?_
    rotate_left
    · skip
      refine o_field fo53_1 rfl rfl ?_; refine o_load agg9 (by repeat (first | exact Nth.z | apply Nth.s)) rfl rfl rfl ?_; refine o_eqlT rfl rfl rfl ?_; refine o_move rfl rfl ?_
      refine' triL_or [_, _, _] [(68, _), (1, _), (3, _), (56, _), (57, _), (58, _)] (dj := 72) (dr := 75) rfl rfl (fun g10 => ?_) ⟨_, rfl, rfl, rfl, (.cons rfl (.cons rfl (.cons rfl (.cons rfl (.cons rfl (.cons rfl (.nil _)))))))⟩ rfl ?_
      rotate_left
      · skip
        refine o_field fo53_1 rfl rfl ?_; refine o_load agg9 (by repeat (first | exact Nth.z | apply Nth.s)) rfl rfl rfl ?_; refine o_callP (first := []) (cap := []) rfl rfl rfl Tryz.call30 (fun w1 h1 => namedR (q.items.getD i ItemX.zero).s w1 (hbd.items i hil).2) ?_
        exact triL_nil (Piece.mk rfl rfl (.cons rfl (.cons rfl (.cons rfl (.cons rfl (.cons rfl (.cons rfl (.nil _))))))) (fun _ h => h))
      exact triL_nil (Piece.mk rfl rfl (.cons rfl (.cons rfl (.cons rfl (.cons rfl (.cons rfl (.nil _)))))) (fun _ h => h))
    refine o_assign rfl rfl ?_; refine triL_nil ?_; refine blockQ_normal ?_; refine thenQ_normal ?_; refine tri_region ?_; refine o_addN rfl rfl rfl (by omega) ?_; refine o_move rfl rfl ?_; refine triL_nilN ?_
    exact ⟨i + 1, (.cons rfl (.cons (congrArg (fun b => some (Value.bool b)) (by exact mayI_step (mqA q && mqB q) (fun i => q.items.getD i ItemX.zero) i)) (.cons rfl (.cons rfl (.cons rfl (.nil _)))))), (fun w2 hw2 => hw2.tail), by omega, by omega⟩
  · skip
    have hie : i = q.items.length := by omega
    rw [hie]
    refine tri_exit ?_; refine thenQ_exit ?_; refine thenQ_exit ?_; refine blockQ_here ?_; refine thenQ_normal ?_; refine tri_seq ?_; refine tri_seq ?_; refine tri_slots [(1, _), (3, _)] (.cons rfl (.cons rfl (.nil _))) ?_; refine tri_region ?_; refine o_field fo35_3 rfl rfl ?_; refine o_load agg32 (by repeat (first | exact Nth.z | apply Nth.s)) rfl rfl rfl ?_; refine o_lenS Tryz.underlying32 rfl rfl ?_; refine o_move rfl rfl ?_; refine triL_nilN ?_; refine tri_block ?_; refine tri_loop (ι := Nat) (F := fun i => [(1, .pointer (some ⟨b1, 0, none⟩)), (3, .bool (((mqA q && mqB q) && allT (fun i => mayI (q.items.getD i ItemX.zero)) q.items.length) && allT (fun i => mayF i (q.from_.getD i SrcX.zero)) i)), (80, .slice y.F.A q.from_.length y.F.k), (81, .int .i64 (q.from_.length : Int)), (82, .int .i64 (i : Int))]) (HH := fun i => [box b1 35 (quCs q y)]) (Pu := fun i => i ≤ q.from_.length) (μ := fun i => q.from_.length - i) (0) (.cons rfl (.cons (congrArg (fun b => some (Value.bool b)) (by simp [allT])) (.cons rfl (.cons rfl (.cons rfl (.nil _)))))) (fun _ h => h) (Nat.zero_le _) (fun i hi => ?_); refine tri_seq (tri_region ?_); refine o_lss rfl rfl rfl ?_; refine triL_nilN ?_; refine tri_seq ?_; refine tri_if rfl (fun q2 => ?_) (fun q2 => ?_)
    · skip
      have hil : i < q.from_.length := by omega
      refine tri_skip ?_; refine thenQ_normal ?_; refine tri_seq ?_; refine tri_block ?_; refine tri_seq ?_
      obtain ⟨ye, hci, hye⟩ := src_at hF i hil
      refine tri_region ?_; refine o_move rfl rfl ?_; refine o_idxS Tryz.underlying32 sz87 rfl rfl rfl (hF.rd0 _ _ rfl rfl) (by omega) (by omega) hF.len (by decide) ?_; refine o_loadRA agg87 sz87 rfl rfl (hF.rd0 _ _ rfl rfl) (vs := Value.string (B (q.from_.getD i SrcX.zero).t) :: Value.string (B (q.from_.getD i SrcX.zero).s) :: exCs (q.from_.getD i SrcX.zero).e ye) hci rfl (by decide) ?_; refine o_alloc _ rfl zero87 rfl (fun b7 => ?_); refine o_assign rfl rfl ?_; refine o_store sz87 (by repeat (first | exact Nth.z | apply Nth.s)) rfl rfl rfl rfl rfl (Nat.le_of_ble_eq_true rfl) rfl ?_; refine triL_nilN ?_; refine tri_slots [(6, _), (7, _), (1, _), (3, _), (80, _), (81, _), (82, _)] (.cons rfl (.cons rfl (.cons rfl (.cons rfl (.cons rfl (.cons rfl (.cons rfl (.nil _)))))))) ?_; refine tri_region ?_; refine o_move rfl rfl ?_; refine o_move rfl rfl ?_
      refine' triL_and [_, _, _] [(6, _), (7, _), (1, _), (3, _), (80, _), (81, _), (82, _)] (dj := 88) (dr := 91) rfl rfl (fun g11 => ?_) ⟨_, rfl, rfl, rfl, (.cons rfl (.cons rfl (.cons rfl (.cons rfl (.cons rfl (.cons rfl (.cons rfl (.nil _))))))))⟩ rfl ?_
      rotate_left
      · skip
        refine o_field fo87_0 rfl rfl ?_; refine o_load agg9 (by repeat (first | exact Nth.z | apply Nth.s)) rfl rfl rfl ?_; refine o_callP (first := []) (cap := []) rfl rfl rfl Tryz.call30 (fun w1 h1 => namedR (q.from_.getD i SrcX.zero).t w1 (hbd.from_ i hil).2.1) ?_
        exact triL_nil (Piece.mk rfl rfl (.cons rfl (.cons rfl (.cons rfl (.cons rfl (.cons rfl (.cons rfl (.cons rfl (.nil _)))))))) (fun _ h => h))
      refine o_move rfl rfl ?_
      refine' triL_and [_, _, _, _, _, _, _, _] [(6, _), (7, _), (1, _), (3, _), (80, _), (81, _), (82, _)] (dj := 93) (dr := 101) rfl rfl (fun g12 => ?_) ⟨_, rfl, rfl, rfl, (.cons rfl (.cons rfl (.cons rfl (.cons rfl (.cons rfl (.cons rfl (.cons rfl (.nil _))))))))⟩ rfl ?_
      rotate_left
      · skip
        refine o_field fo87_1 rfl rfl ?_; refine o_load agg9 (by repeat (first | exact Nth.z | apply Nth.s)) rfl rfl rfl ?_; refine o_eqlT rfl rfl rfl ?_; refine o_move rfl rfl ?_
        refine' triL_or [_, _, _] [(93, _), (6, _), (7, _), (1, _), (3, _), (80, _), (81, _), (82, _)] (dj := 97) (dr := 100) rfl rfl (fun g13 => ?_) ⟨_, rfl, rfl, rfl, (.cons rfl (.cons rfl (.cons rfl (.cons rfl (.cons rfl (.cons rfl (.cons rfl (.cons rfl (.nil _)))))))))⟩ rfl ?_
        rotate_left
        · skip
          refine o_field fo87_1 rfl rfl ?_; refine o_load agg9 (by repeat (first | exact Nth.z | apply Nth.s)) rfl rfl rfl ?_; refine o_callP (first := []) (cap := []) rfl rfl rfl Tryz.call30 (fun w1 h1 => namedR (q.from_.getD i SrcX.zero).s w1 (hbd.from_ i hil).2.2) ?_
          exact triL_nil (Piece.mk rfl rfl (.cons rfl (.cons rfl (.cons rfl (.cons rfl (.cons rfl (.cons rfl (.cons rfl (.cons rfl (.nil _))))))))) (fun _ h => h))
        exact triL_nil (Piece.mk rfl rfl (.cons rfl (.cons rfl (.cons rfl (.cons rfl (.cons rfl (.cons rfl (.cons rfl (.nil _)))))))) (fun _ h => h))
      refine o_move rfl rfl ?_
      refine' triL_and [_, _, _, _, _, _, _, _, _, _, _, _, _, _, _, _] [(1, _), (3, _), (80, _), (81, _), (82, _)] (dj := 103) (dr := 119) rfl rfl (fun g14 => ?_) ⟨_, rfl, rfl, rfl, (.cons rfl (.cons rfl (.cons rfl (.cons rfl (.cons rfl (.nil _))))))⟩ rfl ?_
      rotate_left
      · skip
        refine o_move rfl rfl ?_; refine o_eqlI rfl rfl rfl ?_; refine o_move rfl rfl ?_
        refine' triL_and [_, _, _] [(103, _), (6, _), (7, _), (1, _), (3, _), (80, _), (81, _), (82, _)] (dj := 106) (dr := 109) rfl rfl (fun g15 => ?_) ⟨_, rfl, rfl, rfl, (.cons rfl (.cons rfl (.cons rfl (.cons rfl (.cons rfl (.cons rfl (.cons rfl (.cons rfl (.nil _)))))))))⟩ rfl ?_
        rotate_left
        · skip
          refine o_field fo87_2 rfl rfl ?_; refine o_loadA agg30 sz30 .z rfl rfl (vs := exCs (q.from_.getD i SrcX.zero).e ye) rfl rfl ?_; refine o_callP (first := []) (cap := []) rfl rfl rfl Tryz.call72 (fun w1 h1 => lacksE (q.from_.getD i SrcX.zero).e ye w1) ?_
          exact triL_nil (Piece.mk rfl rfl (.cons rfl (.cons rfl (.cons rfl (.cons rfl (.cons rfl (.cons rfl (.cons rfl (.cons rfl (.nil _))))))))) (fun _ h => h))
        refine o_move rfl rfl ?_
        refine' triL_or [_, _, _, _, _, _, _] [(103, _), (1, _), (3, _), (80, _), (81, _), (82, _)] (dj := 111) (dr := 118) rfl rfl (fun g16 => ?_) ⟨_, rfl, rfl, rfl, (.cons rfl (.cons rfl (.cons rfl (.cons rfl (.cons rfl (.cons rfl (.nil _)))))))⟩ rfl ?_
        rotate_left
        · skip
          refine o_move rfl rfl ?_; refine o_gtr rfl rfl rfl ?_; refine o_move rfl rfl ?_
          refine' triL_and [_, _, _] [(111, _), (103, _), (1, _), (3, _), (80, _), (81, _), (82, _)] (dj := 114) (dr := 117) rfl rfl (fun g17 => ?_) ⟨_, rfl, rfl, rfl, (.cons rfl (.cons rfl (.cons rfl (.cons rfl (.cons rfl (.cons rfl (.cons rfl (.nil _))))))))⟩ rfl ?_
          rotate_left
          · skip
            refine o_field fo87_2 rfl rfl ?_; refine o_loadA agg30 sz30 .z rfl rfl (vs := exCs (q.from_.getD i SrcX.zero).e ye) rfl rfl ?_; refine o_callP (first := []) (cap := []) rfl rfl rfl Tryz.call32 (fun w1 h1 => mayXE (q.from_.getD i SrcX.zero).e bl ye w1 (hye.stab (fun k hk => h1.chg.block k (hbl k hk) (by simp))) (hok.from_ i hil) (hbd.from_ i hil).1) ?_
            exact triL_nil (Piece.mk rfl rfl (.cons rfl (.cons rfl (.cons rfl (.cons rfl (.cons rfl (.cons rfl (.cons rfl (.nil _)))))))) (fun _ h => h))
          exact triL_nil (Piece.mk rfl rfl (.cons rfl (.cons rfl (.cons rfl (.cons rfl (.cons rfl (.cons rfl (.nil _))))))) (fun _ h => h))
        exact triL_nil (Piece.mk rfl rfl (.cons rfl (.cons rfl (.cons rfl (.cons rfl (.cons rfl (.nil _)))))) (fun _ h => h))
      refine o_assign rfl rfl ?_; refine triL_nil ?_; refine blockQ_normal ?_; refine thenQ_normal ?_; refine tri_region ?_; refine o_addN rfl rfl rfl (by omega) ?_; refine o_move rfl rfl ?_; refine triL_nilN ?_
      exact ⟨i + 1, (.cons rfl (.cons (congrArg (fun b => some (Value.bool b)) (by exact mayF_step ((mqA q && mqB q) && allT (fun i => mayI (q.items.getD i ItemX.zero)) q.items.length) (fun i => q.from_.getD i SrcX.zero) i)) (.cons rfl (.cons rfl (.cons rfl (.nil _)))))), (fun w2 hw2 => hw2.tail), by omega, by omega⟩
    · skip
      have hie : i = q.from_.length := by omega
      rw [hie]
      refine tri_exit ?_; refine thenQ_exit ?_; refine thenQ_exit ?_; refine blockQ_here ?_; refine thenQ_normal ?_; refine tri_seq ?_; refine tri_seq ?_; refine tri_slots [(1, _), (3, _)] (.cons rfl (.cons rfl (.nil _))) ?_; refine tri_region ?_; refine o_field fo35_5 rfl rfl ?_; refine o_load agg33 (by repeat (first | exact Nth.z | apply Nth.s)) rfl rfl rfl ?_; refine o_lenS Tryz.underlying33 rfl rfl ?_; refine o_move rfl rfl ?_; refine triL_nilN ?_; refine tri_block ?_; refine tri_loop (ι := Nat) (F := fun i => [(3, .bool ((((mqA q && mqB q) && allT (fun i => mayI (q.items.getD i ItemX.zero)) q.items.length) && allT (fun i => mayF i (q.from_.getD i SrcX.zero)) q.from_.length) && allT (fun i => nameOk (q.ord.getD i OrdX.zero).n) i)), (123, .slice y.O.A q.ord.length y.O.k), (124, .int .i64 (q.ord.length : Int)), (125, .int .i64 (i : Int))]) (HH := fun i => [box b1 35 (quCs q y)]) (Pu := fun i => i ≤ q.ord.length) (μ := fun i => q.ord.length - i) (0) (.cons (congrArg (fun b => some (Value.bool b)) (by simp [allT])) (.cons rfl (.cons rfl (.cons rfl (.nil _))))) (fun _ h => h) (Nat.zero_le _) (fun i hi => ?_); refine tri_seq (tri_region ?_); refine o_lss rfl rfl rfl ?_; refine triL_nilN ?_; refine tri_seq ?_; refine tri_if rfl (fun q3 => ?_) (fun q3 => ?_)
      · skip
        have hil : i < q.ord.length := by omega
        refine tri_skip ?_; refine thenQ_normal ?_; refine tri_seq ?_; refine tri_block ?_; refine tri_seq ?_
        have hci := ord_at hO i hil
        refine tri_region ?_; refine o_idxS Tryz.underlying33 sz121 rfl rfl rfl (hO.rd0 _ _ rfl rfl) (by omega) (by omega) hO.len (by decide) ?_; refine o_loadRA agg121 sz121 rfl rfl (hO.rd0 _ _ rfl rfl) (vs := [Value.string (B (q.ord.getD i OrdX.zero).n), Value.bool (q.ord.getD i OrdX.zero).b]) hci rfl (by decide) ?_; refine o_alloc _ rfl zero121 rfl (fun b9 => ?_); refine o_store sz121 (by repeat (first | exact Nth.z | apply Nth.s)) rfl rfl rfl rfl rfl (Nat.le_of_ble_eq_true rfl) rfl ?_; refine triL_nilN ?_; refine tri_region ?_; refine o_move rfl rfl ?_; refine o_move rfl rfl ?_
        refine' triL_and [_, _, _] [(3, _), (123, _), (124, _), (125, _)] (dj := 130) (dr := 133) rfl rfl (fun g18 => ?_) ⟨_, rfl, rfl, rfl, (.cons rfl (.cons rfl (.cons rfl (.cons rfl (.nil _)))))⟩ rfl ?_
        rotate_left
        · skip
          refine o_field fo121_0 rfl rfl ?_; refine o_load agg9 (by repeat (first | exact Nth.z | apply Nth.s)) rfl rfl rfl ?_; refine o_callP (first := []) (cap := []) rfl rfl rfl Tryz.call30 (fun w1 h1 => namedR (q.ord.getD i OrdX.zero).n w1 (hbd.ord i hil)) ?_
          exact triL_nil (Piece.mk rfl rfl (.cons rfl (.cons rfl (.cons rfl (.cons rfl (.nil _))))) (fun _ h => h))
        refine o_assign rfl rfl ?_; refine triL_nil ?_; refine blockQ_normal ?_; refine thenQ_normal ?_; refine tri_region ?_; refine o_addN rfl rfl rfl (by omega) ?_; refine o_move rfl rfl ?_; refine triL_nilN ?_
        exact ⟨i + 1, (.cons (congrArg (fun b => some (Value.bool b)) (by exact name_step (((mqA q && mqB q) && allT (fun i => mayI (q.items.getD i ItemX.zero)) q.items.length) && allT (fun i => mayF i (q.from_.getD i SrcX.zero)) q.from_.length) (fun i => (q.ord.getD i OrdX.zero).n) i)) (.cons rfl (.cons rfl (.cons rfl (.nil _))))), (fun w2 hw2 => hw2.tail), by omega, by omega⟩
      · skip
        have hie : i = q.ord.length := by omega
        rw [hie]
        refine tri_exit ?_; refine thenQ_exit ?_; refine thenQ_exit ?_; refine blockQ_here ?_; refine thenQ_normal ?_; refine tri_seq ?_; refine tri_slots [(3, _)] (.cons rfl (.nil _)) ?_; refine tri_region ?_; refine o_move rfl rfl ?_; refine o_assignN rfl rfl ?_; refine tri_ret ?_; refine end1 rfl rfl ?_
        exact fun w1 hw1 => ⟨congrArg (fun b => Ending.returned (.bool b)) (by exact mayQ_eq q), hw1.chg⟩
end Go.Proofs.YtjbpkcbefmpfgaaGreatDoor
namespace Go.Proofs.YtjbpkcbefmpfgaaGreatDoor
open Go.WK Go.RowKit 
theorem zero35 : (Tryz.prog.info? 35).map (·.zero) = some (some (.agg #[.bool false, .bool false, .slice none 0 0, .slice none 0 0, .int .i64 0, .int .i64 0, .int .i64 0, .string .empty, .string .empty, .string .empty, .int .i64 0, .slice none 0 0, .slice none 0 0, .bool false, .int .i64 0])) := by kernel_rfl
theorem fo37_2 : fieldB Tryz.prog 37 2 = some 2 := by kernel_rfl
theorem fo37_5 : fieldB Tryz.prog 37 5 = some 5 := by kernel_rfl
theorem sz22 : szB Tryz.prog 22 = some 1 := by kernel_rfl
theorem sz23 : szB Tryz.prog 23 = some 1 := by kernel_rfl
theorem sz24 : szB Tryz.prog 24 = some 1 := by kernel_rfl
theorem sz25 : szB Tryz.prog 25 = some 1 := by kernel_rfl
theorem agg82 : aggB Tryz.prog 82 = some true := by kernel_rfl
theorem built37_0 (x0 : Int) : Tryz.prog.built 37 [(0, .int .i64 x0)] = some ([.int .i64 x0, .string .empty, .string .empty, .slice none 0 0, .slice none 0 0, .bool false, .slice none 0 0, .slice none 0 0, .int .i64 0, .int .i64 0, .int .i64 0, .string .empty, .string .empty, .string .empty, .int .i64 0, .slice none 0 0, .bool false, .bool false, .slice none 0 0, .slice none 0 0, .int .i64 0, .int .i64 0, .int .i64 0, .string .empty, .string .empty, .string .empty, .int .i64 0, .slice none 0 0, .slice none 0 0, .bool false, .int .i64 0] : List Value).toArray := by kernel_rfl
theorem zero82 : (Tryz.prog.info? 82).map (·.zero) = some (some (.agg #[.string .empty, .int .i64 0, .int .i64 0, .int .i64 0, .string .empty, .string .empty, .string .empty, .int .i64 0, .slice none 0 0])) := by kernel_rfl
set_option maxRecDepth 100000 in
set_option maxHeartbeats 1000000 in
theorem restK (s t : StmtX) (y z : Lay) (w : World)  : Calls Tryz.prog 35 #[.agg (stCs s y).toArray, .agg (stCs t z).toArray] w (Pure w (.bool (restB s t))) := by
  refine calls_tri (args := [.agg (stCs s y).toArray, .agg (stCs t z).toArray]) (lent := []) (H := []) Tryz.func35 rfl Tryz.ntmps35 rfl (Sat.start _ _ _ _) ?_; refine (show Tri _ [(0, _), (1, _)] _ _ _ from ?_); refine tri_seq (tri_region ?_); refine o_box _ rfl rfl rfl (fun b2 => ?_); refine o_box _ rfl rfl rfl (fun b3 => ?_); refine o_assignN rfl rfl ?_; refine tri_seq ?_; refine Tri.mono (Q := fun e fs' H' => e = .normal ∧ ∃ b5 b6 : Nat, Sub fs' [(2, .pointer (some ⟨b2, 0, none⟩)), (3, .pointer (some ⟨b3, 0, none⟩)), (5, .pointer (some ⟨b5, 0, none⟩)), (6, .pointer (some ⟨b6, 0, none⟩))] ∧ ∀ w2, Sat ⟨Tryz.prog, 161, [], w, []⟩ H' w2 → Sat ⟨Tryz.prog, 161, [], w, []⟩ [box b5 35 (quCs s.q y.q), box b6 35 (quCs t.q z.q), box b3 37 (stCs t z), box b2 37 (stCs s y)] w2) ?_ (fun e fs1 H1 hq => ?_)
  · skip
    refine tri_mixT [box b3 37 (stCs t z), box b2 37 (stCs s y)] (.fix 0 (.fix 1 (.fix 2 (.fix 3 (.two 4 5 (.op 5 (.op 6 (.op 7 .nil))) (.op 4 (.op 6 (.op 7 .nil)))))))) (by kernel_rfl) (by kernel_rfl) (fun _ h => h) ?_; refine mixT_fix rfl ?_; refine o_field fo37_9 rfl rfl ?_; refine triL_nil ⟨rfl, ?_⟩; refine mixT_fix rfl ?_; refine o_loadA agg35 sz35 (.s .z) rfl rfl (vs := quCs s.q y.q) rfl rfl ?_; refine triL_nil ⟨rfl, ?_⟩; refine mixT_fix rfl ?_; refine o_field fo37_9 rfl rfl ?_; refine triL_nil ⟨rfl, ?_⟩; refine mixT_fix rfl ?_; refine o_loadA agg35 sz35 .z rfl rfl (vs := quCs t.q z.q) rfl rfl ?_; refine triL_nil ⟨rfl, ?_⟩; refine mixT_two rfl rfl ?_ ?_
    · skip
      refine o_alloc _ rfl zero35 rfl (fun b5 => ?_); refine triL_nil ⟨rfl, fun _ h => Sat.dropS 1 h, ?_⟩; refine mixT_op rfl ?_; refine o_alloc _ rfl zero35 rfl (fun b6 => ?_); refine triL_nil ⟨rfl, fun _ h => Sat.dropS 2 h, ?_⟩; refine mixT_op rfl ?_; refine o_store sz35 (.s .z) rfl rfl rfl rfl rfl (Nat.le_of_ble_eq_true rfl) rfl ?_; refine triL_nil ⟨rfl, fun _ h => Sat.dropS 2 h, ?_⟩; refine mixT_op rfl ?_; refine o_store sz35 .z rfl rfl rfl rfl rfl (Nat.le_of_ble_eq_true rfl) rfl ?_; refine triL_nil ⟨rfl, fun _ h => Sat.dropS 2 h, ?_⟩
      exact mixT_nil ⟨rfl, b5, b6, (.cons rfl (.cons rfl (.cons rfl (.cons rfl (.nil _))))), fun w2 hw2 => hw2.sel [1, 0, 2, 3] (by decide)⟩
    · skip
      refine o_alloc _ rfl zero35 rfl (fun b6 => ?_); refine triL_nil ⟨rfl, fun _ h => Sat.dropS 1 h, ?_⟩; refine mixT_op rfl ?_; refine o_alloc _ rfl zero35 rfl (fun b5 => ?_); refine triL_nil ⟨rfl, fun _ h => Sat.dropS 2 h, ?_⟩; refine mixT_op rfl ?_; refine o_store sz35 .z rfl rfl rfl rfl rfl (Nat.le_of_ble_eq_true rfl) rfl ?_; refine triL_nil ⟨rfl, fun _ h => Sat.dropS 2 h, ?_⟩; refine mixT_op rfl ?_; refine o_store sz35 (.s .z) rfl rfl rfl rfl rfl (Nat.le_of_ble_eq_true rfl) rfl ?_; refine triL_nil ⟨rfl, fun _ h => Sat.dropS 2 h, ?_⟩
      exact mixT_nil ⟨rfl, b5, b6, (.cons rfl (.cons rfl (.cons rfl (.cons rfl (.nil _))))), fun w2 hw2 => hw2.sel [0, 1, 2, 3] (by decide)⟩
  obtain ⟨rfl, b5, b6, hsub, hheap⟩ := hq
  refine thenQ_normal ?_; refine tri_seq ?_; refine Tri.sub hsub (Tri.heap hheap ?_); refine tri_region ?_; refine o_field fo37_1 rfl rfl ?_; refine o_load agg9 (by repeat (first | exact Nth.z | apply Nth.s)) rfl rfl rfl ?_; refine o_field fo37_1 rfl rfl ?_; refine o_load agg9 (by repeat (first | exact Nth.z | apply Nth.s)) rfl rfl rfl ?_; refine o_eqlT rfl rfl rfl ?_; refine o_move rfl rfl ?_
  refine' triL_and [_, _, _, _, _] [(2, _), (3, _), (5, _), (6, _)] (dj := 16) (dr := 21) rfl rfl (fun g1 => ?_) ⟨_, rfl, rfl, rfl, (.cons rfl (.cons rfl (.cons rfl (.cons rfl (.nil _)))))⟩ rfl ?_
  rotate_left
  · skip
    refine o_field fo37_2 rfl rfl ?_; refine o_load agg9 (by repeat (first | exact Nth.z | apply Nth.s)) rfl rfl rfl ?_; refine o_field fo37_2 rfl rfl ?_; refine o_load agg9 (by repeat (first | exact Nth.z | apply Nth.s)) rfl rfl rfl ?_; refine o_eqlT rfl rfl rfl ?_
    exact triL_nil (Piece.mk rfl rfl (.cons rfl (.cons rfl (.cons rfl (.cons rfl (.nil _))))) (fun _ h => h))
  refine o_move rfl rfl ?_
  refine' triL_and [_, _, _, _, _, _, _] [(2, _), (3, _), (5, _), (6, _)] (dj := 23) (dr := 30) rfl rfl (fun g2 => ?_) ⟨_, rfl, rfl, rfl, (.cons rfl (.cons rfl (.cons rfl (.cons rfl (.nil _)))))⟩ rfl ?_
  rotate_left
  · skip
    refine o_field fo37_3 rfl rfl ?_; refine o_load agg22 (by repeat (first | exact Nth.z | apply Nth.s)) rfl rfl rfl ?_; refine o_lenS Tryz.underlying22 rfl rfl ?_; refine o_field fo37_3 rfl rfl ?_; refine o_load agg22 (by repeat (first | exact Nth.z | apply Nth.s)) rfl rfl rfl ?_; refine o_lenS Tryz.underlying22 rfl rfl ?_; refine o_eqlI rfl rfl rfl ?_
    exact triL_nil (Piece.mk rfl rfl (.cons rfl (.cons rfl (.cons rfl (.cons rfl (.nil _))))) (fun _ h => h))
  refine o_move rfl rfl ?_
  refine' triL_and [_, _, _, _, _, _, _] [(2, _), (3, _), (5, _), (6, _)] (dj := 32) (dr := 39) rfl rfl (fun g3 => ?_) ⟨_, rfl, rfl, rfl, (.cons rfl (.cons rfl (.cons rfl (.cons rfl (.nil _)))))⟩ rfl ?_
  rotate_left
  · skip
    refine o_field fo37_4 rfl rfl ?_; refine o_load agg23 (by repeat (first | exact Nth.z | apply Nth.s)) rfl rfl rfl ?_; refine o_lenS Tryz.underlying23 rfl rfl ?_; refine o_field fo37_4 rfl rfl ?_; refine o_load agg23 (by repeat (first | exact Nth.z | apply Nth.s)) rfl rfl rfl ?_; refine o_lenS Tryz.underlying23 rfl rfl ?_; refine o_eqlI rfl rfl rfl ?_
    exact triL_nil (Piece.mk rfl rfl (.cons rfl (.cons rfl (.cons rfl (.cons rfl (.nil _))))) (fun _ h => h))
  refine o_move rfl rfl ?_
  refine' triL_and [_, _, _, _, _] [(2, _), (3, _), (5, _), (6, _)] (dj := 41) (dr := 46) rfl rfl (fun g4 => ?_) ⟨_, rfl, rfl, rfl, (.cons rfl (.cons rfl (.cons rfl (.cons rfl (.nil _)))))⟩ rfl ?_
  rotate_left
  · skip
    refine o_field fo37_5 rfl rfl ?_; refine o_load agg4 (by repeat (first | exact Nth.z | apply Nth.s)) rfl rfl rfl ?_; refine o_field fo37_5 rfl rfl ?_; refine o_load agg4 (by repeat (first | exact Nth.z | apply Nth.s)) rfl rfl rfl ?_; refine o_eqlB rfl Tryz.underlying4 rfl rfl ?_
    exact triL_nil (Piece.mk rfl rfl (.cons rfl (.cons rfl (.cons rfl (.cons rfl (.nil _))))) (fun _ h => h))
  refine o_move rfl rfl ?_
  refine' triL_and [_, _, _, _, _, _, _] [(2, _), (3, _), (5, _), (6, _)] (dj := 48) (dr := 55) rfl rfl (fun g5 => ?_) ⟨_, rfl, rfl, rfl, (.cons rfl (.cons rfl (.cons rfl (.cons rfl (.nil _)))))⟩ rfl ?_
  rotate_left
  · skip
    refine o_field fo37_6 rfl rfl ?_; refine o_load agg24 (by repeat (first | exact Nth.z | apply Nth.s)) rfl rfl rfl ?_; refine o_lenS Tryz.underlying24 rfl rfl ?_; refine o_field fo37_6 rfl rfl ?_; refine o_load agg24 (by repeat (first | exact Nth.z | apply Nth.s)) rfl rfl rfl ?_; refine o_lenS Tryz.underlying24 rfl rfl ?_; refine o_eqlI rfl rfl rfl ?_
    exact triL_nil (Piece.mk rfl rfl (.cons rfl (.cons rfl (.cons rfl (.cons rfl (.nil _))))) (fun _ h => h))
  refine o_move rfl rfl ?_
  refine' triL_and [_, _, _, _, _, _, _] [(2, _), (3, _), (5, _), (6, _)] (dj := 57) (dr := 64) rfl rfl (fun g6 => ?_) ⟨_, rfl, rfl, rfl, (.cons rfl (.cons rfl (.cons rfl (.cons rfl (.nil _)))))⟩ rfl ?_
  rotate_left
  · skip
    refine o_field fo37_7 rfl rfl ?_; refine o_load agg25 (by repeat (first | exact Nth.z | apply Nth.s)) rfl rfl rfl ?_; refine o_lenS Tryz.underlying25 rfl rfl ?_; refine o_field fo37_7 rfl rfl ?_; refine o_load agg25 (by repeat (first | exact Nth.z | apply Nth.s)) rfl rfl rfl ?_; refine o_lenS Tryz.underlying25 rfl rfl ?_; refine o_eqlI rfl rfl rfl ?_
    exact triL_nil (Piece.mk rfl rfl (.cons rfl (.cons rfl (.cons rfl (.cons rfl (.nil _))))) (fun _ h => h))
  refine o_move rfl rfl ?_
  refine' triL_and [_, _, _, _, _, _, _, _, _, _, _, _, _, _, _, _, _, _] [(5, _), (6, _)] (dj := 66) (dr := 84) rfl rfl (fun g7 => ?_) ⟨_, rfl, rfl, rfl, (.cons rfl (.cons rfl (.nil _)))⟩ rfl ?_
  rotate_left
  · skip
    refine o_field fo37_8 rfl rfl ?_; refine o_field fo30_0 rfl rfl ?_; refine o_load agg3 (by repeat (first | exact Nth.z | apply Nth.s)) rfl rfl rfl ?_; refine o_field fo37_8 rfl rfl ?_; refine o_field fo30_0 rfl rfl ?_; refine o_load agg3 (by repeat (first | exact Nth.z | apply Nth.s)) rfl rfl rfl ?_; refine o_eqlI rfl rfl rfl ?_; refine o_move rfl rfl ?_
    refine' triL_and [_, _, _, _, _, _, _, _, _] [(66, _), (5, _), (6, _)] (dj := 74) (dr := 83) rfl rfl (fun g8 => ?_) ⟨_, rfl, rfl, rfl, (.cons rfl (.cons rfl (.cons rfl (.nil _))))⟩ rfl ?_
    rotate_left
    · skip
      refine o_field fo37_8 rfl rfl ?_; refine o_field fo30_0 rfl rfl ?_; refine o_load agg3 (by repeat (first | exact Nth.z | apply Nth.s)) rfl rfl rfl ?_; refine o_neqI rfl rfl rfl ?_; refine o_move rfl rfl ?_
      refine' triL_or [_, _, _] [(74, _), (66, _), (5, _), (6, _)] (dj := 79) (dr := 82) rfl rfl (fun g9 => ?_) ⟨_, rfl, rfl, rfl, (.cons rfl (.cons rfl (.cons rfl (.cons rfl (.nil _)))))⟩ rfl ?_
      rotate_left
      · skip
        refine o_field fo37_8 rfl rfl ?_; refine o_loadA agg30 sz30 (.s (.s (.s .z))) rfl rfl (vs := exCs s.wh y.W) rfl rfl ?_; refine o_callP (first := []) (cap := []) rfl rfl rfl Tryz.call72 (fun w1 h1 => lacksE s.wh y.W w1) ?_
        exact triL_nil (Piece.mk rfl rfl (.cons rfl (.cons rfl (.cons rfl (.cons rfl (.nil _))))) (fun _ h => h))
      exact triL_nil (Piece.mk rfl rfl (.cons rfl (.cons rfl (.cons rfl (.nil _)))) (fun _ h => h))
    exact triL_nil (Piece.mk rfl rfl (.cons rfl (.cons rfl (.nil _))) (fun _ h => h))
  refine o_move rfl rfl ?_
  refine' triL_and [_, _, _, _, _] [(5, _), (6, _)] (dj := 86) (dr := 91) rfl rfl (fun g10 => ?_) ⟨_, rfl, rfl, rfl, (.cons rfl (.cons rfl (.nil _)))⟩ rfl ?_
  rotate_left
  · skip
    refine o_field fo35_0 rfl rfl ?_; refine o_load agg4 (by repeat (first | exact Nth.z | apply Nth.s)) rfl rfl rfl ?_; refine o_field fo35_0 rfl rfl ?_; refine o_load agg4 (by repeat (first | exact Nth.z | apply Nth.s)) rfl rfl rfl ?_; refine o_eqlB rfl Tryz.underlying4 rfl rfl ?_
    exact triL_nil (Piece.mk rfl rfl (.cons rfl (.cons rfl (.nil _))) (fun _ h => h))
  refine o_move rfl rfl ?_
  refine' triL_and [_, _, _, _, _] [(5, _), (6, _)] (dj := 93) (dr := 98) rfl rfl (fun g11 => ?_) ⟨_, rfl, rfl, rfl, (.cons rfl (.cons rfl (.nil _)))⟩ rfl ?_
  rotate_left
  · skip
    refine o_field fo35_1 rfl rfl ?_; refine o_load agg4 (by repeat (first | exact Nth.z | apply Nth.s)) rfl rfl rfl ?_; refine o_field fo35_1 rfl rfl ?_; refine o_load agg4 (by repeat (first | exact Nth.z | apply Nth.s)) rfl rfl rfl ?_; refine o_eqlB rfl Tryz.underlying4 rfl rfl ?_
    exact triL_nil (Piece.mk rfl rfl (.cons rfl (.cons rfl (.nil _))) (fun _ h => h))
  refine o_move rfl rfl ?_
  refine' triL_and [_, _, _, _, _, _, _] [(5, _), (6, _)] (dj := 100) (dr := 107) rfl rfl (fun g12 => ?_) ⟨_, rfl, rfl, rfl, (.cons rfl (.cons rfl (.nil _)))⟩ rfl ?_
  rotate_left
  · skip
    refine o_field fo35_2 rfl rfl ?_; refine o_load agg31 (by repeat (first | exact Nth.z | apply Nth.s)) rfl rfl rfl ?_; refine o_lenS Tryz.underlying31 rfl rfl ?_; refine o_field fo35_2 rfl rfl ?_; refine o_load agg31 (by repeat (first | exact Nth.z | apply Nth.s)) rfl rfl rfl ?_; refine o_lenS Tryz.underlying31 rfl rfl ?_; refine o_eqlI rfl rfl rfl ?_
    exact triL_nil (Piece.mk rfl rfl (.cons rfl (.cons rfl (.nil _))) (fun _ h => h))
  refine o_move rfl rfl ?_
  refine' triL_and [_, _, _, _, _, _, _] [(5, _), (6, _)] (dj := 109) (dr := 116) rfl rfl (fun g13 => ?_) ⟨_, rfl, rfl, rfl, (.cons rfl (.cons rfl (.nil _)))⟩ rfl ?_
  rotate_left
  · skip
    refine o_field fo35_3 rfl rfl ?_; refine o_load agg32 (by repeat (first | exact Nth.z | apply Nth.s)) rfl rfl rfl ?_; refine o_lenS Tryz.underlying32 rfl rfl ?_; refine o_field fo35_3 rfl rfl ?_; refine o_load agg32 (by repeat (first | exact Nth.z | apply Nth.s)) rfl rfl rfl ?_; refine o_lenS Tryz.underlying32 rfl rfl ?_; refine o_eqlI rfl rfl rfl ?_
    exact triL_nil (Piece.mk rfl rfl (.cons rfl (.cons rfl (.nil _))) (fun _ h => h))
  refine o_move rfl rfl ?_
  refine' triL_and [_, _, _, _, _, _, _, _, _, _, _, _, _, _, _, _, _, _] [(5, _), (6, _)] (dj := 118) (dr := 136) rfl rfl (fun g14 => ?_) ⟨_, rfl, rfl, rfl, (.cons rfl (.cons rfl (.nil _)))⟩ rfl ?_
  rotate_left
  · skip
    refine o_field fo35_4 rfl rfl ?_; refine o_field fo30_0 rfl rfl ?_; refine o_load agg3 (by repeat (first | exact Nth.z | apply Nth.s)) rfl rfl rfl ?_; refine o_field fo35_4 rfl rfl ?_; refine o_field fo30_0 rfl rfl ?_; refine o_load agg3 (by repeat (first | exact Nth.z | apply Nth.s)) rfl rfl rfl ?_; refine o_eqlI rfl rfl rfl ?_; refine o_move rfl rfl ?_
    refine' triL_and [_, _, _, _, _, _, _, _, _] [(118, _), (5, _), (6, _)] (dj := 126) (dr := 135) rfl rfl (fun g15 => ?_) ⟨_, rfl, rfl, rfl, (.cons rfl (.cons rfl (.cons rfl (.nil _))))⟩ rfl ?_
    rotate_left
    · skip
      refine o_field fo35_4 rfl rfl ?_; refine o_field fo30_0 rfl rfl ?_; refine o_load agg3 (by repeat (first | exact Nth.z | apply Nth.s)) rfl rfl rfl ?_; refine o_neqI rfl rfl rfl ?_; refine o_move rfl rfl ?_
      refine' triL_or [_, _, _] [(126, _), (118, _), (5, _), (6, _)] (dj := 131) (dr := 134) rfl rfl (fun g16 => ?_) ⟨_, rfl, rfl, rfl, (.cons rfl (.cons rfl (.cons rfl (.cons rfl (.nil _)))))⟩ rfl ?_
      rotate_left
      · skip
        refine o_field fo35_4 rfl rfl ?_; refine o_loadA agg30 sz30 .z rfl rfl (vs := exCs s.q.wh y.q.V) rfl rfl ?_; refine o_callP (first := []) (cap := []) rfl rfl rfl Tryz.call72 (fun w1 h1 => lacksE s.q.wh y.q.V w1) ?_
        exact triL_nil (Piece.mk rfl rfl (.cons rfl (.cons rfl (.cons rfl (.cons rfl (.nil _))))) (fun _ h => h))
      exact triL_nil (Piece.mk rfl rfl (.cons rfl (.cons rfl (.cons rfl (.nil _)))) (fun _ h => h))
    exact triL_nil (Piece.mk rfl rfl (.cons rfl (.cons rfl (.nil _))) (fun _ h => h))
  refine o_move rfl rfl ?_
  refine' triL_and [_, _, _, _, _, _, _] [(5, _), (6, _)] (dj := 138) (dr := 145) rfl rfl (fun g17 => ?_) ⟨_, rfl, rfl, rfl, (.cons rfl (.cons rfl (.nil _)))⟩ rfl ?_
  rotate_left
  · skip
    refine o_field fo35_5 rfl rfl ?_; refine o_load agg33 (by repeat (first | exact Nth.z | apply Nth.s)) rfl rfl rfl ?_; refine o_lenS Tryz.underlying33 rfl rfl ?_; refine o_field fo35_5 rfl rfl ?_; refine o_load agg33 (by repeat (first | exact Nth.z | apply Nth.s)) rfl rfl rfl ?_; refine o_lenS Tryz.underlying33 rfl rfl ?_; refine o_eqlI rfl rfl rfl ?_
    exact triL_nil (Piece.mk rfl rfl (.cons rfl (.cons rfl (.nil _))) (fun _ h => h))
  refine o_move rfl rfl ?_
  refine' triL_and [_, _, _, _, _] [(5, _), (6, _)] (dj := 147) (dr := 152) rfl rfl (fun g18 => ?_) ⟨_, rfl, rfl, rfl, (.cons rfl (.cons rfl (.nil _)))⟩ rfl ?_
  rotate_left
  · skip
    refine o_field fo35_6 rfl rfl ?_; refine o_load agg4 (by repeat (first | exact Nth.z | apply Nth.s)) rfl rfl rfl ?_; refine o_field fo35_6 rfl rfl ?_; refine o_load agg4 (by repeat (first | exact Nth.z | apply Nth.s)) rfl rfl rfl ?_; refine o_eqlB rfl Tryz.underlying4 rfl rfl ?_
    exact triL_nil (Piece.mk rfl rfl (.cons rfl (.cons rfl (.nil _))) (fun _ h => h))
  refine o_move rfl rfl ?_
  refine' triL_and [_, _, _, _, _] [] (dj := 154) (dr := 159) rfl rfl (fun g19 => ?_) ⟨_, rfl, rfl, rfl, (.nil _)⟩ rfl ?_
  rotate_left
  · skip
    refine o_field fo35_7 rfl rfl ?_; refine o_load agg3 (by repeat (first | exact Nth.z | apply Nth.s)) rfl rfl rfl ?_; refine o_field fo35_7 rfl rfl ?_; refine o_load agg3 (by repeat (first | exact Nth.z | apply Nth.s)) rfl rfl rfl ?_; refine o_eqlI rfl rfl rfl ?_
    exact triL_nil (Piece.mk rfl rfl (.nil _) (fun _ h => h))
  refine o_assignN rfl rfl ?_; refine tri_ret ?_; refine end1 rfl rfl ?_
  exact fun w1 hw1 => ⟨congrArg (fun b => Ending.returned (.bool b)) (by rfl), hw1.chg⟩
set_option maxHeartbeats 2000000 in
theorem mayStK (s : StmtX) (y : Lay) (bl : List Nat) (w : World) (hA : SAt bl w s y) (hbl : ∀ k ∈ bl, k < w.heap.size) (hok : SOk s) (hbd : SBd s) : Calls Tryz.prog 10 #[.agg (stCs s y).toArray] w (Pure w (.bool (maySt s))) := by
  refine calls_tri (args := [.agg (stCs s y).toArray]) (lent := []) (H := []) Tryz.func10 rfl Tryz.ntmps10 rfl (Sat.start _ _ _ _) ?_; refine (show Tri _ [(0, _)] _ _ _ from ?_)
  obtain ⟨xC, xN, xR, xS, xI, xF, xO, hC, hN, hR_, hS, hW, hQ⟩ := id hA
  have n1 : s.cols.length ≤ 70368744177664 := hbd.nc
  have n2 : s.on.length ≤ 70368744177664 := hbd.nn
  have n3 : s.rows.length ≤ 70368744177664 := hbd.nr
  have n4 : s.sets.length ≤ 70368744177664 := hbd.ns
  refine tri_seq (tri_region ?_); refine o_box _ rfl rfl rfl (fun b1 => ?_); refine o_assignN rfl rfl ?_; refine tri_seq (tri_region ?_); refine o_field fo37_0 rfl rfl ?_; refine o_load agg3 (by repeat (first | exact Nth.z | apply Nth.s)) rfl rfl rfl ?_; refine o_build (built37_0 _) rfl rfl ?_; refine o_alloc _ rfl zero37 rfl (fun b3 => ?_); refine o_storeF (us := [.int .i64 0, .string .empty, .string .empty, .slice none 0 0, .slice none 0 0, .bool false, .slice none 0 0, .slice none 0 0, .int .i64 0, .int .i64 0, .int .i64 0, .string .empty, .string .empty, .string .empty, .int .i64 0, .slice none 0 0, .bool false, .bool false, .slice none 0 0, .slice none 0 0, .int .i64 0, .int .i64 0, .int .i64 0, .string .empty, .string .empty, .string .empty, .int .i64 0, .slice none 0 0, .slice none 0 0, .bool false, .int .i64 0]) (cs := stCs { StmtX.zero with k := s.k } Lay.nil) rfl rfl rfl sz37 .z rfl rfl rfl ?_; refine triL_nilN ?_; refine tri_seq ?_; refine tri_slots [(3, _), (1, _)] (.cons rfl (.cons rfl (.nil _))) ?_; refine tri_region ?_; refine o_assignN rfl rfl ?_; refine tri_join (ι := StmtX × Lay) (fun j => [(1, .pointer (some ⟨b1, 0, none⟩)), (3, .pointer (some ⟨b3, 0, none⟩)), (4, .bool (partS s))]) (fun j => [box b3 37 (stCs j.1 j.2), box b1 37 (stCs s y)]) (fun j => j.1 = keepS s) ?_ (fun j hj => ?_)
  · skip
    refine tri_seq (tri_region ?_); refine o_field fo37_0 rfl rfl ?_; refine o_load agg3 (by repeat (first | exact Nth.z | apply Nth.s)) rfl rfl rfl ?_; refine triL_nilN ?_; refine tri_block ?_; refine tri_seq (tri_region ?_); refine o_eqlI rfl rfl rfl ?_; refine o_assignN rfl rfl ?_; refine tri_if rfl (fun q1 => ?_) (fun q1 => ?_)
    · skip
      refine tri_seq ?_; refine tri_slots [(3, _), (1, _)] (.cons rfl (.cons rfl (.nil _))) ?_; refine tri_mix ([box b1 37 (stCs s y)]) [(0, true), (1, true), (2, true), (3, true), (4, true), (5, false), (6, false), (7, false)] [6, 7] (by kernel_rfl) (by kernel_rfl) (fun _ h => Sat.dropS 1 h) ?_; refine mix_fix rfl ?_; refine o_field fo37_1 rfl rfl ?_; refine triL_nil ⟨rfl, mix_fix rfl ?_⟩; refine o_load agg9 (by repeat (first | exact Nth.z | apply Nth.s)) rfl rfl rfl ?_; refine triL_nil ⟨rfl, mix_fix rfl ?_⟩; refine o_field fo37_3 rfl rfl ?_; refine triL_nil ⟨rfl, mix_fix rfl ?_⟩; refine o_load agg22 (by repeat (first | exact Nth.z | apply Nth.s)) rfl rfl rfl ?_; refine triL_nil ⟨rfl, mix_fix rfl ?_⟩; refine o_field fo37_1 rfl rfl ?_; refine triL_nil ⟨rfl, ?_⟩; refine mix_op rfl ?_; refine o_storeN (stCs { StmtX.zero with k := s.k, t := s.t } Lay.nil) sz9 .z rfl rfl rfl rfl rfl (Nat.le_of_ble_eq_true rfl) rfl rfl ?_; refine triL_nil ⟨rfl, fun _ _ h => Sat.dropS 1 h, ?_⟩; refine mix_rest [6, 7] [_, _] rfl rfl ?_; refine o_field fo37_3 rfl rfl ?_; refine o_storeN (stCs { StmtX.zero with k := s.k, t := s.t, cols := s.cols } { Lay.nil with C := y.C }) sz22 .z rfl rfl rfl rfl rfl (Nat.le_of_ble_eq_true rfl) rfl rfl ?_; refine triL_nil ⟨rfl, ?_⟩; refine thenQ_normal ?_; refine tri_seq ?_; refine tri_slots [(3, _), (1, _)] (.cons rfl (.cons rfl (.nil _))) ?_; refine tri_region ?_; refine o_field fo37_1 rfl rfl ?_; refine o_load agg9 (by repeat (first | exact Nth.z | apply Nth.s)) rfl rfl rfl ?_; refine o_callP (first := []) (cap := []) rfl rfl rfl Tryz.call30 (fun w1 h1 => namedR s.t w1 hbd.t) ?_; refine o_move rfl rfl ?_
      refine' triL_and [_, _, _, _] [(3, _), (1, _)] (dj := 31) (dr := 35) rfl rfl (fun g1 => ?_) ⟨_, rfl, rfl, rfl, (.cons rfl (.cons rfl (.nil _)))⟩ rfl ?_
      rotate_left
      · skip
        refine o_field fo37_3 rfl rfl ?_; refine o_load agg22 (by repeat (first | exact Nth.z | apply Nth.s)) rfl rfl rfl ?_; refine o_lenS Tryz.underlying22 rfl rfl ?_; refine o_callP (first := []) (cap := []) rfl rfl rfl Tryz.call31 (fun w1 h1 => upToK s.cols.length 16 w1) ?_
        exact triL_nil (Piece.mk rfl rfl (.cons rfl (.cons rfl (.nil _))) (fun _ h => h))
      refine o_assignN rfl rfl ?_; refine tri_seq (tri_region ?_); refine o_field fo37_3 rfl rfl ?_; refine o_load agg22 (by repeat (first | exact Nth.z | apply Nth.s)) rfl rfl rfl ?_; refine o_lenS Tryz.underlying22 rfl rfl ?_; refine o_move rfl rfl ?_; refine triL_nilN ?_; refine tri_block ?_; refine tri_loop (ι := Nat) (F := fun i => [(1, .pointer (some ⟨b1, 0, none⟩)), (3, .pointer (some ⟨b3, 0, none⟩)), (4, .bool ((nameOk s.t && upTo s.cols.length 16) && allT (fun i => mayCol (s.cols.getD i ColX.zero)) i)), (38, .slice y.C.A s.cols.length y.C.k), (39, .int .i64 (s.cols.length : Int)), (40, .int .i64 (i : Int))]) (HH := fun i => [box b3 37 (stCs { StmtX.zero with k := s.k, t := s.t, cols := s.cols } { Lay.nil with C := y.C }), box b1 37 (stCs s y)]) (Pu := fun i => i ≤ s.cols.length) (μ := fun i => s.cols.length - i) (0) (.cons rfl (.cons rfl (.cons (congrArg (fun b => some (Value.bool b)) (by simp [allT])) (.cons rfl (.cons rfl (.cons rfl (.nil _))))))) (fun _ h => h) (Nat.zero_le _) (fun i hi => ?_); refine tri_seq (tri_region ?_); refine o_lss rfl rfl rfl ?_; refine triL_nilN ?_; refine tri_seq ?_; refine tri_if rfl (fun qa => ?_) (fun qa => ?_)
      · skip
        have hil : i < s.cols.length := by omega
        refine tri_skip ?_; refine thenQ_normal ?_; refine tri_seq ?_; refine tri_block ?_; refine tri_seq ?_
        have hci := col_at hC i hil
        refine tri_region ?_; refine o_idxS Tryz.underlying22 sz71 rfl rfl rfl (hC.rd0 _ _ rfl rfl) (by omega) (by omega) hC.len (by decide) ?_; refine o_loadRA agg71 sz71 rfl rfl (hC.rd0 _ _ rfl rfl) (vs := [Value.string (B (s.cols.getD i ColX.zero).n), Value.int .i64 (s.cols.getD i ColX.zero).k, Value.bool (s.cols.getD i ColX.zero).b]) hci rfl (by decide) ?_; refine o_alloc _ rfl zero71 rfl (fun b6 => ?_); refine o_store sz71 (by repeat (first | exact Nth.z | apply Nth.s)) rfl rfl rfl rfl rfl (Nat.le_of_ble_eq_true rfl) rfl ?_; refine triL_nilN ?_; refine tri_region ?_; refine o_move rfl rfl ?_; refine o_move rfl rfl ?_
        refine' triL_and [_, _, _] [(6, _), (1, _), (3, _), (4, _), (38, _), (39, _), (40, _)] (dj := 45) (dr := 48) rfl rfl (fun g2 => ?_) ⟨_, rfl, rfl, rfl, (.cons rfl (.cons rfl (.cons rfl (.cons rfl (.cons rfl (.cons rfl (.cons rfl (.nil _))))))))⟩ rfl ?_
        rotate_left
        · skip
          refine o_field fo71_0 rfl rfl ?_; refine o_load agg9 (by repeat (first | exact Nth.z | apply Nth.s)) rfl rfl rfl ?_; refine o_callP (first := []) (cap := []) rfl rfl rfl Tryz.call30 (fun w1 h1 => namedR (s.cols.getD i ColX.zero).n w1 (hbd.cols i hil)) ?_
          exact triL_nil (Piece.mk rfl rfl (.cons rfl (.cons rfl (.cons rfl (.cons rfl (.cons rfl (.cons rfl (.cons rfl (.nil _)))))))) (fun _ h => h))
        refine o_move rfl rfl ?_
        refine' triL_and [_, _, _] [(6, _), (1, _), (3, _), (4, _), (38, _), (39, _), (40, _)] (dj := 50) (dr := 53) rfl rfl (fun g3 => ?_) ⟨_, rfl, rfl, rfl, (.cons rfl (.cons rfl (.cons rfl (.cons rfl (.cons rfl (.cons rfl (.cons rfl (.nil _))))))))⟩ rfl ?_
        rotate_left
        · skip
          refine o_field fo71_1 rfl rfl ?_; refine o_load agg3 (by repeat (first | exact Nth.z | apply Nth.s)) rfl rfl rfl ?_; refine o_geq rfl rfl rfl ?_
          exact triL_nil (Piece.mk rfl rfl (.cons rfl (.cons rfl (.cons rfl (.cons rfl (.cons rfl (.cons rfl (.cons rfl (.nil _)))))))) (fun _ h => h))
        refine o_move rfl rfl ?_
        refine' triL_and [_, _, _] [(1, _), (3, _), (4, _), (38, _), (39, _), (40, _)] (dj := 55) (dr := 58) rfl rfl (fun g4 => ?_) ⟨_, rfl, rfl, rfl, (.cons rfl (.cons rfl (.cons rfl (.cons rfl (.cons rfl (.cons rfl (.nil _)))))))⟩ rfl ?_
        rotate_left
        · skip
          refine o_field fo71_1 rfl rfl ?_; refine o_load agg3 (by repeat (first | exact Nth.z | apply Nth.s)) rfl rfl rfl ?_; refine o_leq rfl rfl rfl ?_
          exact triL_nil (Piece.mk rfl rfl (.cons rfl (.cons rfl (.cons rfl (.cons rfl (.cons rfl (.cons rfl (.nil _))))))) (fun _ h => h))
        refine o_assign rfl rfl ?_; refine triL_nil ?_; refine blockQ_normal ?_; refine thenQ_normal ?_; refine tri_region ?_; refine o_addN rfl rfl rfl (by omega) ?_; refine o_move rfl rfl ?_; refine triL_nilN ?_
        exact ⟨i + 1, (.cons rfl (.cons rfl (.cons (congrArg (fun b => some (Value.bool b)) (by exact col_step (nameOk s.t && upTo s.cols.length 16) (fun i => s.cols.getD i ColX.zero) i)) (.cons rfl (.cons rfl (.cons rfl (.nil _))))))), (fun w2 hw2 => hw2.tail), by omega, by omega⟩
      · skip
        have hie : i = s.cols.length := by omega
        rw [hie]
        refine tri_exit ?_; refine thenQ_exit ?_; refine thenQ_exit ?_; refine blockQ_here ?_; refine blockQ_normal ?_; refine thenQ_normal ?_
        exact ⟨({ StmtX.zero with k := s.k, t := s.t, cols := s.cols }, { Lay.nil with C := y.C }), (.cons rfl (.cons rfl (.cons (congrArg (fun b => some (Value.bool b)) (by rw [part_1 q1, Bool.and_assoc])) (.nil _)))), fun _ h => h, by rw [keep_1 q1]; simp only [q1]⟩
    · skip
      refine tri_seq (tri_region ?_); refine o_eqlI rfl rfl rfl ?_; refine o_assignN rfl rfl ?_; refine tri_if rfl (fun q2 => ?_) (fun q2 => ?_)
      · skip
        refine tri_seq ?_; refine tri_slots [(3, _), (1, _)] (.cons rfl (.cons rfl (.nil _))) ?_; refine tri_region ?_; refine o_field fo37_1 rfl rfl ?_; refine o_load agg9 (by repeat (first | exact Nth.z | apply Nth.s)) rfl rfl rfl ?_; refine o_field fo37_1 rfl rfl ?_; refine o_storeN (stCs { StmtX.zero with k := s.k, t := s.t } Lay.nil) sz9 .z rfl rfl rfl rfl rfl (Nat.le_of_ble_eq_true rfl) rfl rfl ?_; refine triL_nilN ?_; refine tri_region ?_; refine o_field fo37_1 rfl rfl ?_; refine o_load agg9 (by repeat (first | exact Nth.z | apply Nth.s)) rfl rfl rfl ?_; refine o_callP (first := []) (cap := []) rfl rfl rfl Tryz.call30 (fun w1 h1 => namedR s.t w1 hbd.t) ?_; refine o_assign rfl rfl ?_; refine triL_nil ?_; refine blockQ_normal ?_; refine thenQ_normal ?_
        exact ⟨({ StmtX.zero with k := s.k, t := s.t }, Lay.nil), (.cons rfl (.cons rfl (.cons (congrArg (fun b => some (Value.bool b)) (by exact (part_2 q2).symm)) (.nil _)))), fun _ h => h, by rw [keep_2 q2]; simp only [q2]⟩
      · skip
        refine tri_seq ?_; refine tri_slots [(19, _), (4, _), (3, _), (1, _)] (.cons rfl (.cons rfl (.cons rfl (.cons rfl (.nil _))))) ?_; refine tri_region ?_; refine o_eqlI rfl rfl rfl ?_; refine o_assignN rfl rfl ?_; refine tri_if rfl (fun q3 => ?_) (fun q3 => ?_)
        · skip
          refine tri_seq ?_; refine tri_slots [(3, _), (1, _)] (.cons rfl (.cons rfl (.nil _))) ?_; refine tri_mix ([box b1 37 (stCs s y)]) [(0, true), (1, true), (2, true), (3, true), (4, true), (5, true), (6, true), (7, true), (8, true), (9, false), (10, true), (11, false), (12, true), (13, false), (14, false), (15, false)] [14, 15] (by kernel_rfl) (by kernel_rfl) (fun _ h => Sat.dropS 1 h) ?_; refine mix_fix rfl ?_; refine o_field fo37_1 rfl rfl ?_; refine triL_nil ⟨rfl, mix_fix rfl ?_⟩; refine o_load agg9 (by repeat (first | exact Nth.z | apply Nth.s)) rfl rfl rfl ?_; refine triL_nil ⟨rfl, mix_fix rfl ?_⟩; refine o_field fo37_2 rfl rfl ?_; refine triL_nil ⟨rfl, mix_fix rfl ?_⟩; refine o_load agg9 (by repeat (first | exact Nth.z | apply Nth.s)) rfl rfl rfl ?_; refine triL_nil ⟨rfl, mix_fix rfl ?_⟩; refine o_field fo37_4 rfl rfl ?_; refine triL_nil ⟨rfl, mix_fix rfl ?_⟩; refine o_load agg23 (by repeat (first | exact Nth.z | apply Nth.s)) rfl rfl rfl ?_; refine triL_nil ⟨rfl, mix_fix rfl ?_⟩; refine o_field fo37_5 rfl rfl ?_; refine triL_nil ⟨rfl, mix_fix rfl ?_⟩; refine o_load agg4 (by repeat (first | exact Nth.z | apply Nth.s)) rfl rfl rfl ?_; refine triL_nil ⟨rfl, mix_fix rfl ?_⟩; refine o_field fo37_1 rfl rfl ?_; refine triL_nil ⟨rfl, ?_⟩; refine mix_op rfl ?_; refine o_storeN (stCs { StmtX.zero with k := s.k, t := s.t } Lay.nil) sz9 .z rfl rfl rfl rfl rfl (Nat.le_of_ble_eq_true rfl) rfl rfl ?_; refine triL_nil ⟨rfl, fun _ _ h => Sat.dropS 1 h, ?_⟩; refine mix_fix rfl ?_; refine o_field fo37_2 rfl rfl ?_; refine triL_nil ⟨rfl, ?_⟩; refine mix_op rfl ?_; refine o_storeN (stCs { StmtX.zero with k := s.k, t := s.t, n := s.n } Lay.nil) sz9 .z rfl rfl rfl rfl rfl (Nat.le_of_ble_eq_true rfl) rfl rfl ?_; refine triL_nil ⟨rfl, fun _ _ h => Sat.dropS 1 h, ?_⟩; refine mix_fix rfl ?_; refine o_field fo37_4 rfl rfl ?_; refine triL_nil ⟨rfl, ?_⟩; refine mix_op rfl ?_; refine o_storeN (stCs { StmtX.zero with k := s.k, t := s.t, n := s.n, on := s.on } { Lay.nil with N := y.N }) sz23 .z rfl rfl rfl rfl rfl (Nat.le_of_ble_eq_true rfl) rfl rfl ?_; refine triL_nil ⟨rfl, fun _ _ h => Sat.dropS 1 h, ?_⟩; refine mix_rest [14, 15] [_, _] rfl rfl ?_; refine o_field fo37_5 rfl rfl ?_; refine o_storeN (stCs { StmtX.zero with k := s.k, t := s.t, n := s.n, on := s.on, un := s.un } { Lay.nil with N := y.N }) sz4 .z rfl rfl rfl rfl rfl (Nat.le_of_ble_eq_true rfl) rfl rfl ?_; refine triL_nil ⟨rfl, ?_⟩; refine thenQ_normal ?_; refine tri_seq ?_; refine tri_slots [(3, _), (1, _)] (.cons rfl (.cons rfl (.nil _))) ?_; refine tri_region ?_; refine o_field fo37_1 rfl rfl ?_; refine o_load agg9 (by repeat (first | exact Nth.z | apply Nth.s)) rfl rfl rfl ?_; refine o_callP (first := []) (cap := []) rfl rfl rfl Tryz.call30 (fun w1 h1 => namedR s.t w1 hbd.t) ?_; refine o_move rfl rfl ?_
          refine' triL_and [_, _, _] [(3, _), (1, _)] (dj := 86) (dr := 89) rfl rfl (fun g5 => ?_) ⟨_, rfl, rfl, rfl, (.cons rfl (.cons rfl (.nil _)))⟩ rfl ?_
          rotate_left
          · skip
            refine o_field fo37_2 rfl rfl ?_; refine o_load agg9 (by repeat (first | exact Nth.z | apply Nth.s)) rfl rfl rfl ?_; refine o_callP (first := []) (cap := []) rfl rfl rfl Tryz.call30 (fun w1 h1 => namedR s.n w1 hbd.n) ?_
            exact triL_nil (Piece.mk rfl rfl (.cons rfl (.cons rfl (.nil _))) (fun _ h => h))
          refine o_move rfl rfl ?_
          refine' triL_and [_, _, _, _] [(3, _), (1, _)] (dj := 91) (dr := 95) rfl rfl (fun g6 => ?_) ⟨_, rfl, rfl, rfl, (.cons rfl (.cons rfl (.nil _)))⟩ rfl ?_
          rotate_left
          · skip
            refine o_field fo37_4 rfl rfl ?_; refine o_load agg23 (by repeat (first | exact Nth.z | apply Nth.s)) rfl rfl rfl ?_; refine o_lenS Tryz.underlying23 rfl rfl ?_; refine o_callP (first := []) (cap := []) rfl rfl rfl Tryz.call31 (fun w1 h1 => upToK s.on.length 16 w1) ?_
            exact triL_nil (Piece.mk rfl rfl (.cons rfl (.cons rfl (.nil _))) (fun _ h => h))
          refine o_assignN rfl rfl ?_; refine tri_seq (tri_region ?_); refine o_field fo37_4 rfl rfl ?_; refine o_load agg23 (by repeat (first | exact Nth.z | apply Nth.s)) rfl rfl rfl ?_; refine o_lenS Tryz.underlying23 rfl rfl ?_; refine o_move rfl rfl ?_; refine triL_nilN ?_; refine tri_block ?_; refine tri_loop (ι := Nat) (F := fun i => [(1, .pointer (some ⟨b1, 0, none⟩)), (3, .pointer (some ⟨b3, 0, none⟩)), (4, .bool (((nameOk s.t && nameOk s.n) && upTo s.on.length 16) && allT (fun i => nameOk (s.on.getD i [])) i)), (98, .slice y.N.A s.on.length y.N.k), (99, .int .i64 (s.on.length : Int)), (100, .int .i64 (i : Int))]) (HH := fun i => [box b3 37 (stCs { StmtX.zero with k := s.k, t := s.t, n := s.n, on := s.on, un := s.un } { Lay.nil with N := y.N }), box b1 37 (stCs s y)]) (Pu := fun i => i ≤ s.on.length) (μ := fun i => s.on.length - i) (0) (.cons rfl (.cons rfl (.cons (congrArg (fun b => some (Value.bool b)) (by simp [allT])) (.cons rfl (.cons rfl (.cons rfl (.nil _))))))) (fun _ h => h) (Nat.zero_le _) (fun i hi => ?_); refine tri_seq (tri_region ?_); refine o_lss rfl rfl rfl ?_; refine triL_nilN ?_; refine tri_seq ?_; refine tri_if rfl (fun qb => ?_) (fun qb => ?_)
          · skip
            have hil : i < s.on.length := by omega
            refine tri_skip ?_; refine thenQ_normal ?_; refine tri_seq ?_; refine tri_block ?_; refine tri_seq ?_
            have hci := name_at hN i hil
            refine tri_region ?_; refine o_idxS Tryz.underlying23 sz9 rfl rfl rfl (hN.rd0 _ _ rfl rfl) (by omega) (by omega) hN.len (by decide) ?_; refine o_loadR agg9 rfl rfl (hN.rd0 _ _ rfl rfl) (take_get hci (j := 0) rfl) ?_; refine o_assignN rfl rfl ?_; refine tri_region ?_; refine o_move rfl rfl ?_; refine o_move rfl rfl ?_
            refine' triL_and [_, _] [(1, _), (3, _), (4, _), (98, _), (99, _), (100, _)] (dj := 105) (dr := 107) rfl rfl (fun g7 => ?_) ⟨_, rfl, rfl, rfl, (.cons rfl (.cons rfl (.cons rfl (.cons rfl (.cons rfl (.cons rfl (.nil _)))))))⟩ rfl ?_
            rotate_left
            · skip
              refine o_move rfl rfl ?_; refine o_callP (first := []) (cap := []) rfl rfl rfl Tryz.call30 (fun w1 h1 => namedR (s.on.getD i []) w1 (hbd.on i hil)) ?_
              exact triL_nil (Piece.mk rfl rfl (.cons rfl (.cons rfl (.cons rfl (.cons rfl (.cons rfl (.cons rfl (.nil _))))))) (fun _ h => h))
            refine o_assign rfl rfl ?_; refine triL_nil ?_; refine blockQ_normal ?_; refine thenQ_normal ?_; refine tri_region ?_; refine o_addN rfl rfl rfl (by omega) ?_; refine o_move rfl rfl ?_; refine triL_nilN ?_
            exact ⟨i + 1, (.cons rfl (.cons rfl (.cons (congrArg (fun b => some (Value.bool b)) (by exact name_step ((nameOk s.t && nameOk s.n) && upTo s.on.length 16) (fun i => s.on.getD i []) i)) (.cons rfl (.cons rfl (.cons rfl (.nil _))))))), (fun w2 hw2 => hw2), by omega, by omega⟩
          · skip
            have hie : i = s.on.length := by omega
            rw [hie]
            refine tri_exit ?_; refine thenQ_exit ?_; refine thenQ_exit ?_; refine blockQ_here ?_; refine blockQ_normal ?_; refine thenQ_normal ?_
            exact ⟨({ StmtX.zero with k := s.k, t := s.t, n := s.n, on := s.on, un := s.un }, { Lay.nil with N := y.N }), (.cons rfl (.cons rfl (.cons (congrArg (fun b => some (Value.bool b)) (by rw [part_3 q3]; simp only [Bool.and_assoc])) (.nil _)))), fun _ h => h, by rw [keep_3 q3]; simp only [q3]⟩
        · skip
          refine tri_seq (tri_region ?_); refine o_eqlI rfl rfl rfl ?_; refine o_assignN rfl rfl ?_; refine tri_if rfl (fun q4 => ?_) (fun q4 => ?_)
          · skip
            refine tri_seq ?_; refine tri_slots [(3, _), (1, _)] (.cons rfl (.cons rfl (.nil _))) ?_; refine tri_region ?_; refine o_field fo37_2 rfl rfl ?_; refine o_load agg9 (by repeat (first | exact Nth.z | apply Nth.s)) rfl rfl rfl ?_; refine o_field fo37_2 rfl rfl ?_; refine o_storeN (stCs { StmtX.zero with k := s.k, n := s.n } Lay.nil) sz9 .z rfl rfl rfl rfl rfl (Nat.le_of_ble_eq_true rfl) rfl rfl ?_; refine triL_nilN ?_; refine tri_region ?_; refine o_field fo37_2 rfl rfl ?_; refine o_load agg9 (by repeat (first | exact Nth.z | apply Nth.s)) rfl rfl rfl ?_; refine o_callP (first := []) (cap := []) rfl rfl rfl Tryz.call30 (fun w1 h1 => namedR s.n w1 hbd.n) ?_; refine o_assign rfl rfl ?_; refine triL_nil ?_; refine blockQ_normal ?_; refine thenQ_normal ?_
            exact ⟨({ StmtX.zero with k := s.k, n := s.n }, Lay.nil), (.cons rfl (.cons rfl (.cons (congrArg (fun b => some (Value.bool b)) (by exact (part_4 q4).symm)) (.nil _)))), fun _ h => h, by rw [keep_4 q4]; simp only [q4]⟩
          · skip
            refine tri_seq ?_; refine tri_slots [(19, _), (4, _), (3, _), (1, _)] (.cons rfl (.cons rfl (.cons rfl (.cons rfl (.nil _))))) ?_; refine tri_region ?_; refine o_eqlI rfl rfl rfl ?_; refine o_assignN rfl rfl ?_; refine tri_if rfl (fun q5 => ?_) (fun q5 => ?_)
            · skip
              refine tri_seq ?_; refine tri_slots [(3, _), (1, _)] (.cons rfl (.cons rfl (.nil _))) ?_; refine tri_mix ([box b1 37 (stCs s y)]) [(0, true), (1, true), (2, true), (3, true), (4, true), (5, false), (6, false), (7, false)] [6, 7] (by kernel_rfl) (by kernel_rfl) (fun _ h => Sat.dropS 1 h) ?_; refine mix_fix rfl ?_; refine o_field fo37_1 rfl rfl ?_; refine triL_nil ⟨rfl, mix_fix rfl ?_⟩; refine o_load agg9 (by repeat (first | exact Nth.z | apply Nth.s)) rfl rfl rfl ?_; refine triL_nil ⟨rfl, mix_fix rfl ?_⟩; refine o_field fo37_6 rfl rfl ?_; refine triL_nil ⟨rfl, mix_fix rfl ?_⟩; refine o_load agg24 (by repeat (first | exact Nth.z | apply Nth.s)) rfl rfl rfl ?_; refine triL_nil ⟨rfl, mix_fix rfl ?_⟩; refine o_field fo37_1 rfl rfl ?_; refine triL_nil ⟨rfl, ?_⟩; refine mix_op rfl ?_; refine o_storeN (stCs { StmtX.zero with k := s.k, t := s.t } Lay.nil) sz9 .z rfl rfl rfl rfl rfl (Nat.le_of_ble_eq_true rfl) rfl rfl ?_; refine triL_nil ⟨rfl, fun _ _ h => Sat.dropS 1 h, ?_⟩; refine mix_rest [6, 7] [_, _] rfl rfl ?_; refine o_field fo37_6 rfl rfl ?_; refine o_storeN (stCs { StmtX.zero with k := s.k, t := s.t, rows := s.rows } { Lay.nil with R := y.R }) sz24 .z rfl rfl rfl rfl rfl (Nat.le_of_ble_eq_true rfl) rfl rfl ?_; refine triL_nil ⟨rfl, ?_⟩; refine thenQ_normal ?_; refine tri_seq ?_; refine tri_slots [(3, _), (1, _)] (.cons rfl (.cons rfl (.nil _))) ?_; refine tri_region ?_; refine o_field fo37_1 rfl rfl ?_; refine o_load agg9 (by repeat (first | exact Nth.z | apply Nth.s)) rfl rfl rfl ?_; refine o_callP (first := []) (cap := []) rfl rfl rfl Tryz.call30 (fun w1 h1 => namedR s.t w1 hbd.t) ?_; refine o_move rfl rfl ?_
              refine' triL_and [_, _, _, _] [(3, _), (1, _)] (dj := 129) (dr := 133) rfl rfl (fun g8 => ?_) ⟨_, rfl, rfl, rfl, (.cons rfl (.cons rfl (.nil _)))⟩ rfl ?_
              rotate_left
              · skip
                refine o_field fo37_6 rfl rfl ?_; refine o_load agg24 (by repeat (first | exact Nth.z | apply Nth.s)) rfl rfl rfl ?_; refine o_lenS Tryz.underlying24 rfl rfl ?_; refine o_gtr rfl rfl rfl ?_
                exact triL_nil (Piece.mk rfl rfl (.cons rfl (.cons rfl (.nil _))) (fun _ h => h))
              refine o_assignN rfl rfl ?_; refine tri_seq (tri_region ?_); refine o_field fo37_6 rfl rfl ?_; refine o_load agg24 (by repeat (first | exact Nth.z | apply Nth.s)) rfl rfl rfl ?_; refine o_lenS Tryz.underlying24 rfl rfl ?_; refine o_move rfl rfl ?_; refine triL_nilN ?_; refine tri_block ?_; refine tri_loop (ι := Nat) (F := fun i => [(1, .pointer (some ⟨b1, 0, none⟩)), (3, .pointer (some ⟨b3, 0, none⟩)), (4, .bool ((nameOk s.t && decide (0 < (s.rows.length : Int))) && allT (fun i => mayRow (s.rows.getD i [])) i)), (136, .slice y.R.A s.rows.length y.R.k), (137, .int .i64 (s.rows.length : Int)), (138, .int .i64 (i : Int))]) (HH := fun i => [box b3 37 (stCs { StmtX.zero with k := s.k, t := s.t, rows := s.rows } { Lay.nil with R := y.R }), box b1 37 (stCs s y)]) (Pu := fun i => i ≤ s.rows.length) (μ := fun i => s.rows.length - i) (0) (.cons rfl (.cons rfl (.cons (congrArg (fun b => some (Value.bool b)) (by simp [allT])) (.cons rfl (.cons rfl (.cons rfl (.nil _))))))) (fun _ h => h) (Nat.zero_le _) (fun i hi => ?_); refine tri_seq (tri_region ?_); refine o_lss rfl rfl rfl ?_; refine triL_nilN ?_; refine tri_seq ?_; refine tri_if rfl (fun qc => ?_) (fun qc => ?_)
              · skip
                have hil : i < s.rows.length := by omega
                have nr : (s.rows.getD i []).length ≤ 70368744177664 := (hbd.rows i hil).1
                refine tri_skip ?_; refine thenQ_normal ?_; refine tri_seq ?_; refine tri_block ?_; refine tri_seq ?_
                obtain ⟨yr, xr, hcr, hRr⟩ := rows_at hR_ i hil
                refine tri_region ?_; refine o_idxS Tryz.underlying24 sz28 rfl rfl rfl (hR_.rd0 _ _ rfl rfl) (by omega) (by omega) hR_.len (by decide) ?_; refine o_loadR agg28 rfl rfl (hR_.rd0 _ _ rfl rfl) (take_get hcr (j := 0) rfl) ?_; refine o_assignN rfl rfl ?_; refine tri_seq (tri_region ?_); refine o_move rfl rfl ?_; refine o_move rfl rfl ?_
                refine' triL_and [_, _, _] [(10, _), (1, _), (3, _), (4, _), (136, _), (137, _), (138, _)] (dj := 143) (dr := 146) rfl rfl (fun g9 => ?_) ⟨_, rfl, rfl, rfl, (.cons rfl (.cons rfl (.cons rfl (.cons rfl (.cons rfl (.cons rfl (.cons rfl (.nil _))))))))⟩ rfl ?_
                rotate_left
                · skip
                  refine o_move rfl rfl ?_; refine o_lenS Tryz.underlying28 rfl rfl ?_; refine o_callP (first := []) (cap := []) rfl rfl rfl Tryz.call31 (fun w1 h1 => upToK (s.rows.getD i []).length 16 w1) ?_
                  exact triL_nil (Piece.mk rfl rfl (.cons rfl (.cons rfl (.cons rfl (.cons rfl (.cons rfl (.cons rfl (.cons rfl (.nil _)))))))) (fun _ h => h))
                refine o_assignN rfl rfl ?_; refine tri_seq (tri_region ?_); refine o_move rfl rfl ?_; refine o_lenS Tryz.underlying28 rfl rfl ?_; refine o_move rfl rfl ?_; refine triL_nilN ?_; refine tri_block ?_; refine tri_loop (ι := Nat) (F := fun k => [(1, .pointer (some ⟨b1, 0, none⟩)), (3, .pointer (some ⟨b3, 0, none⟩)), (4, .bool ((((nameOk s.t && decide (0 < (s.rows.length : Int))) && allT (fun i => mayRow (s.rows.getD i [])) i) && upTo (s.rows.getD i []).length 16) && allT (fun k => ((s.rows.getD i []).getD k Ex.zero).may) k)), (136, .slice y.R.A s.rows.length y.R.k), (137, .int .i64 (s.rows.length : Int)), (138, .int .i64 (i : Int)), (148, .slice yr.A (s.rows.getD i []).length yr.k), (149, .int .i64 ((s.rows.getD i []).length : Int)), (150, .int .i64 (k : Int))]) (HH := fun k => [box b3 37 (stCs { StmtX.zero with k := s.k, t := s.t, rows := s.rows } { Lay.nil with R := y.R }), box b1 37 (stCs s y)]) (Pu := fun k => k ≤ (s.rows.getD i []).length) (μ := fun k => (s.rows.getD i []).length - k) (0) (.cons rfl (.cons rfl (.cons (congrArg (fun b => some (Value.bool b)) (by simp [allT])) (.cons rfl (.cons rfl (.cons rfl (.cons rfl (.cons rfl (.cons rfl (.nil _)))))))))) (fun _ h => h) (Nat.zero_le _) (fun k hk => ?_); refine tri_seq (tri_region ?_); refine o_lss rfl rfl rfl ?_; refine triL_nilN ?_; refine tri_seq ?_; refine tri_if rfl (fun qd => ?_) (fun qd => ?_)
                · skip
                  have hkl : k < (s.rows.getD i []).length := by omega
                  refine tri_skip ?_; refine thenQ_normal ?_; refine tri_seq ?_; refine tri_block ?_; refine tri_seq ?_
                  obtain ⟨ye, hci, hye⟩ := ex_at hRr k hkl
                  refine tri_region ?_; refine o_idxS Tryz.underlying28 sz30 rfl rfl rfl (hRr.rd0 _ _ rfl rfl) (by omega) (by omega) hRr.len (by decide) ?_; refine o_loadRA agg30 sz30 rfl rfl (hRr.rd0 _ _ rfl rfl) (vs := exCs ((s.rows.getD i []).getD k Ex.zero) ye) hci rfl (by decide) ?_; refine o_alloc _ rfl zero30 rfl (fun b12 => ?_); refine o_store sz30 (by repeat (first | exact Nth.z | apply Nth.s)) rfl rfl rfl rfl rfl (Nat.le_of_ble_eq_true rfl) rfl ?_; refine triL_nilN ?_; refine tri_region ?_; refine o_move rfl rfl ?_; refine o_move rfl rfl ?_
                  refine' triL_and [_, _] [(1, _), (3, _), (4, _), (136, _), (137, _), (138, _), (148, _), (149, _), (150, _)] (dj := 155) (dr := 157) rfl rfl (fun g10 => ?_) ⟨_, rfl, rfl, rfl, (.cons rfl (.cons rfl (.cons rfl (.cons rfl (.cons rfl (.cons rfl (.cons rfl (.cons rfl (.cons rfl (.nil _))))))))))⟩ rfl ?_
                  rotate_left
                  · skip
                    refine o_loadA agg30 sz30 .z rfl rfl (vs := exCs ((s.rows.getD i []).getD k Ex.zero) ye) rfl rfl ?_; refine o_callP (first := []) (cap := []) rfl rfl rfl Tryz.call32 (fun w1 h1 => mayXE ((s.rows.getD i []).getD k Ex.zero) bl ye w1 (hye.stab (fun k hk => h1.chg.block k (hbl k hk) (by simp))) (hok.rows i hil k hkl) ((hbd.rows i hil).2 k hkl)) ?_
                    exact triL_nil (Piece.mk rfl rfl (.cons rfl (.cons rfl (.cons rfl (.cons rfl (.cons rfl (.cons rfl (.cons rfl (.cons rfl (.cons rfl (.nil _)))))))))) (fun _ h => h))
                  refine o_assign rfl rfl ?_; refine triL_nil ?_; refine blockQ_normal ?_; refine thenQ_normal ?_; refine tri_region ?_; refine o_addN rfl rfl rfl (by omega) ?_; refine o_move rfl rfl ?_; refine triL_nilN ?_
                  exact ⟨k + 1, (.cons rfl (.cons rfl (.cons (congrArg (fun b => some (Value.bool b)) (by exact ex_step (((nameOk s.t && decide (0 < (s.rows.length : Int))) && allT (fun i => mayRow (s.rows.getD i [])) i) && upTo (s.rows.getD i []).length 16) (fun k => (s.rows.getD i []).getD k Ex.zero) k)) (.cons rfl (.cons rfl (.cons rfl (.cons rfl (.cons rfl (.cons rfl (.nil _)))))))))), (fun w2 hw2 => hw2.tail), by omega, by omega⟩
                · skip
                  have hke : k = (s.rows.getD i []).length := by omega
                  rw [hke]
                  refine tri_exit ?_; refine thenQ_exit ?_; refine thenQ_exit ?_; refine blockQ_here ?_; refine blockQ_normal ?_; refine thenQ_normal ?_; refine tri_slots [(1, _), (3, _), (4, _), (136, _), (137, _), (138, _)] (.cons rfl (.cons rfl (.cons rfl (.cons rfl (.cons rfl (.cons rfl (.nil _))))))) ?_; refine tri_region ?_; refine o_addN rfl rfl rfl (by omega) ?_; refine o_move rfl rfl ?_; refine triL_nilN ?_
                  exact ⟨i + 1, (.cons rfl (.cons rfl (.cons (congrArg (fun b => some (Value.bool b)) (by exact row_step (nameOk s.t && decide (0 < (s.rows.length : Int))) (fun i => s.rows.getD i []) i)) (.cons rfl (.cons rfl (.cons rfl (.nil _))))))), (fun w2 hw2 => hw2), by omega, by omega⟩
              · skip
                have hie : i = s.rows.length := by omega
                rw [hie]
                refine tri_exit ?_; refine thenQ_exit ?_; refine thenQ_exit ?_; refine blockQ_here ?_; refine blockQ_normal ?_; refine thenQ_normal ?_
                exact ⟨({ StmtX.zero with k := s.k, t := s.t, rows := s.rows }, { Lay.nil with R := y.R }), (.cons rfl (.cons rfl (.cons (congrArg (fun b => some (Value.bool b)) (by rw [part_5 q5, Bool.and_assoc]; congr 2; exact decide_eq_decide.2 (by omega))) (.nil _)))), fun _ h => h, by rw [keep_5 q5]; simp only [q5]⟩
            · skip
              refine tri_seq (tri_region ?_); refine o_eqlI rfl rfl rfl ?_; refine o_assignN rfl rfl ?_; refine tri_if rfl (fun q6 => ?_) (fun q6 => ?_)
              · skip
                refine tri_seq ?_; refine tri_slots [(3, _), (1, _)] (.cons rfl (.cons rfl (.nil _))) ?_; refine tri_mix ([box b1 37 (stCs s y)]) [(0, true), (1, true), (2, true), (3, true), (4, true), (5, false), (6, false), (7, false)] [6, 7] (by kernel_rfl) (by kernel_rfl) (fun _ h => Sat.dropS 1 h) ?_; refine mix_fix rfl ?_; refine o_field fo37_1 rfl rfl ?_; refine triL_nil ⟨rfl, mix_fix rfl ?_⟩; refine o_load agg9 (by repeat (first | exact Nth.z | apply Nth.s)) rfl rfl rfl ?_; refine triL_nil ⟨rfl, mix_fix rfl ?_⟩; refine o_field fo37_8 rfl rfl ?_; refine triL_nil ⟨rfl, mix_fix rfl ?_⟩; refine o_loadA agg30 sz30 .z rfl rfl (vs := exCs s.wh y.W) rfl rfl ?_; refine triL_nil ⟨rfl, mix_fix rfl ?_⟩; refine o_field fo37_1 rfl rfl ?_; refine triL_nil ⟨rfl, ?_⟩; refine mix_op rfl ?_; refine o_storeN (stCs { StmtX.zero with k := s.k, t := s.t } Lay.nil) sz9 .z rfl rfl rfl rfl rfl (Nat.le_of_ble_eq_true rfl) rfl rfl ?_; refine triL_nil ⟨rfl, fun _ _ h => Sat.dropS 1 h, ?_⟩; refine mix_rest [6, 7] [_, _] rfl rfl ?_; refine o_field fo37_8 rfl rfl ?_; refine o_storeN (stCs { StmtX.zero with k := s.k, t := s.t, wh := s.wh } { Lay.nil with W := y.W }) sz30 .z rfl rfl rfl rfl rfl (Nat.le_of_ble_eq_true rfl) rfl rfl ?_; refine triL_nil ⟨rfl, ?_⟩; refine thenQ_normal ?_; refine tri_slots [(3, _), (1, _)] (.cons rfl (.cons rfl (.nil _))) ?_; refine tri_region ?_; refine o_field fo37_1 rfl rfl ?_; refine o_load agg9 (by repeat (first | exact Nth.z | apply Nth.s)) rfl rfl rfl ?_; refine o_callP (first := []) (cap := []) rfl rfl rfl Tryz.call30 (fun w1 h1 => namedR s.t w1 hbd.t) ?_; refine o_move rfl rfl ?_
                refine' triL_and [_, _, _] [(3, _), (1, _)] (dj := 172) (dr := 175) rfl rfl (fun g11 => ?_) ⟨_, rfl, rfl, rfl, (.cons rfl (.cons rfl (.nil _)))⟩ rfl ?_
                rotate_left
                · skip
                  refine o_field fo37_8 rfl rfl ?_; refine o_loadA agg30 sz30 (.s .z) rfl rfl (vs := exCs s.wh y.W) rfl rfl ?_; refine o_callP (first := []) (cap := []) rfl rfl rfl Tryz.call33 (fun w1 h1 => maybeK s.wh y.W bl w1 (hW.stab (fun k hk => h1.chg.block k (hbl k hk) (by simp))) hok.wh hbd.wh (fun k hk => Nat.lt_of_lt_of_le (hbl k hk) h1.chg.size)) ?_
                  exact triL_nil (Piece.mk rfl rfl (.cons rfl (.cons rfl (.nil _))) (fun _ h => h))
                refine o_assign rfl rfl ?_; refine triL_nil ?_; refine blockQ_normal ?_; refine thenQ_normal ?_
                exact ⟨({ StmtX.zero with k := s.k, t := s.t, wh := s.wh }, { Lay.nil with W := y.W }), (.cons rfl (.cons rfl (.cons (congrArg (fun b => some (Value.bool b)) (by exact (part_6 q6).symm)) (.nil _)))), fun _ h => h, by rw [keep_6 q6]; simp only [q6]⟩
              · skip
                refine tri_seq ?_; refine tri_slots [(19, _), (4, _), (3, _), (1, _)] (.cons rfl (.cons rfl (.cons rfl (.cons rfl (.nil _))))) ?_; refine tri_region ?_; refine o_eqlI rfl rfl rfl ?_; refine o_assignN rfl rfl ?_; refine tri_if rfl (fun q7 => ?_) (fun q7 => ?_)
                · skip
                  refine tri_seq ?_; refine tri_slots [(3, _), (1, _)] (.cons rfl (.cons rfl (.nil _))) ?_; refine tri_mix ([box b1 37 (stCs s y)]) [(0, true), (1, true), (2, true), (3, true), (4, true), (5, true), (6, true), (7, false), (8, true), (9, false), (10, false), (11, false)] [10, 11] (by kernel_rfl) (by kernel_rfl) (fun _ h => Sat.dropS 1 h) ?_; refine mix_fix rfl ?_; refine o_field fo37_1 rfl rfl ?_; refine triL_nil ⟨rfl, mix_fix rfl ?_⟩; refine o_load agg9 (by repeat (first | exact Nth.z | apply Nth.s)) rfl rfl rfl ?_; refine triL_nil ⟨rfl, mix_fix rfl ?_⟩; refine o_field fo37_7 rfl rfl ?_; refine triL_nil ⟨rfl, mix_fix rfl ?_⟩; refine o_load agg25 (by repeat (first | exact Nth.z | apply Nth.s)) rfl rfl rfl ?_; refine triL_nil ⟨rfl, mix_fix rfl ?_⟩; refine o_field fo37_8 rfl rfl ?_; refine triL_nil ⟨rfl, mix_fix rfl ?_⟩; refine o_loadA agg30 sz30 .z rfl rfl (vs := exCs s.wh y.W) rfl rfl ?_; refine triL_nil ⟨rfl, mix_fix rfl ?_⟩; refine o_field fo37_1 rfl rfl ?_; refine triL_nil ⟨rfl, ?_⟩; refine mix_op rfl ?_; refine o_storeN (stCs { StmtX.zero with k := s.k, t := s.t } Lay.nil) sz9 .z rfl rfl rfl rfl rfl (Nat.le_of_ble_eq_true rfl) rfl rfl ?_; refine triL_nil ⟨rfl, fun _ _ h => Sat.dropS 1 h, ?_⟩; refine mix_fix rfl ?_; refine o_field fo37_7 rfl rfl ?_; refine triL_nil ⟨rfl, ?_⟩; refine mix_op rfl ?_; refine o_storeN (stCs { StmtX.zero with k := s.k, t := s.t, sets := s.sets } { Lay.nil with S := y.S }) sz25 .z rfl rfl rfl rfl rfl (Nat.le_of_ble_eq_true rfl) rfl rfl ?_; refine triL_nil ⟨rfl, fun _ _ h => Sat.dropS 1 h, ?_⟩; refine mix_rest [10, 11] [_, _] rfl rfl ?_; refine o_field fo37_8 rfl rfl ?_; refine o_storeN (stCs { StmtX.zero with k := s.k, t := s.t, sets := s.sets, wh := s.wh } { Lay.nil with S := y.S, W := y.W }) sz30 .z rfl rfl rfl rfl rfl (Nat.le_of_ble_eq_true rfl) rfl rfl ?_; refine triL_nil ⟨rfl, ?_⟩; refine thenQ_normal ?_; refine tri_seq ?_; refine tri_slots [(3, _), (1, _)] (.cons rfl (.cons rfl (.nil _))) ?_; refine tri_region ?_; refine o_field fo37_1 rfl rfl ?_; refine o_load agg9 (by repeat (first | exact Nth.z | apply Nth.s)) rfl rfl rfl ?_; refine o_callP (first := []) (cap := []) rfl rfl rfl Tryz.call30 (fun w1 h1 => namedR s.t w1 hbd.t) ?_; refine o_move rfl rfl ?_
                  refine' triL_and [_, _, _, _] [(3, _), (1, _)] (dj := 191) (dr := 195) rfl rfl (fun g12 => ?_) ⟨_, rfl, rfl, rfl, (.cons rfl (.cons rfl (.nil _)))⟩ rfl ?_
                  rotate_left
                  · skip
                    refine o_field fo37_7 rfl rfl ?_; refine o_load agg25 (by repeat (first | exact Nth.z | apply Nth.s)) rfl rfl rfl ?_; refine o_lenS Tryz.underlying25 rfl rfl ?_; refine o_callP (first := []) (cap := []) rfl rfl rfl Tryz.call31 (fun w1 h1 => upToK s.sets.length 16 w1) ?_
                    exact triL_nil (Piece.mk rfl rfl (.cons rfl (.cons rfl (.nil _))) (fun _ h => h))
                  refine o_move rfl rfl ?_
                  refine' triL_and [_, _, _] [(3, _), (1, _)] (dj := 197) (dr := 200) rfl rfl (fun g13 => ?_) ⟨_, rfl, rfl, rfl, (.cons rfl (.cons rfl (.nil _)))⟩ rfl ?_
                  rotate_left
                  · skip
                    refine o_field fo37_8 rfl rfl ?_; refine o_loadA agg30 sz30 (.s .z) rfl rfl (vs := exCs s.wh y.W) rfl rfl ?_; refine o_callP (first := []) (cap := []) rfl rfl rfl Tryz.call33 (fun w1 h1 => maybeK s.wh y.W bl w1 (hW.stab (fun k hk => h1.chg.block k (hbl k hk) (by simp))) hok.wh hbd.wh (fun k hk => Nat.lt_of_lt_of_le (hbl k hk) h1.chg.size)) ?_
                    exact triL_nil (Piece.mk rfl rfl (.cons rfl (.cons rfl (.nil _))) (fun _ h => h))
                  refine o_assignN rfl rfl ?_; refine tri_seq (tri_region ?_); refine o_field fo37_7 rfl rfl ?_; refine o_load agg25 (by repeat (first | exact Nth.z | apply Nth.s)) rfl rfl rfl ?_; refine o_lenS Tryz.underlying25 rfl rfl ?_; refine o_move rfl rfl ?_; refine triL_nilN ?_; refine tri_block ?_; refine tri_loop (ι := Nat) (F := fun i => [(1, .pointer (some ⟨b1, 0, none⟩)), (3, .pointer (some ⟨b3, 0, none⟩)), (4, .bool (((nameOk s.t && upTo s.sets.length 16) && mayb s.wh) && allT (fun i => maySet (s.sets.getD i SetX.zero)) i)), (203, .slice y.S.A s.sets.length y.S.k), (204, .int .i64 (s.sets.length : Int)), (205, .int .i64 (i : Int))]) (HH := fun i => [box b3 37 (stCs { StmtX.zero with k := s.k, t := s.t, sets := s.sets, wh := s.wh } { Lay.nil with S := y.S, W := y.W }), box b1 37 (stCs s y)]) (Pu := fun i => i ≤ s.sets.length) (μ := fun i => s.sets.length - i) (0) (.cons rfl (.cons rfl (.cons (congrArg (fun b => some (Value.bool b)) (by simp [allT])) (.cons rfl (.cons rfl (.cons rfl (.nil _))))))) (fun _ h => h) (Nat.zero_le _) (fun i hi => ?_); refine tri_seq (tri_region ?_); refine o_lss rfl rfl rfl ?_; refine triL_nilN ?_; refine tri_seq ?_; refine tri_if rfl (fun qe => ?_) (fun qe => ?_)
                  · skip
                    have hil : i < s.sets.length := by omega
                    refine tri_skip ?_; refine thenQ_normal ?_; refine tri_seq ?_; refine tri_block ?_; refine tri_seq ?_
                    obtain ⟨ye, hci, hye⟩ := set_at hS i hil
                    refine tri_region ?_; refine o_idxS Tryz.underlying25 sz82 rfl rfl rfl (hS.rd0 _ _ rfl rfl) (by omega) (by omega) hS.len (by decide) ?_; refine o_loadRA agg82 sz82 rfl rfl (hS.rd0 _ _ rfl rfl) (vs := Value.string (B (s.sets.getD i SetX.zero).n) :: exCs (s.sets.getD i SetX.zero).e ye) hci rfl (by decide) ?_; refine o_alloc _ rfl zero82 rfl (fun b14 => ?_); refine o_store sz82 (by repeat (first | exact Nth.z | apply Nth.s)) rfl rfl rfl rfl rfl (Nat.le_of_ble_eq_true rfl) rfl ?_; refine triL_nilN ?_; refine tri_region ?_; refine o_move rfl rfl ?_; refine o_move rfl rfl ?_
                    refine' triL_and [_, _, _] [(14, _), (1, _), (3, _), (4, _), (203, _), (204, _), (205, _)] (dj := 210) (dr := 213) rfl rfl (fun g14 => ?_) ⟨_, rfl, rfl, rfl, (.cons rfl (.cons rfl (.cons rfl (.cons rfl (.cons rfl (.cons rfl (.cons rfl (.nil _))))))))⟩ rfl ?_
                    rotate_left
                    · skip
                      refine o_field fo82_0 rfl rfl ?_; refine o_load agg9 (by repeat (first | exact Nth.z | apply Nth.s)) rfl rfl rfl ?_; refine o_callP (first := []) (cap := []) rfl rfl rfl Tryz.call30 (fun w1 h1 => namedR (s.sets.getD i SetX.zero).n w1 (hbd.sets i hil).2) ?_
                      exact triL_nil (Piece.mk rfl rfl (.cons rfl (.cons rfl (.cons rfl (.cons rfl (.cons rfl (.cons rfl (.cons rfl (.nil _)))))))) (fun _ h => h))
                    refine o_move rfl rfl ?_
                    refine' triL_and [_, _, _] [(1, _), (3, _), (4, _), (203, _), (204, _), (205, _)] (dj := 215) (dr := 218) rfl rfl (fun g15 => ?_) ⟨_, rfl, rfl, rfl, (.cons rfl (.cons rfl (.cons rfl (.cons rfl (.cons rfl (.cons rfl (.nil _)))))))⟩ rfl ?_
                    rotate_left
                    · skip
                      refine o_field fo82_1 rfl rfl ?_; refine o_loadA agg30 sz30 .z rfl rfl (vs := exCs (s.sets.getD i SetX.zero).e ye) rfl rfl ?_; refine o_callP (first := []) (cap := []) rfl rfl rfl Tryz.call32 (fun w1 h1 => mayXE (s.sets.getD i SetX.zero).e bl ye w1 (hye.stab (fun k hk => h1.chg.block k (hbl k hk) (by simp))) (hok.sets i hil) (hbd.sets i hil).1) ?_
                      exact triL_nil (Piece.mk rfl rfl (.cons rfl (.cons rfl (.cons rfl (.cons rfl (.cons rfl (.cons rfl (.nil _))))))) (fun _ h => h))
                    refine o_assign rfl rfl ?_; refine triL_nil ?_; refine blockQ_normal ?_; refine thenQ_normal ?_; refine tri_region ?_; refine o_addN rfl rfl rfl (by omega) ?_; refine o_move rfl rfl ?_; refine triL_nilN ?_
                    exact ⟨i + 1, (.cons rfl (.cons rfl (.cons (congrArg (fun b => some (Value.bool b)) (by exact set_step ((nameOk s.t && upTo s.sets.length 16) && mayb s.wh) (fun i => s.sets.getD i SetX.zero) i)) (.cons rfl (.cons rfl (.cons rfl (.nil _))))))), (fun w2 hw2 => hw2.tail), by omega, by omega⟩
                  · skip
                    have hie : i = s.sets.length := by omega
                    rw [hie]
                    refine tri_exit ?_; refine thenQ_exit ?_; refine thenQ_exit ?_; refine blockQ_here ?_; refine blockQ_normal ?_; refine thenQ_normal ?_
                    exact ⟨({ StmtX.zero with k := s.k, t := s.t, sets := s.sets, wh := s.wh }, { Lay.nil with S := y.S, W := y.W }), (.cons rfl (.cons rfl (.cons (congrArg (fun b => some (Value.bool b)) (by rw [part_7 q7]; simp only [Bool.and_assoc])) (.nil _)))), fun _ h => h, by rw [keep_7 q7]; simp only [q7]⟩
                · skip
                  refine tri_seq (tri_region ?_); refine o_eqlI rfl rfl rfl ?_; refine o_assignN rfl rfl ?_; refine tri_if rfl (fun q8 => ?_) (fun q8 => ?_)
                  · skip
                    refine tri_seq ?_; refine tri_slots [(3, _), (1, _)] (.cons rfl (.cons rfl (.nil _))) ?_; refine tri_region ?_; refine o_field fo37_9 rfl rfl ?_; refine o_loadA agg35 sz35 (.s .z) rfl rfl (vs := quCs s.q y.q) rfl rfl ?_; refine o_field fo37_9 rfl rfl ?_; refine o_storeN (stCs { StmtX.zero with k := s.k, q := s.q } { Lay.nil with q := y.q }) sz35 .z rfl rfl rfl rfl rfl (Nat.le_of_ble_eq_true rfl) rfl rfl ?_; refine triL_nilN ?_; refine tri_region ?_; refine o_field fo37_9 rfl rfl ?_; refine o_loadA agg35 sz35 (.s .z) rfl rfl (vs := quCs s.q y.q) rfl rfl ?_; refine o_callP (first := []) (cap := []) rfl rfl rfl Tryz.call34 (fun w1 h1 => mayQK s.q y.q bl w1 (hA.q.stab (fun k hk => h1.chg.block k (hbl k hk) (by simp))) (fun k hk => Nat.lt_of_lt_of_le (hbl k hk) h1.chg.size) hok.q hbd.q) ?_; refine o_assign rfl rfl ?_; refine triL_nil ?_; refine blockQ_normal ?_; refine thenQ_normal ?_
                    exact ⟨({ StmtX.zero with k := s.k, q := s.q }, { Lay.nil with q := y.q }), (.cons rfl (.cons rfl (.cons (congrArg (fun b => some (Value.bool b)) (by exact (part_8 q8).symm)) (.nil _)))), fun _ h => h, by rw [keep_8 q8]; simp only [q8]⟩
                  · skip
                    refine tri_join (ι := Nat) (fun i => [(1, .pointer (some ⟨b1, 0, none⟩)), (3, .pointer (some ⟨b3, 0, none⟩)), (4, .bool false), (229, .bool (decide (9 ≤ s.k ∧ s.k ≤ 11)))]) (fun i => [box b3 37 (stCs { StmtX.zero with k := s.k } Lay.nil), box b1 37 (stCs s y)]) (fun i => True) ?_ (fun i hj => ?_)
                    · skip
                      refine tri_seq ?_; refine tri_slots [(19, _), (4, _), (3, _), (1, _)] (.cons rfl (.cons rfl (.cons rfl (.cons rfl (.nil _))))) ?_; refine tri_region ?_; refine o_eqlI rfl rfl rfl ?_; refine o_assignN rfl rfl ?_; refine tri_if rfl (fun q9 => ?_) (fun q9 => ?_)
                      · skip
                        refine tri_skip ?_; refine thenQ_normal ?_
                        exact ⟨0, (.cons rfl (.cons rfl (.cons rfl (.cons (congrArg (fun b => some (Value.bool b)) (by rw [decide_eq_true q9, decide_eq_true (by omega)])) (.nil _))))), fun _ h => h, trivial⟩
                      · skip
                        refine tri_seq (tri_region ?_); refine o_eqlI rfl rfl rfl ?_; refine o_assignN rfl rfl ?_; refine tri_if rfl (fun q10 => ?_) (fun q10 => ?_)
                        · skip
                          refine tri_skip ?_; refine thenQ_normal ?_
                          exact ⟨0, (.cons rfl (.cons rfl (.cons rfl (.cons (congrArg (fun b => some (Value.bool b)) (by rw [decide_eq_true q10, decide_eq_true (by omega)])) (.nil _))))), fun _ h => h, trivial⟩
                        · skip
                          refine tri_region ?_; refine o_eqlI rfl rfl rfl ?_; refine o_assignN rfl rfl ?_
                          exact ⟨0, (.cons rfl (.cons rfl (.cons rfl (.cons (congrArg (fun b => some (Value.bool b)) (by exact decide_eq_decide.2 (by omega))) (.nil _))))), fun _ h => h, trivial⟩
                    refine tri_cond rfl (fun qz => ?_) (fun qz => ?_)
                    · skip
                      refine tri_region ?_; refine o_assign rfl rfl ?_; refine triL_nil ?_; refine blockQ_normal ?_; refine thenQ_normal ?_
                      exact ⟨({ StmtX.zero with k := s.k }, Lay.nil), (.cons rfl (.cons rfl (.cons (congrArg (fun b => some (Value.bool b)) (by rw [part_9 (by omega)]; exact qz.symm)) (.nil _)))), fun _ h => h, by rw [keep_9 (by omega)]⟩
                    · skip
                      refine tri_skip ?_; refine blockQ_normal ?_; refine thenQ_normal ?_
                      exact ⟨({ StmtX.zero with k := s.k }, Lay.nil), (.cons rfl (.cons rfl (.cons (congrArg (fun b => some (Value.bool b)) (by rw [part_9 (by omega)]; exact qz.symm)) (.nil _)))), fun _ h => h, by rw [keep_9 (by omega)]⟩
  refine tri_seq (tri_region ?_); refine o_move rfl rfl ?_; refine o_move rfl rfl ?_
  refine' triL_and [_, _, _] [] (dj := 234) (dr := 237) rfl rfl (fun g16 => ?_) ⟨_, rfl, rfl, rfl, (.nil _)⟩ rfl ?_
  rotate_left
  · skip
    refine o_loadA agg37 sz37 (.s .z) rfl rfl (vs := stCs s y) rfl rfl ?_; refine o_loadA agg37 sz37 .z rfl rfl (vs := stCs j.1 j.2) rfl rfl ?_; refine o_callP (first := []) (cap := []) rfl rfl rfl Tryz.call35 (fun w1 h1 => restK s j.1 y j.2 w1) ?_
    exact triL_nil (Piece.mk rfl rfl (.nil _) (fun _ h => h))
  refine o_assignN rfl rfl ?_; refine tri_ret ?_; refine end1 rfl rfl ?_
  exact fun w1 hw1 => ⟨congrArg (fun b => Ending.returned (.bool b)) (by rw [hj]; exact rest_may s), hw1.chg⟩
end Go.Proofs.YtjbpkcbefmpfgaaGreatDoor
namespace Go.Proofs.YtjbpkcbefmpfgaaGreatDoor
open Go.WK Go.RowKit 
theorem zero64 : (Tryz.prog.info? 64).map (·.zero) = some (some (.pointer none)) := by kernel_rfl
theorem sz64 : szB Tryz.prog 64 = some 1 := by kernel_rfl
set_option maxHeartbeats 2000000 in
theorem printStK (s : StmtX) (y : Lay) (bl : List Nat) (w : World) (hV : PV w [] bl) (hA : SAt bl w s y) (hok : SOk s) (hbd : SBd s) (hT : maySt s = true → (stmT s).1.length ≤ 70368744177664) : Calls Tryz.prog 8 #[.agg (stCs s y).toArray] w (Pure w (.tuple #[.string (B (prS s).1), .int .i64 (prS s).2])) := by
  refine calls_tri (args := [.agg (stCs s y).toArray]) (lent := []) (H := []) Tryz.func8 rfl Tryz.ntmps8 rfl (Sat.start _ _ _ _) ?_; refine (show Tri _ [(0, _)] _ _ _ from ?_)
  have hbl : ∀ k ∈ bl, k < w.heap.size := fun k hk => (hV.pe.lt k hk).1
  obtain ⟨xC, xN, xR, xS, xI, xF, xO, hC, hN, hR_, hS, hW, hQ⟩ := id hA
  have n1 : s.cols.length ≤ 70368744177664 := hbd.nc
  have n2 : s.on.length ≤ 70368744177664 := hbd.nn
  have n3 : s.rows.length ≤ 70368744177664 := hbd.nr
  unfold prS
  refine tri_seq (tri_region ?_); refine o_box _ rfl rfl rfl (fun b1 => ?_); refine o_assign rfl rfl ?_; refine o_assignN rfl rfl ?_; refine tri_seq ?_; refine tri_seq (tri_region ?_); refine o_loadA agg37 sz37 .z rfl rfl (vs := stCs s y) rfl rfl ?_; refine o_callP (first := []) (cap := []) rfl rfl rfl Tryz.call10 (fun w1 h1 => mayStK s y bl w1 (hA.stab (fun k hk => h1.chg.block k (hbl k hk) (by simp))) (fun k hk => Nat.lt_of_lt_of_le (hbl k hk) h1.chg.size) hok hbd) ?_; refine o_not rfl rfl ?_; refine triL_nilN ?_; refine tri_cond rfl (fun q0 => ?_) (fun q0 => ?_)
  · skip
    have q0 := not_true q0
    refine tri_seq ?_; refine tri_slots [] (.nil _) ?_; refine tri_region ?_; refine o_assign rfl rfl ?_; refine o_assignN rfl rfl ?_; refine tri_ret ?_; refine thenQ_ret ?_; refine end2 rfl rfl rfl ?_
    exact fun w1 hw1 => ⟨by rw [if_neg (ne_t q0)], hw1.chg⟩
  · skip
    have q0 := not_false q0
    refine tri_skip ?_; refine thenQ_normal ?_; refine tri_seq ?_; refine tri_slots [(1, _)] (.cons rfl (.nil _)) ?_; refine tri_region ?_; refine o_build built67 rfl rfl ?_; refine o_box _ rfl rfl rfl (fun b9 => ?_); refine o_alloc _ rfl zero64 rfl (fun b4 => ?_); refine o_store sz64 (by repeat (first | exact Nth.z | apply Nth.s)) rfl rfl rfl rfl rfl (Nat.le_of_ble_eq_true rfl) rfl ?_
    skip
    refine triL_nilN ?_; refine tri_join (ι := Option Addr × Nat) (fun j => [(4, .pointer (some ⟨b4, 0, none⟩))]) (fun j => [box b4 64 [.pointer (some ⟨b9, 0, none⟩)]] ++ prD b9 j.1 j.2 (stmT s).1 0 (max 0 ((stmT s).2 : Int))) (fun j => True) ?_ (fun j hj => ?_)
    · skip
      refine tri_seq ?_
      have hb := hT q0
      have hmy : partS s = true := by unfold maySt at q0; simp only [Bool.and_eq_true] at q0; exact q0.1
      refine Tri.heap (H' := [box b4 64 [.pointer (some ⟨b9, 0, none⟩)], box b1 37 (stCs s y)] ++ prD b9 none 0 [] 0 0) (fun w hw => (Sat.nilRow hw 5).sel [1, 3, 2, 0] (by decide)) ?_; refine tri_region ?_; refine o_field fo37_0 rfl rfl ?_; refine o_load agg3 (by repeat (first | exact Nth.z | apply Nth.s)) rfl rfl rfl ?_; refine triL_nilN ?_; refine tri_block ?_; refine tri_seq (tri_region ?_); refine o_eqlI rfl rfl rfl ?_; refine o_assignN rfl rfl ?_; refine tri_if rfl (fun q1 => ?_) (fun q1 => ?_)
      · skip
        rw [st_1 q1] at hb
        simp only [cat, raw, List.length_append, List.length_cons, List.length_nil] at hb
        rw [part_1 q1] at hmy
        simp only [Bool.and_eq_true] at hmy
        have hmc : ∀ i, i < s.cols.length → mayCol (s.cols.getD i ColX.zero) = true := fun i hi => allT_at hmy.2.2 hi
        refine tri_seq ?_; refine tri_slots [(4, _), (1, _)] (.cons rfl (.cons rfl (.nil _))) ?_; refine tri_region ?_; refine o_load agg64 (by repeat (first | exact Nth.z | apply Nth.s)) rfl rfl rfl ?_; refine o_field fo37_1 rfl rfl ?_; refine o_load agg9 (by repeat (first | exact Nth.z | apply Nth.s)) rfl rfl rfl ?_; refine o_lit (parts := [_, _, _]) (strsV [[99, 114, 101, 97, 116, 101, 32, 116, 97, 98, 108, 101, 32], s.t, [32, 40]]) Tryz.underlying23 zs9 rfl rfl rfl rfl (by decide) (by decide) (fun b20 => ?_); refine o_callPr (pb := b9) [_, _, _] rfl rfl rfl rfl Tryz.call20 (fun w1 h1 h2 h3 => addK [[99, 114, 101, 97, 116, 101, 32, 116, 97, 98, 108, 101, 32], s.t, [32, 40]] _ _ b9 _ _ _ _ _ w1 h2 (RdS.row .z w1 h1) (fun a ha => by cases ha; exact pr_apart h1 (fun x hx => (List.mem_cons_of_mem _ (List.mem_cons_of_mem _ hx))) rfl) (by (try simp only [List.length_append, List.length_cons, List.length_nil, List.flatten_cons, List.flatten_nil] at hb ⊢); omega) (by simp)) (fun A21 c21 => ?_); refine triL_nilN ?_; refine tri_seq ?_; refine tri_slots [(4, _), (1, _)] (.cons rfl (.cons rfl (.nil _))) ?_; refine tri_region ?_; refine o_load agg64 (by repeat (first | exact Nth.z | apply Nth.s)) rfl rfl rfl ?_; refine o_field fo37_3 rfl rfl ?_; refine o_load agg22 (by repeat (first | exact Nth.z | apply Nth.s)) rfl rfl rfl ?_; refine o_lenS Tryz.underlying22 rfl rfl ?_; refine o_makeFunc rfl rfl rfl ?_; refine o_callPr (pb := b9) [_, _, _] rfl rfl rfl rfl Tryz.call21 (fun w1 h1 h2 h3 => commasK (fun i => colT (s.cols.getD i ColX.zero)) s.cols.length 22 [] [.pointer (some ⟨b1, 0, none⟩), .pointer (some ⟨b4, 0, none⟩)] b9 _ _ _ _ w1 h2 (by omega) (by omega) (by (try simp only [List.nil_append, List.length_append, List.length_cons, List.length_nil, List.flatten_cons, List.flatten_nil] at hb ⊢); omega) Tryz.call22 (fun i A1 c1 l1 m1 w2 hi hs hP1 hm1 hb1 => by have hce := cenv (F := [_, _, _]) hV.pe h1 (.s .z) (.s (.s .z)); have hPV : PV w1 _ _ := ⟨hce.1, (hV.lv.chgL h1.chg (fun k hk => (hV.pe.g k hk).2))⟩; have hA2 := (hA.stab (hV.pe.st (PSub.of h1 h3))).mono (bl' := b4 :: b1 :: bl) (fun k hk => List.mem_cons_of_mem _ (List.mem_cons_of_mem _ hk)); exact print1K s y (b4 :: b1 :: bl) b4 b1 i b9 A1 c1 l1 m1 w2 hP1 hm1 (hPV.sub hs) (hce.2.stab (hce.1.st hs)) (hA2.stab (hce.1.st hs)) hi (hmc i hi) hb1)) (fun A27 c27 => ?_); refine triL_nilN ?_; refine tri_slots [(4, _)] (.cons rfl (.nil _)) ?_; refine tri_region ?_; refine o_load agg64 (by repeat (first | exact Nth.z | apply Nth.s)) rfl rfl rfl ?_; refine o_lit1 Tryz.underlying23 zs9 rfl rfl rfl rfl rfl (by decide) (by decide) (fun b29 => ?_); refine o_callPr (pb := b9) [_, _, _, _] rfl rfl rfl rfl Tryz.call20 (fun w1 h1 h2 h3 => addK [[41]] _ _ b9 _ _ _ _ _ w1 h2 (RdS.row .z w1 h1) (fun a ha => by cases ha; exact pr_apart h1 (fun x hx => (List.mem_cons_of_mem _ (List.mem_cons_of_mem _ (List.mem_cons_of_mem _ hx)))) rfl) (by (try simp only [List.nil_append, List.length_append, List.length_cons, List.length_nil, List.flatten_cons, List.flatten_nil] at hb ⊢); omega) (by simp)) (fun A30 c30 => ?_); refine triL_nil ?_; refine blockQ_normal ?_; refine thenQ_normal ?_
        exact ⟨(A30, c30), (.cons rfl (.nil _)), (fun w2 hw2 => prF_eq (by rw [st_1 q1]; simp [cat, raw]) rfl (by rw [st_1 q1]; simp only [cat, raw]; omega) (hw2.sel [2, 4, 5] (by decide))), trivial⟩
      · skip
        refine tri_seq ?_; refine tri_slots [(11, _), (4, _), (1, _)] (.cons rfl (.cons rfl (.cons rfl (.nil _)))) ?_; refine tri_region ?_; refine o_eqlI rfl rfl rfl ?_; refine o_assignN rfl rfl ?_; refine tri_if rfl (fun q2 => ?_) (fun q2 => ?_)
        · skip
          rw [st_2 q2] at hb
          simp only [raw, List.length_append, List.length_cons, List.length_nil] at hb
          refine tri_region ?_; refine o_load agg64 (by repeat (first | exact Nth.z | apply Nth.s)) rfl rfl rfl ?_; refine o_field fo37_1 rfl rfl ?_; refine o_load agg9 (by repeat (first | exact Nth.z | apply Nth.s)) rfl rfl rfl ?_; refine o_lit (parts := [_, _]) (strsV [[100, 114, 111, 112, 32, 116, 97, 98, 108, 101, 32], s.t]) Tryz.underlying23 zs9 rfl rfl rfl rfl (by decide) (by decide) (fun b36 => ?_); refine o_callPr (pb := b9) [_, _, _] rfl rfl rfl rfl Tryz.call20 (fun w1 h1 h2 h3 => addK [[100, 114, 111, 112, 32, 116, 97, 98, 108, 101, 32], s.t] _ _ b9 _ _ _ _ _ w1 h2 (RdS.row .z w1 h1) (fun a ha => by cases ha; exact pr_apart h1 (fun x hx => (List.mem_cons_of_mem _ (List.mem_cons_of_mem _ hx))) rfl) (by (try simp only [List.length_append, List.length_cons, List.length_nil, List.flatten_cons, List.flatten_nil] at hb ⊢); omega) (by simp)) (fun A37 c37 => ?_); refine triL_nil ?_; refine blockQ_normal ?_; refine thenQ_normal ?_
          exact ⟨(A37, c37), (.cons rfl (.nil _)), (fun w2 hw2 => prF_eq (by rw [st_2 q2]; simp [raw]) rfl (by rw [st_2 q2]; simp only [raw]; omega) (hw2.sel [1, 3, 4] (by decide))), trivial⟩
        · skip
          refine tri_seq (tri_region ?_); refine o_eqlI rfl rfl rfl ?_; refine o_assignN rfl rfl ?_; refine tri_if rfl (fun q3 => ?_) (fun q3 => ?_)
          · skip
            rw [st_3 q3] at hb
            simp only [cat, raw, List.length_append, List.length_cons, List.length_nil] at hb
            refine tri_seq ?_; refine tri_slots [(4, _), (1, _)] (.cons rfl (.cons rfl (.nil _))) ?_; refine tri_region ?_; refine o_load agg64 (by repeat (first | exact Nth.z | apply Nth.s)) rfl rfl rfl ?_; refine o_lit1 Tryz.underlying23 zs9 rfl rfl rfl rfl rfl (by decide) (by decide) (fun b41 => ?_); refine o_callPr (pb := b9) [_, _, _] rfl rfl rfl rfl Tryz.call20 (fun w1 h1 h2 h3 => addK [[99, 114, 101, 97, 116, 101, 32]] _ _ b9 _ _ _ _ _ w1 h2 (RdS.row .z w1 h1) (fun a ha => by cases ha; exact pr_apart h1 (fun x hx => (List.mem_cons_of_mem _ (List.mem_cons_of_mem _ hx))) rfl) (by (try simp only [List.length_append, List.length_cons, List.length_nil, List.flatten_cons, List.flatten_nil] at hb ⊢); omega) (by simp)) (fun A42 c42 => ?_); refine triL_nilN ?_; refine tri_seq ?_; refine tri_seq (tri_region ?_); refine o_field fo37_5 rfl rfl ?_; refine o_load agg4 (by repeat (first | exact Nth.z | apply Nth.s)) rfl rfl rfl ?_; refine triL_nilN ?_; refine tri_cond rfl (fun q4 => ?_) (fun q4 => ?_)
            · skip
              rw [q4] at hb
              simp only [if_true, List.length_cons, List.length_nil] at hb
              refine tri_slots [(4, _), (1, _)] (.cons rfl (.cons rfl (.nil _))) ?_; refine tri_region ?_; refine o_load agg64 (by repeat (first | exact Nth.z | apply Nth.s)) rfl rfl rfl ?_; refine o_lit1 Tryz.underlying23 zs9 rfl rfl rfl rfl rfl (by decide) (by decide) (fun b46 => ?_); refine o_callPr (pb := b9) [_, _, _, _] rfl rfl rfl rfl Tryz.call20 (fun w1 h1 h2 h3 => addK [[117, 110, 105, 113, 117, 101, 32]] _ _ b9 _ _ _ _ _ w1 h2 (RdS.row .z w1 h1) (fun a ha => by cases ha; exact pr_apart h1 (fun x hx => (List.mem_cons_of_mem _ (List.mem_cons_of_mem _ (List.mem_cons_of_mem _ hx)))) rfl) (by (try simp only [List.nil_append, List.length_append, List.length_cons, List.length_nil, List.flatten_cons, List.flatten_nil] at hb ⊢); omega) (by simp)) (fun A47 c47 => ?_); refine triL_nilN ?_; refine tri_seq (tri_region ?_); refine o_load agg64 (by repeat (first | exact Nth.z | apply Nth.s)) rfl rfl rfl ?_; refine o_field fo37_2 rfl rfl ?_; refine o_load agg9 (by repeat (first | exact Nth.z | apply Nth.s)) rfl rfl rfl ?_; refine o_field fo37_1 rfl rfl ?_; refine o_load agg9 (by repeat (first | exact Nth.z | apply Nth.s)) rfl rfl rfl ?_; refine o_lit (parts := [_, _, _, _, _]) (strsV [[105, 110, 100, 101, 120, 32], s.n, [32, 111, 110, 32], s.t, [32, 40]]) Tryz.underlying23 zs9 rfl rfl rfl rfl (by decide) (by decide) (fun b53 => ?_); refine o_callPr (pb := b9) [_, _, _, _, _] rfl rfl rfl rfl Tryz.call20 (fun w1 h1 h2 h3 => addK [[105, 110, 100, 101, 120, 32], s.n, [32, 111, 110, 32], s.t, [32, 40]] _ _ b9 _ _ _ _ _ w1 h2 (RdS.row .z w1 h1) (fun a ha => by cases ha; exact pr_apart h1 (fun x hx => (List.mem_cons_of_mem _ (List.mem_cons_of_mem _ (List.mem_cons_of_mem _ (List.mem_cons_of_mem _ hx))))) rfl) (by (try simp only [List.nil_append, List.length_append, List.length_cons, List.length_nil, List.flatten_cons, List.flatten_nil] at hb ⊢); omega) (by simp)) (fun A54 c54 => ?_); refine triL_nilN ?_; refine tri_seq ?_; refine tri_slots [(4, _), (1, _)] (.cons rfl (.cons rfl (.nil _))) ?_; refine tri_region ?_; refine o_load agg64 (by repeat (first | exact Nth.z | apply Nth.s)) rfl rfl rfl ?_; refine o_field fo37_4 rfl rfl ?_; refine o_load agg23 (by repeat (first | exact Nth.z | apply Nth.s)) rfl rfl rfl ?_; refine o_lenS Tryz.underlying23 rfl rfl ?_; refine o_makeFunc rfl rfl rfl ?_; refine o_callPr (pb := b9) [_, _, _, _, _] rfl rfl rfl rfl Tryz.call21 (fun w1 h1 h2 h3 => commasK (fun i => raw (s.on.getD i [])) s.on.length 23 [] [.pointer (some ⟨b4, 0, none⟩), .pointer (some ⟨b1, 0, none⟩)] b9 _ _ _ _ w1 h2 (by omega) (by omega) (by (try simp only [List.nil_append, raw, List.length_append, List.length_cons, List.length_nil, List.flatten_cons, List.flatten_nil] at hb ⊢); omega) Tryz.call23 (fun i A1 c1 l1 m1 w2 hi hs hP1 hm1 hb1 => by have hce := cenv (F := [_, _, _, _, _]) hV.pe h1 (.s (.s (.s .z))) (.s (.s (.s (.s .z)))); have hPV : PV w1 _ _ := ⟨hce.1, (hV.lv.chgL h1.chg (fun k hk => (hV.pe.g k hk).2))⟩; have hA2 := (hA.stab (hV.pe.st (PSub.of h1 h3))).mono (bl' := b4 :: b1 :: bl) (fun k hk => List.mem_cons_of_mem _ (List.mem_cons_of_mem _ hk)); exact print2K s y (b4 :: b1 :: bl) b4 b1 i b9 A1 c1 l1 m1 w2 hP1 hm1 (hPV.sub hs) (hce.2.stab (hce.1.st hs)) (hA2.stab (hce.1.st hs)) hi hb1)) (fun A60 c60 => ?_); refine triL_nilN ?_; refine tri_slots [(4, _)] (.cons rfl (.nil _)) ?_; refine tri_region ?_; refine o_load agg64 (by repeat (first | exact Nth.z | apply Nth.s)) rfl rfl rfl ?_; refine o_lit1 Tryz.underlying23 zs9 rfl rfl rfl rfl rfl (by decide) (by decide) (fun b62 => ?_); refine o_callPr (pb := b9) [_, _, _, _, _, _] rfl rfl rfl rfl Tryz.call20 (fun w1 h1 h2 h3 => addK [[41]] _ _ b9 _ _ _ _ _ w1 h2 (RdS.row .z w1 h1) (fun a ha => by cases ha; exact pr_apart h1 (fun x hx => (List.mem_cons_of_mem _ (List.mem_cons_of_mem _ (List.mem_cons_of_mem _ (List.mem_cons_of_mem _ (List.mem_cons_of_mem _ hx)))))) rfl) (by (try simp only [List.nil_append, raw, List.length_append, List.length_cons, List.length_nil, List.flatten_cons, List.flatten_nil] at hb ⊢); omega) (by simp)) (fun A63 c63 => ?_); refine triL_nil ?_; refine blockQ_normal ?_; refine thenQ_normal ?_
              exact ⟨(A63, c63), (.cons rfl (.nil _)), (fun w2 hw2 => prF_eq (by rw [st_3 q3, q4]; simp [cat, raw]) rfl (by rw [st_3 q3]; simp only [cat, raw]; omega) (hw2.sel [4, 6, 7] (by decide))), trivial⟩
            · skip
              rw [q4] at hb
              simp only [Bool.false_eq_true, if_false, List.length_nil] at hb
              refine tri_skip ?_; refine thenQ_normal ?_; refine tri_seq ?_; refine tri_slots [(4, _), (1, _)] (.cons rfl (.cons rfl (.nil _))) ?_; refine tri_region ?_; refine o_load agg64 (by repeat (first | exact Nth.z | apply Nth.s)) rfl rfl rfl ?_; refine o_field fo37_2 rfl rfl ?_; refine o_load agg9 (by repeat (first | exact Nth.z | apply Nth.s)) rfl rfl rfl ?_; refine o_field fo37_1 rfl rfl ?_; refine o_load agg9 (by repeat (first | exact Nth.z | apply Nth.s)) rfl rfl rfl ?_; refine o_lit (parts := [_, _, _, _, _]) (strsV [[105, 110, 100, 101, 120, 32], s.n, [32, 111, 110, 32], s.t, [32, 40]]) Tryz.underlying23 zs9 rfl rfl rfl rfl (by decide) (by decide) (fun b53 => ?_); refine o_callPr (pb := b9) [_, _, _, _] rfl rfl rfl rfl Tryz.call20 (fun w1 h1 h2 h3 => addK [[105, 110, 100, 101, 120, 32], s.n, [32, 111, 110, 32], s.t, [32, 40]] _ _ b9 _ _ _ _ _ w1 h2 (RdS.row .z w1 h1) (fun a ha => by cases ha; exact pr_apart h1 (fun x hx => (List.mem_cons_of_mem _ (List.mem_cons_of_mem _ (List.mem_cons_of_mem _ hx)))) rfl) (by (try simp only [List.nil_append, List.length_append, List.length_cons, List.length_nil, List.flatten_cons, List.flatten_nil] at hb ⊢); omega) (by simp)) (fun A54 c54 => ?_); refine triL_nilN ?_; refine tri_seq ?_; refine tri_slots [(4, _), (1, _)] (.cons rfl (.cons rfl (.nil _))) ?_; refine tri_region ?_; refine o_load agg64 (by repeat (first | exact Nth.z | apply Nth.s)) rfl rfl rfl ?_; refine o_field fo37_4 rfl rfl ?_; refine o_load agg23 (by repeat (first | exact Nth.z | apply Nth.s)) rfl rfl rfl ?_; refine o_lenS Tryz.underlying23 rfl rfl ?_; refine o_makeFunc rfl rfl rfl ?_; refine o_callPr (pb := b9) [_, _, _, _] rfl rfl rfl rfl Tryz.call21 (fun w1 h1 h2 h3 => commasK (fun i => raw (s.on.getD i [])) s.on.length 23 [] [.pointer (some ⟨b4, 0, none⟩), .pointer (some ⟨b1, 0, none⟩)] b9 _ _ _ _ w1 h2 (by omega) (by omega) (by (try simp only [List.nil_append, raw, List.length_append, List.length_cons, List.length_nil, List.flatten_cons, List.flatten_nil] at hb ⊢); omega) Tryz.call23 (fun i A1 c1 l1 m1 w2 hi hs hP1 hm1 hb1 => by have hce := cenv (F := [_, _, _, _]) hV.pe h1 (.s (.s .z)) (.s (.s (.s .z))); have hPV : PV w1 _ _ := ⟨hce.1, (hV.lv.chgL h1.chg (fun k hk => (hV.pe.g k hk).2))⟩; have hA2 := (hA.stab (hV.pe.st (PSub.of h1 h3))).mono (bl' := b4 :: b1 :: bl) (fun k hk => List.mem_cons_of_mem _ (List.mem_cons_of_mem _ hk)); exact print2K s y (b4 :: b1 :: bl) b4 b1 i b9 A1 c1 l1 m1 w2 hP1 hm1 (hPV.sub hs) (hce.2.stab (hce.1.st hs)) (hA2.stab (hce.1.st hs)) hi hb1)) (fun A60 c60 => ?_); refine triL_nilN ?_; refine tri_slots [(4, _)] (.cons rfl (.nil _)) ?_; refine tri_region ?_; refine o_load agg64 (by repeat (first | exact Nth.z | apply Nth.s)) rfl rfl rfl ?_; refine o_lit1 Tryz.underlying23 zs9 rfl rfl rfl rfl rfl (by decide) (by decide) (fun b62 => ?_); refine o_callPr (pb := b9) [_, _, _, _, _] rfl rfl rfl rfl Tryz.call20 (fun w1 h1 h2 h3 => addK [[41]] _ _ b9 _ _ _ _ _ w1 h2 (RdS.row .z w1 h1) (fun a ha => by cases ha; exact pr_apart h1 (fun x hx => (List.mem_cons_of_mem _ (List.mem_cons_of_mem _ (List.mem_cons_of_mem _ (List.mem_cons_of_mem _ hx))))) rfl) (by (try simp only [List.nil_append, raw, List.length_append, List.length_cons, List.length_nil, List.flatten_cons, List.flatten_nil] at hb ⊢); omega) (by simp)) (fun A63 c63 => ?_); refine triL_nil ?_; refine blockQ_normal ?_; refine thenQ_normal ?_
              exact ⟨(A63, c63), (.cons rfl (.nil _)), (fun w2 hw2 => prF_eq (by rw [st_3 q3, q4]; simp [cat, raw]) rfl (by rw [st_3 q3]; simp only [cat, raw]; omega) (hw2.sel [3, 5, 6] (by decide))), trivial⟩
          · skip
            refine tri_seq ?_; refine tri_slots [(11, _), (4, _), (1, _)] (.cons rfl (.cons rfl (.cons rfl (.nil _)))) ?_; refine tri_region ?_; refine o_eqlI rfl rfl rfl ?_; refine o_assignN rfl rfl ?_; refine tri_if rfl (fun q5 => ?_) (fun q5 => ?_)
            · skip
              rw [st_4 q5] at hb
              simp only [raw, List.length_append, List.length_cons, List.length_nil] at hb
              refine tri_region ?_; refine o_load agg64 (by repeat (first | exact Nth.z | apply Nth.s)) rfl rfl rfl ?_; refine o_field fo37_2 rfl rfl ?_; refine o_load agg9 (by repeat (first | exact Nth.z | apply Nth.s)) rfl rfl rfl ?_; refine o_lit (parts := [_, _]) (strsV [[100, 114, 111, 112, 32, 105, 110, 100, 101, 120, 32], s.n]) Tryz.underlying23 zs9 rfl rfl rfl rfl (by decide) (by decide) (fun b69 => ?_); refine o_callPr (pb := b9) [_, _, _] rfl rfl rfl rfl Tryz.call20 (fun w1 h1 h2 h3 => addK [[100, 114, 111, 112, 32, 105, 110, 100, 101, 120, 32], s.n] _ _ b9 _ _ _ _ _ w1 h2 (RdS.row .z w1 h1) (fun a ha => by cases ha; exact pr_apart h1 (fun x hx => (List.mem_cons_of_mem _ (List.mem_cons_of_mem _ hx))) rfl) (by (try simp only [List.length_append, List.length_cons, List.length_nil, List.flatten_cons, List.flatten_nil] at hb ⊢); omega) (by simp)) (fun A70 c70 => ?_); refine triL_nil ?_; refine blockQ_normal ?_; refine thenQ_normal ?_
              exact ⟨(A70, c70), (.cons rfl (.nil _)), (fun w2 hw2 => prF_eq (by rw [st_4 q5]; simp [raw]) rfl (by rw [st_4 q5]; simp only [raw]; omega) (hw2.sel [1, 3, 4] (by decide))), trivial⟩
            · skip
              refine tri_seq (tri_region ?_); refine o_eqlI rfl rfl rfl ?_; refine o_assignN rfl rfl ?_; refine tri_if rfl (fun q6 => ?_) (fun q6 => ?_)
              · skip
                rw [st_5 q6] at hb
                simp only [cat, raw, List.length_append, List.length_cons, List.length_nil] at hb
                rw [part_5 q6] at hmy
                simp only [Bool.and_eq_true] at hmy
                have hmr : ∀ i, i < s.rows.length → mayRow (s.rows.getD i []) = true := fun i hi => allT_at hmy.2.2 hi
                refine tri_seq ?_; refine tri_slots [(4, _), (1, _)] (.cons rfl (.cons rfl (.nil _))) ?_; refine tri_region ?_; refine o_load agg64 (by repeat (first | exact Nth.z | apply Nth.s)) rfl rfl rfl ?_; refine o_field fo37_1 rfl rfl ?_; refine o_load agg9 (by repeat (first | exact Nth.z | apply Nth.s)) rfl rfl rfl ?_; refine o_lit (parts := [_, _, _]) (strsV [[105, 110, 115, 101, 114, 116, 32, 105, 110, 116, 111, 32], s.t, [32, 118, 97, 108, 117, 101, 115, 32]]) Tryz.underlying23 zs9 rfl rfl rfl rfl (by decide) (by decide) (fun b76 => ?_); refine o_callPr (pb := b9) [_, _, _] rfl rfl rfl rfl Tryz.call20 (fun w1 h1 h2 h3 => addK [[105, 110, 115, 101, 114, 116, 32, 105, 110, 116, 111, 32], s.t, [32, 118, 97, 108, 117, 101, 115, 32]] _ _ b9 _ _ _ _ _ w1 h2 (RdS.row .z w1 h1) (fun a ha => by cases ha; exact pr_apart h1 (fun x hx => (List.mem_cons_of_mem _ (List.mem_cons_of_mem _ hx))) rfl) (by (try simp only [List.length_append, List.length_cons, List.length_nil, List.flatten_cons, List.flatten_nil] at hb ⊢); omega) (by simp)) (fun A77 c77 => ?_); refine triL_nilN ?_; refine tri_slots [(4, _), (1, _)] (.cons rfl (.cons rfl (.nil _))) ?_; refine tri_region ?_; refine o_load agg64 (by repeat (first | exact Nth.z | apply Nth.s)) rfl rfl rfl ?_; refine o_field fo37_6 rfl rfl ?_; refine o_load agg24 (by repeat (first | exact Nth.z | apply Nth.s)) rfl rfl rfl ?_; refine o_lenS Tryz.underlying24 rfl rfl ?_; refine o_makeFunc rfl rfl rfl ?_; refine o_callPr (pb := b9) [_, _, _] rfl rfl rfl rfl Tryz.call21 (fun w1 h1 h2 h3 => commasK (fun i => rowT (s.rows.getD i [])) s.rows.length 24 [] [.pointer (some ⟨b4, 0, none⟩), .pointer (some ⟨b1, 0, none⟩)] b9 _ _ _ _ w1 h2 (by omega) (by omega) (by (try simp only [List.nil_append, List.length_append, List.length_cons, List.length_nil, List.flatten_cons, List.flatten_nil] at hb ⊢); omega) Tryz.call24 (fun i A1 c1 l1 m1 w2 hi hs hP1 hm1 hb1 => by have hce := cenv (F := [_, _, _]) hV.pe h1 (.s .z) (.s (.s .z)); have hPV : PV w1 _ _ := ⟨hce.1, (hV.lv.chgL h1.chg (fun k hk => (hV.pe.g k hk).2))⟩; have hA2 := (hA.stab (hV.pe.st (PSub.of h1 h3))).mono (bl' := b4 :: b1 :: bl) (fun k hk => List.mem_cons_of_mem _ (List.mem_cons_of_mem _ hk)); exact print3K s y (b4 :: b1 :: bl) b4 b1 i b9 A1 c1 l1 m1 w2 hP1 hm1 (hPV.sub hs) (hce.2.stab (hce.1.st hs)) (hA2.stab (hce.1.st hs)) hi (hmr i hi) (hok.rows i hi) hb1)) (fun A83 c83 => ?_); refine triL_nil ?_; refine blockQ_normal ?_; refine thenQ_normal ?_
                exact ⟨(A83, c83), (.cons rfl (.nil _)), (fun w2 hw2 => prF_eq (by rw [st_5 q6]; simp [cat, raw]) rfl (by rw [st_5 q6]; simp only [cat, raw]; omega) (hw2.sel [1, 3, 4] (by decide))), trivial⟩
              · skip
                have hk6 : 6 ≤ s.k := by
                  rcases Int.lt_or_le s.k 6 with h | h
                  · exfalso
                    rw [part_9 (by omega)] at hmy
                    have := of_decide_eq_true hmy
                    omega
                  · exact h
                refine tri_slots [(4, _), (1, _)] (.cons rfl (.cons rfl (.nil _))) ?_; refine tri_region ?_; refine o_load agg64 (by repeat (first | exact Nth.z | apply Nth.s)) rfl rfl rfl ?_; refine o_loadA agg37 sz37 (.s .z) rfl rfl (vs := stCs s y) rfl rfl ?_; refine o_callPr (pb := b9) [_, _] rfl rfl rfl rfl Tryz.call27 (fun w1 h1 h2 h3 => othersK s y bl b9 _ _ _ _ w1 h2 (by omega) (hV.sub (PSub.of h1 h3)) (hA.stab (hV.pe.st (PSub.of h1 h3))) (by omega) hmy hok (by (try simp only [List.length_nil]); omega)) (fun A14 c14 => ?_); refine triL_nil ?_; refine blockQ_normal ?_; refine thenQ_normal ?_
                exact ⟨(A14, c14), (.cons rfl (.nil _)), (fun w2 hw2 => prF_eq (by simp) rfl (by rfl) (hw2.sel [0, 2, 3] (by decide))), trivial⟩
    refine tri_seq ?_
    have hb := hT q0
    refine tri_region ?_; refine o_load agg64 (by repeat (first | exact Nth.z | apply Nth.s)) rfl rfl rfl ?_; refine o_callM (J := Unit) (val := fun _ => .tuple #[.string (B (toldX _ _).1), .int .i64 (toldX _ _).2]) (D' := fun _ => prD b9 _ _ _ _ _) (Pu := fun _ => True) [_] (prD b9 _ _ _ _ _) [] (prL b9 _) rfl rfl rfl rfl Tryz.call28 (prD1 _ _ _ _ _ _) (prD2 _ _ _ _ _ _) (fun w1 h1 h2 => toldK b9 _ _ _ _ _ w1 h2 (by (try simp only [List.nil_append]); omega)) (fun _ _ => ?_); refine o_extract rfl rfl rfl ?_; refine o_extract rfl rfl rfl ?_; refine o_assign rfl rfl ?_; refine o_assignN rfl rfl ?_; refine tri_ret ?_; refine end2 rfl rfl rfl ?_
    exact fun w1 hw1 => ⟨by rw [show max (0 : Int) ((stmT s).2 : Int) = ((stmT s).2 : Int) by omega, if_pos q0], hw1.chg⟩
end Go.Proofs.YtjbpkcbefmpfgaaGreatDoor
namespace Go.Proofs.YtjbpkcbefmpfgaaGreatDoor
open Go.WK Go.RowKit 
theorem nm05_no {s : List UInt8} (h : (((decide ((s.length : Int) < 1) || decide (24 < (s.length : Int))) || decide (((s.getD 0 0).toNat : Int) < 97)) || decide (122 < ((s.getD 0 0).toNat : Int))) = true) : nameR s = false := by
  rw [nameR_eq]
  simp only [Bool.or_eq_true, decide_eq_true_eq] at h
  cases s with
  | nil => rfl
  | cons c l =>
    simp only [List.getD_cons_zero, List.length_cons] at h
    by_cases h24 : 24 < (c :: l).length
    · rw [decide_eq_true h24]; simp
    · have hb : nameB true c = false := by
        simp only [List.length_cons] at h24
        unfold nameB
        rcases h with ((h | h) | h) | h
        · omega
        · omega
        · rw [decide_eq_false (show ¬ 97 ≤ c.toNat by omega)]; simp
        · rw [decide_eq_false (show ¬ c.toNat ≤ 122 by omega)]; simp
      simp [nmL, hb]
theorem nm05_yes {s : List UInt8} (h : (((decide ((s.length : Int) < 1) || decide (24 < (s.length : Int))) || decide (((s.getD 0 0).toNat : Int) < 97)) || decide (122 < ((s.getD 0 0).toNat : Int))) = false) : (1 ≤ s.length ∧ s.length ≤ 24) ∧ (decide ((97 : Int) ≤ ((s.getD 0 0).toNat : Int)) && decide (((s.getD 0 0).toNat : Int) ≤ 122)) = true := by
  simp only [Bool.or_eq_false_iff, decide_eq_false_iff_not] at h
  obtain ⟨⟨⟨h1, h2⟩, h3⟩, h4⟩ := h
  refine ⟨by omega, ?_⟩
  rw [decide_eq_true (show (97 : Int) ≤ ((s.getD 0 0).toNat : Int) by omega), decide_eq_true (show ((s.getD 0 0).toNat : Int) ≤ 122 by omega)]; rfl
theorem nmb {c : UInt8} {b : Bool} (h : ((!(decide ((97 : Int) ≤ (c.toNat : Int)) && decide ((c.toNat : Int) ≤ 122)) && !(decide ((48 : Int) ≤ (c.toNat : Int)) && decide ((c.toNat : Int) ≤ 57))) && decide ((c.toNat : Int) ≠ 95)) = b) : nameB false c = !b := by
  unfold nameB
  have e1 : decide ((97 : Int) ≤ (c.toNat : Int)) = decide (97 ≤ c.toNat) := decide_eq_decide.2 (by omega)
  have e2 : decide ((c.toNat : Int) ≤ 122) = decide (c.toNat ≤ 122) := decide_eq_decide.2 (by omega)
  have e3 : decide ((48 : Int) ≤ (c.toNat : Int)) = decide (48 ≤ c.toNat) := decide_eq_decide.2 (by omega)
  have e4 : decide ((c.toNat : Int) ≤ 57) = decide (c.toNat ≤ 57) := decide_eq_decide.2 (by omega)
  have e5 : decide ((c.toNat : Int) ≠ 95) = !decide (c.toNat = 95) := by rw [← decide_not]; exact decide_eq_decide.2 (by omega)
  rw [e1, e2, e3, e4, e5] at h
  subst h
  cases decide (97 ≤ c.toNat) <;> cases decide (c.toNat ≤ 122) <;> cases decide (48 ≤ c.toNat) <;> cases decide (c.toNat ≤ 57) <;> cases decide (c.toNat = 95) <;> rfl
theorem name05K (s : List UInt8) (w : World) (hs : s.length ≤ 70368744177664) : Calls Tryz.prog 73 #[.string (B s)] w (Pure w (.bool (nameR s))) := by
  refine calls_tri (args := [.string (B s)]) (lent := []) (H := []) Tryz.func73 rfl Tryz.ntmps73 rfl (Sat.start _ _ _ _) ?_; refine (show Tri _ [(0, _)] _ _ _ from ?_); refine tri_seq (tri_region ?_); refine o_assignN rfl rfl ?_; refine tri_seq ?_; refine tri_seq (tri_region ?_); refine o_move rfl rfl ?_; refine o_lenB Tryz.underlying9 rfl rfl ?_; refine o_lss rfl rfl rfl ?_; refine o_move rfl rfl ?_
  refine' triL_or [_, _, _] [(0, _)] (dj := 9) (dr := 12) rfl rfl (fun g1 => ?_) ⟨_, rfl, rfl, rfl, (.cons rfl (.nil _))⟩ rfl ?_
  rotate_left
  · skip
    refine o_move rfl rfl ?_; refine o_lenB Tryz.underlying9 rfl rfl ?_; refine o_gtr rfl rfl rfl ?_
    exact triL_nil (Piece.mk rfl rfl (.cons rfl (.nil _)) (fun _ h => h))
  refine o_move rfl rfl ?_
  refine' triL_or [_, _, _] [(0, _)] (dj := 14) (dr := 17) rfl rfl (fun g9 => ?_) ⟨_, rfl, rfl, rfl, (.cons rfl (.nil _))⟩ rfl ?_
  rotate_left
  · skip
    have hl0 : 1 ≤ s.length := by
      simp only [Bool.or_eq_false_iff, decide_eq_false_iff_not] at g9
      omega
    refine o_move rfl rfl ?_; refine o_idxB Tryz.underlying9 rfl rfl rfl (by (try simp only [List.length_append, List.length_cons, List.length_nil]); omega) (by (try simp only [List.length_append, List.length_cons, List.length_nil]); omega) ?_; refine o_lss rfl rfl rfl ?_
    exact triL_nil (Piece.mk rfl rfl (.cons rfl (.nil _)) (fun _ h => h))
  refine o_move rfl rfl ?_
  refine' triL_or [_, _, _] [(0, _)] (dj := 19) (dr := 22) rfl rfl (fun g14 => ?_) ⟨_, rfl, rfl, rfl, (.cons rfl (.nil _))⟩ rfl ?_
  rotate_left
  · skip
    have hl0 : 1 ≤ s.length := by
      simp only [Bool.or_eq_false_iff, decide_eq_false_iff_not] at g14
      omega
    refine o_move rfl rfl ?_; refine o_idxB Tryz.underlying9 rfl rfl rfl (by (try simp only [List.length_append, List.length_cons, List.length_nil]); omega) (by (try simp only [List.length_append, List.length_cons, List.length_nil]); omega) ?_; refine o_gtr rfl rfl rfl ?_
    exact triL_nil (Piece.mk rfl rfl (.cons rfl (.nil _)) (fun _ h => h))
  refine triL_nilN ?_; refine tri_cond rfl (fun q0 => ?_) (fun q0 => ?_)
  · skip
    refine tri_seq (tri_region ?_); refine o_assignN rfl rfl ?_; refine tri_ret ?_; refine thenQ_ret ?_; refine end1 rfl rfl ?_
    exact fun w1 hw1 => ⟨congrArg (fun b => Ending.returned (.bool b)) (by rw [nm05_no q0]), hw1.chg⟩
  · skip
    have hy := nm05_yes q0
    refine tri_skip ?_; refine thenQ_normal ?_; refine tri_seq ?_; refine tri_seq (tri_region ?_); refine o_assignN rfl rfl ?_; refine tri_block ?_; refine tri_loop (ι := Nat) (F := fun i => [(0, .string (B s)), (3, .int .i64 (i : Int))]) (HH := fun i => []) (Pu := fun i => (1 ≤ i ∧ i ≤ s.length) ∧ nmL false (s.drop 1) = nmL false (s.drop i)) (μ := fun i => s.length - i) (1) (.cons rfl (.cons rfl (.nil _))) (fun _ h => h) (⟨by omega, rfl⟩) (fun i hi => ?_); refine tri_seq ?_; refine tri_seq (tri_region ?_); refine o_move rfl rfl ?_; refine o_move rfl rfl ?_; refine o_lenB Tryz.underlying9 rfl rfl ?_; refine o_lss rfl rfl rfl ?_; refine triL_nilN ?_; refine tri_if rfl (fun q1 => ?_) (fun q1 => ?_)
    · skip
      have hil : i < s.length := by omega
      refine tri_skip ?_; refine thenQ_normal ?_; refine tri_seq ?_; refine tri_block ?_; refine tri_seq ?_; refine tri_slots [(0, _), (3, _)] (.cons rfl (.cons rfl (.nil _))) ?_; refine tri_region ?_; refine o_move rfl rfl ?_; refine o_move rfl rfl ?_; refine o_idxB Tryz.underlying9 rfl rfl rfl (by (try simp only [List.length_append, List.length_cons, List.length_nil]); omega) (by (try simp only [List.length_append, List.length_cons, List.length_nil]); omega) ?_; refine o_geq rfl rfl rfl ?_; refine o_move rfl rfl ?_
      refine' triL_and [_, _, _, _] [(0, _), (3, _)] (dj := 34) (dr := 38) rfl rfl (fun g2 => ?_) ⟨_, rfl, rfl, rfl, (.cons rfl (.cons rfl (.nil _)))⟩ rfl ?_
      rotate_left
      · skip
        refine o_move rfl rfl ?_; refine o_move rfl rfl ?_; refine o_idxB Tryz.underlying9 rfl rfl rfl (by (try simp only [List.length_append, List.length_cons, List.length_nil]); omega) (by (try simp only [List.length_append, List.length_cons, List.length_nil]); omega) ?_; refine o_leq rfl rfl rfl ?_
        exact triL_nil (Piece.mk rfl rfl (.cons rfl (.cons rfl (.nil _))) (fun _ h => h))
      refine o_assignN rfl rfl ?_; refine tri_seq (tri_region ?_); refine o_move rfl rfl ?_; refine o_move rfl rfl ?_; refine o_idxB Tryz.underlying9 rfl rfl rfl (by (try simp only [List.length_append, List.length_cons, List.length_nil]); omega) (by (try simp only [List.length_append, List.length_cons, List.length_nil]); omega) ?_; refine o_geq rfl rfl rfl ?_; refine o_move rfl rfl ?_
      refine' triL_and [_, _, _, _] [(4, _), (0, _), (3, _)] (dj := 44) (dr := 48) rfl rfl (fun g3 => ?_) ⟨_, rfl, rfl, rfl, (.cons rfl (.cons rfl (.cons rfl (.nil _))))⟩ rfl ?_
      rotate_left
      · skip
        refine o_move rfl rfl ?_; refine o_move rfl rfl ?_; refine o_idxB Tryz.underlying9 rfl rfl rfl (by (try simp only [List.length_append, List.length_cons, List.length_nil]); omega) (by (try simp only [List.length_append, List.length_cons, List.length_nil]); omega) ?_; refine o_leq rfl rfl rfl ?_
        exact triL_nil (Piece.mk rfl rfl (.cons rfl (.cons rfl (.cons rfl (.nil _)))) (fun _ h => h))
      refine o_assignN rfl rfl ?_; refine tri_seq (tri_region ?_); refine o_move rfl rfl ?_; refine o_not rfl rfl ?_; refine o_move rfl rfl ?_
      refine' triL_and [_, _] [(0, _), (3, _)] (dj := 52) (dr := 54) rfl rfl (fun g4 => ?_) ⟨_, rfl, rfl, rfl, (.cons rfl (.cons rfl (.nil _)))⟩ rfl ?_
      rotate_left
      · skip
        refine o_move rfl rfl ?_; refine o_not rfl rfl ?_
        exact triL_nil (Piece.mk rfl rfl (.cons rfl (.cons rfl (.nil _))) (fun _ h => h))
      refine o_move rfl rfl ?_
      refine' triL_and [_, _, _, _] [(0, _), (3, _)] (dj := 56) (dr := 60) rfl rfl (fun g5 => ?_) ⟨_, rfl, rfl, rfl, (.cons rfl (.cons rfl (.nil _)))⟩ rfl ?_
      rotate_left
      · skip
        refine o_move rfl rfl ?_; refine o_move rfl rfl ?_; refine o_idxB Tryz.underlying9 rfl rfl rfl (by (try simp only [List.length_append, List.length_cons, List.length_nil]); omega) (by (try simp only [List.length_append, List.length_cons, List.length_nil]); omega) ?_; refine o_neqI rfl rfl rfl ?_
        exact triL_nil (Piece.mk rfl rfl (.cons rfl (.cons rfl (.nil _))) (fun _ h => h))
      refine triL_nilN ?_; refine tri_cond rfl (fun q2 => ?_) (fun q2 => ?_)
      · skip
        have q2 : nameB false (s.getD i 0) = false := nmb (c := s.getD i 0) q2
        refine tri_seq (tri_region ?_); refine o_assignN rfl rfl ?_; refine tri_ret ?_; refine blockQ_ret ?_; refine thenQ_ret ?_; refine thenQ_ret ?_; refine blockQ_ret ?_; refine thenQ_ret ?_; refine end1 rfl rfl ?_
        exact fun w1 hw1 => ⟨congrArg (fun b => Ending.returned (.bool b)) (by rw [nm05 (b := false) hy.1 hy.2 (hi.2.trans (by rw [nmL_step false (by omega), q2]; rfl))]), hw1.chg⟩
      · skip
        have q2 : nameB false (s.getD i 0) = true := nmb (c := s.getD i 0) q2
        refine tri_skip ?_; refine blockQ_normal ?_; refine thenQ_normal ?_; refine tri_region ?_; refine o_move rfl rfl ?_; refine o_addN rfl rfl rfl (by (try simp only [List.length_append, List.length_cons, List.length_nil]); omega) ?_; refine o_assignN rfl rfl ?_
        exact ⟨i + 1, (.cons rfl (.cons rfl (.nil _))), fun _ h => h, ⟨by omega, by rw [hi.2, nmL_step false (by omega), q2]; rfl⟩, by omega⟩
    · skip
      refine tri_exit ?_; refine thenQ_exit ?_; refine thenQ_exit ?_; refine blockQ_here ?_; refine thenQ_normal ?_; refine tri_seq ?_; refine tri_slots [] (.nil _) ?_; refine tri_region ?_; refine o_assignN rfl rfl ?_; refine tri_ret ?_; refine end1 rfl rfl ?_
      exact fun w1 hw1 => ⟨congrArg (fun b => Ending.returned (.bool b)) (by rw [nm05 (b := true) hy.1 hy.2 (hi.2.trans (by rw [List.drop_eq_nil_of_le (by omega)]; rfl))]), hw1.chg⟩
theorem nameD (s : List UInt8) (w : World) (hs : s.length ≤ 70368744177664) : Calls Tryz.prog 36 #[.string (B s)] w (Pure w (.bool (nameOk s))) := by
  refine calls_tri (args := [.string (B s)]) (lent := []) (H := []) Tryz.func36 rfl Tryz.ntmps36 rfl (Sat.start _ _ _ _) ?_; refine (show Tri _ [(0, _)] _ _ _ from ?_); refine tri_seq (tri_region ?_); refine o_assignN rfl rfl ?_; refine tri_seq (tri_region ?_); refine o_move rfl rfl ?_; refine o_callP (first := []) (cap := []) rfl rfl rfl Tryz.call73 (fun w1 h1 => name05K s w1 hs) ?_; refine o_move rfl rfl ?_
  refine' triL_and [_, _, _] [(2, _)] (dj := 5) (dr := 8) rfl rfl (fun g1 => ?_) ⟨_, rfl, rfl, rfl, (.cons rfl (.nil _))⟩ rfl ?_
  rotate_left
  · skip
    refine o_move rfl rfl ?_; refine o_callP (first := []) (cap := []) rfl rfl rfl Tryz.call74 (fun w1 h1 => wordR s w1) ?_; refine o_not rfl rfl ?_
    exact triL_nil (Piece.mk rfl rfl (.cons rfl (.nil _)) (fun _ h => h))
  refine o_assignN rfl rfl ?_; refine tri_ret ?_; refine end1 rfl rfl ?_
  exact fun w1 hw1 => ⟨congrArg (fun b => Ending.returned (.bool b)) (by unfold nameOk; rw [kept_wds]), hw1.chg⟩
theorem floorK (o : Int) (w : World)  : Calls Tryz.prog 76 #[.int .i64 o] w (Pure w (.int .i64 (flr o))) := by
  refine calls_tri (args := [.int .i64 o]) (lent := []) (H := []) Tryz.func76 rfl Tryz.ntmps76 rfl (Sat.start _ _ _ _) ?_; refine (show Tri _ [(0, _)] _ _ _ from ?_); refine tri_seq (tri_region ?_); refine o_assignN rfl rfl ?_; refine tri_seq ?_; refine tri_seq (tri_region ?_); refine o_move rfl rfl ?_; refine o_leq rfl rfl rfl ?_; refine triL_nilN ?_; refine tri_if rfl (fun q0 => ?_) (fun q0 => ?_)
  · skip
    refine tri_seq ?_; refine tri_slots [] (.nil _) ?_; refine tri_region ?_; refine o_assignN rfl rfl ?_; refine tri_ret ?_; refine thenQ_ret ?_; refine end1 rfl rfl ?_
    exact fun w1 hw1 => ⟨congrArg (fun b => Ending.returned (.int .i64 b)) (by (try simp only [Bool.or_eq_true, Bool.or_eq_false_iff, decide_eq_true_eq, decide_eq_false_iff_not] at *); unfold flr; (repeat' split) <;> omega), hw1.chg⟩
  · skip
    refine tri_skip ?_; refine thenQ_normal ?_; refine tri_seq ?_; refine tri_seq (tri_region ?_); refine o_move rfl rfl ?_; refine o_eqlI rfl rfl rfl ?_; refine triL_nilN ?_; refine tri_if rfl (fun q1 => ?_) (fun q1 => ?_)
    · skip
      refine tri_seq ?_; refine tri_slots [] (.nil _) ?_; refine tri_region ?_; refine o_assignN rfl rfl ?_; refine tri_ret ?_; refine thenQ_ret ?_; refine end1 rfl rfl ?_
      exact fun w1 hw1 => ⟨congrArg (fun b => Ending.returned (.int .i64 b)) (by (try simp only [Bool.or_eq_true, Bool.or_eq_false_iff, decide_eq_true_eq, decide_eq_false_iff_not] at *); unfold flr; (repeat' split) <;> omega), hw1.chg⟩
    · skip
      refine tri_skip ?_; refine thenQ_normal ?_; refine tri_seq ?_; refine tri_seq ?_; refine tri_slots [(0, _)] (.cons rfl (.nil _)) ?_; refine tri_region ?_; refine o_move rfl rfl ?_; refine o_eqlI rfl rfl rfl ?_; refine triL_nilN ?_; refine tri_if rfl (fun q2 => ?_) (fun q2 => ?_)
      · skip
        refine tri_seq (tri_region ?_); refine o_assignN rfl rfl ?_; refine tri_ret ?_; refine thenQ_ret ?_; refine end1 rfl rfl ?_
        exact fun w1 hw1 => ⟨congrArg (fun b => Ending.returned (.int .i64 b)) (by (try simp only [Bool.or_eq_true, Bool.or_eq_false_iff, decide_eq_true_eq, decide_eq_false_iff_not] at *); unfold flr; (repeat' split) <;> omega), hw1.chg⟩
      · skip
        refine tri_skip ?_; refine thenQ_normal ?_; refine tri_seq ?_; refine tri_seq (tri_region ?_); refine o_move rfl rfl ?_; refine o_eqlI rfl rfl rfl ?_; refine o_move rfl rfl ?_
        refine' triL_or [_, _] [(0, _)] (dj := 11) (dr := 13) rfl rfl (fun g1 => ?_) ⟨_, rfl, rfl, rfl, (.cons rfl (.nil _))⟩ rfl ?_
        rotate_left
        · skip
          refine o_move rfl rfl ?_; refine o_eqlI rfl rfl rfl ?_
          exact triL_nil (Piece.mk rfl rfl (.cons rfl (.nil _)) (fun _ h => h))
        refine o_move rfl rfl ?_
        refine' triL_or [_, _] [(0, _)] (dj := 15) (dr := 17) rfl rfl (fun g2 => ?_) ⟨_, rfl, rfl, rfl, (.cons rfl (.nil _))⟩ rfl ?_
        rotate_left
        · skip
          refine o_move rfl rfl ?_; refine o_eqlI rfl rfl rfl ?_
          exact triL_nil (Piece.mk rfl rfl (.cons rfl (.nil _)) (fun _ h => h))
        refine triL_nilN ?_; refine tri_cond rfl (fun q3 => ?_) (fun q3 => ?_)
        · skip
          refine tri_seq (tri_region ?_); refine o_assignN rfl rfl ?_; refine tri_ret ?_; refine thenQ_ret ?_; refine end1 rfl rfl ?_
          exact fun w1 hw1 => ⟨congrArg (fun b => Ending.returned (.int .i64 b)) (by (try simp only [Bool.or_eq_true, decide_eq_true_eq] at *); unfold flr; (repeat' split) <;> omega), hw1.chg⟩
        · skip
          refine tri_skip ?_; refine thenQ_normal ?_; refine tri_seq ?_; refine tri_seq (tri_region ?_); refine o_move rfl rfl ?_; refine o_eqlI rfl rfl rfl ?_; refine o_move rfl rfl ?_
          refine' triL_or [_, _] [(0, _)] (dj := 21) (dr := 23) rfl rfl (fun g3 => ?_) ⟨_, rfl, rfl, rfl, (.cons rfl (.nil _))⟩ rfl ?_
          rotate_left
          · skip
            refine o_move rfl rfl ?_; refine o_eqlI rfl rfl rfl ?_
            exact triL_nil (Piece.mk rfl rfl (.cons rfl (.nil _)) (fun _ h => h))
          refine o_move rfl rfl ?_
          refine' triL_or [_, _] [(0, _)] (dj := 25) (dr := 27) rfl rfl (fun g4 => ?_) ⟨_, rfl, rfl, rfl, (.cons rfl (.nil _))⟩ rfl ?_
          rotate_left
          · skip
            refine o_move rfl rfl ?_; refine o_eqlI rfl rfl rfl ?_
            exact triL_nil (Piece.mk rfl rfl (.cons rfl (.nil _)) (fun _ h => h))
          refine triL_nilN ?_; refine tri_cond rfl (fun q4 => ?_) (fun q4 => ?_)
          · skip
            refine tri_seq (tri_region ?_); refine o_assignN rfl rfl ?_; refine tri_ret ?_; refine thenQ_ret ?_; refine end1 rfl rfl ?_
            exact fun w1 hw1 => ⟨congrArg (fun b => Ending.returned (.int .i64 b)) (by (try simp only [Bool.or_eq_true, Bool.or_eq_false_iff, decide_eq_true_eq, decide_eq_false_iff_not] at *); unfold flr; (repeat' split) <;> omega), hw1.chg⟩
          · skip
            refine tri_skip ?_; refine thenQ_normal ?_; refine tri_seq ?_; refine tri_seq (tri_region ?_); refine o_move rfl rfl ?_; refine o_eqlI rfl rfl rfl ?_; refine triL_nilN ?_; refine tri_if rfl (fun q5 => ?_) (fun q5 => ?_)
            · skip
              refine tri_seq ?_; refine tri_slots [] (.nil _) ?_; refine tri_region ?_; refine o_assignN rfl rfl ?_; refine tri_ret ?_; refine thenQ_ret ?_; refine end1 rfl rfl ?_
              exact fun w1 hw1 => ⟨congrArg (fun b => Ending.returned (.int .i64 b)) (by (try simp only [Bool.or_eq_false_iff, decide_eq_false_iff_not] at *); unfold flr; (repeat' split) <;> omega), hw1.chg⟩
            · skip
              refine tri_skip ?_; refine thenQ_normal ?_; refine tri_seq ?_; refine tri_seq (tri_region ?_); refine o_move rfl rfl ?_; refine o_eqlI rfl rfl rfl ?_; refine triL_nilN ?_; refine tri_if rfl (fun q6 => ?_) (fun q6 => ?_)
              · skip
                refine tri_seq ?_; refine tri_slots [] (.nil _) ?_; refine tri_region ?_; refine o_assignN rfl rfl ?_; refine tri_ret ?_; refine thenQ_ret ?_; refine end1 rfl rfl ?_
                exact fun w1 hw1 => ⟨congrArg (fun b => Ending.returned (.int .i64 b)) (by (try simp only [Bool.or_eq_false_iff, decide_eq_false_iff_not] at *); unfold flr; (repeat' split) <;> omega), hw1.chg⟩
              · skip
                refine tri_skip ?_; refine thenQ_normal ?_; refine tri_seq ?_; refine tri_slots [] (.nil _) ?_; refine tri_region ?_; refine o_assignN rfl rfl ?_; refine tri_ret ?_; refine end1 rfl rfl ?_
                exact fun w1 hw1 => ⟨congrArg (fun b => Ending.returned (.int .i64 b)) (by (try simp only [Bool.or_eq_false_iff, decide_eq_false_iff_not] at *); unfold flr; (repeat' split) <;> omega), hw1.chg⟩
theorem orderD (o : Int) (w : World) (ho : 8 ≤ o ∧ o ≤ 21) : Calls Tryz.prog 79 #[.int .i64 o] w (Pure w (.int .i64 (o - 8))) := by
  refine calls_tri (args := [.int .i64 o]) (lent := []) (H := []) Tryz.func79 rfl Tryz.ntmps79 rfl (Sat.start _ _ _ _) ?_; refine (show Tri _ [(0, _)] _ _ _ from ?_); refine tri_seq (tri_region ?_); refine o_assignN rfl rfl ?_; refine tri_seq (tri_region ?_); refine o_move rfl rfl ?_; refine o_subN rfl rfl rfl (by (try simp only [List.length_append, List.length_cons, List.length_nil]); omega) ?_; refine o_assignN rfl rfl ?_; refine tri_ret ?_; refine end1 rfl rfl ?_
  exact fun w1 hw1 => ⟨rfl, hw1.chg⟩
theorem opsD  (w : World)  : Calls Tryz.prog 78 #[] w (NewRowF id w 9 1 14 (strsV opsL)) := by
  refine calls_tri (args := []) (lent := []) (H := []) Tryz.func78 rfl Tryz.ntmps78 rfl (Sat.start _ _ _ _) ?_; refine (show Tri _ [] _ _ _ from ?_); refine tri_seq (tri_region ?_); refine o_assignN rfl rfl ?_; refine tri_seq (tri_region ?_); refine o_lit (parts := [_, _, _, _, _, _, _, _, _, _, _, _, _, _]) (strsV opsL) Tryz.underlying23 zs9 rfl rfl rfl rfl (by decide) (by decide) (fun b1 => ?_); refine o_assignN rfl rfl ?_; refine tri_ret ?_; refine end1 rfl rfl ?_
  exact fin_row id .z
theorem same_step {a b : Ex} {i : Nat} (h : ∀ j, j < i → a.as.getD j Ex.zero = b.as.getD j Ex.zero) (h1 : a.as.getD i Ex.zero = b.as.getD i Ex.zero) : ∀ j, j < i + 1 → a.as.getD j Ex.zero = b.as.getD j Ex.zero := fun j hj => by
  rcases Nat.lt_or_ge j i with h2 | h2
  · exact h j h2
  · have e : j = i := by omega
    rw [e]; exact h1
def SX (a : Ex) : Prop := ∀ (b : Ex) (cs ds : List Value) (w : World), ExC w a cs → ExC w b ds → a.size ≤ 70368744177664 → Calls Tryz.prog 17 #[.agg cs.toArray, .agg ds.toArray] w (Pure w (.bool (decide (a = b))))
set_option maxHeartbeats 1000000 in
theorem sameStep (a b : Ex) (y z : SL) (xa xb : List Value) (w : World) (h1 : Rd w y.A xa) (h2 : ExsC w a.as xa) (h3 : Rd w z.A xb) (h4 : ExsC w b.as xb) (hz : a.size ≤ 70368744177664) (ih : ∀ i, i < a.as.length → SX (a.as.getD i Ex.zero)) : Calls Tryz.prog 17 #[.agg (exCs a y).toArray, .agg (exCs b z).toArray] w (Pure w (.bool (decide (a = b)))) := by
  refine calls_tri (args := [.agg (exCs a y).toArray, .agg (exCs b z).toArray]) (lent := []) (H := []) Tryz.func17 rfl Tryz.ntmps17 rfl (Sat.start _ _ _ _) ?_; refine (show Tri _ [(0, _), (1, _)] _ _ _ from ?_)
  have hRa : ∀ cx H, cx.w0 = w → cx.lent = [] → RdS cx H y.A _ := fun cx H q1 q2 => RdS.lent (by rw [q1]; exact h1) (fun b hb => by rw [q2]; simp)
  have hRb : ∀ cx H, cx.w0 = w → cx.lent = [] → RdS cx H z.A _ := fun cx H q1 q2 => RdS.lent (by rw [q1]; exact h3) (fun b hb => by rw [q2]; simp)
  have hxa := h2.len
  have hxb := h4.len
  have hal := as_len (e := a)
  refine tri_seq (tri_region ?_); refine o_box _ rfl rfl rfl (fun b2 => ?_); refine o_box _ rfl rfl rfl (fun b3 => ?_); refine o_assignN rfl rfl ?_; refine tri_seq ?_; refine tri_seq (tri_region ?_); refine o_field fo30_0 rfl rfl ?_; refine o_load agg3 (by repeat (first | exact Nth.z | apply Nth.s)) rfl rfl rfl ?_; refine o_field fo30_0 rfl rfl ?_; refine o_load agg3 (by repeat (first | exact Nth.z | apply Nth.s)) rfl rfl rfl ?_; refine o_neqI rfl rfl rfl ?_; refine o_move rfl rfl ?_
  refine' triL_or [_, _, _, _, _] [(3, _), (2, _)] (dj := 11) (dr := 16) rfl rfl (fun g1 => ?_) ⟨_, rfl, rfl, rfl, (.cons rfl (.cons rfl (.nil _)))⟩ rfl ?_
  rotate_left
  · skip
    refine o_field fo30_1 rfl rfl ?_; refine o_loadA agg27 sz27 (.s .z) rfl rfl (vs := Val.cs a.v) rfl rfl ?_; refine o_field fo30_1 rfl rfl ?_; refine o_loadA agg27 sz27 .z rfl rfl (vs := Val.cs b.v) rfl rfl ?_; refine o_neqV flat27 rfl rfl rfl ?_
    exact triL_nil (Piece.mk rfl rfl (.cons rfl (.cons rfl (.nil _))) (fun _ h => h))
  refine o_move rfl rfl ?_
  refine' triL_or [_, _, _, _, _] [(3, _), (2, _)] (dj := 18) (dr := 23) rfl rfl (fun g2 => ?_) ⟨_, rfl, rfl, rfl, (.cons rfl (.cons rfl (.nil _)))⟩ rfl ?_
  rotate_left
  · skip
    refine o_field fo30_2 rfl rfl ?_; refine o_load agg9 (by repeat (first | exact Nth.z | apply Nth.s)) rfl rfl rfl ?_; refine o_field fo30_2 rfl rfl ?_; refine o_load agg9 (by repeat (first | exact Nth.z | apply Nth.s)) rfl rfl rfl ?_; refine o_neqT rfl rfl rfl ?_
    exact triL_nil (Piece.mk rfl rfl (.cons rfl (.cons rfl (.nil _))) (fun _ h => h))
  refine o_move rfl rfl ?_
  refine' triL_or [_, _, _, _, _] [(3, _), (2, _)] (dj := 25) (dr := 30) rfl rfl (fun g3 => ?_) ⟨_, rfl, rfl, rfl, (.cons rfl (.cons rfl (.nil _)))⟩ rfl ?_
  rotate_left
  · skip
    refine o_field fo30_3 rfl rfl ?_; refine o_load agg9 (by repeat (first | exact Nth.z | apply Nth.s)) rfl rfl rfl ?_; refine o_field fo30_3 rfl rfl ?_; refine o_load agg9 (by repeat (first | exact Nth.z | apply Nth.s)) rfl rfl rfl ?_; refine o_neqT rfl rfl rfl ?_
    exact triL_nil (Piece.mk rfl rfl (.cons rfl (.cons rfl (.nil _))) (fun _ h => h))
  refine o_move rfl rfl ?_
  refine' triL_or [_, _, _, _, _] [(3, _), (2, _)] (dj := 32) (dr := 37) rfl rfl (fun g4 => ?_) ⟨_, rfl, rfl, rfl, (.cons rfl (.cons rfl (.nil _)))⟩ rfl ?_
  rotate_left
  · skip
    refine o_field fo30_4 rfl rfl ?_; refine o_load agg3 (by repeat (first | exact Nth.z | apply Nth.s)) rfl rfl rfl ?_; refine o_field fo30_4 rfl rfl ?_; refine o_load agg3 (by repeat (first | exact Nth.z | apply Nth.s)) rfl rfl rfl ?_; refine o_neqI rfl rfl rfl ?_
    exact triL_nil (Piece.mk rfl rfl (.cons rfl (.cons rfl (.nil _))) (fun _ h => h))
  refine o_move rfl rfl ?_
  refine' triL_or [_, _, _, _, _, _, _] [(3, _), (2, _)] (dj := 39) (dr := 46) rfl rfl (fun g5 => ?_) ⟨_, rfl, rfl, rfl, (.cons rfl (.cons rfl (.nil _)))⟩ rfl ?_
  rotate_left
  · skip
    refine o_field fo30_5 rfl rfl ?_; refine o_load agg28 (by repeat (first | exact Nth.z | apply Nth.s)) rfl rfl rfl ?_; refine o_lenS Tryz.underlying28 rfl rfl ?_; refine o_field fo30_5 rfl rfl ?_; refine o_load agg28 (by repeat (first | exact Nth.z | apply Nth.s)) rfl rfl rfl ?_; refine o_lenS Tryz.underlying28 rfl rfl ?_; refine o_neqI rfl rfl rfl ?_
    exact triL_nil (Piece.mk rfl rfl (.cons rfl (.cons rfl (.nil _))) (fun _ h => h))
  refine triL_nilN ?_; refine tri_cond rfl (fun q0 => ?_) (fun q0 => ?_)
  · skip
    refine tri_seq (tri_region ?_); refine o_assignN rfl rfl ?_; refine tri_ret ?_; refine thenQ_ret ?_; refine end1 rfl rfl ?_
    exact fun w1 hw1 => ⟨congrArg (fun b => Ending.returned (.bool b)) (by exact (decide_eq_false (ex_ne q0)).symm), hw1.chg⟩
  · skip
    have hlen := ex_len q0
    refine tri_skip ?_; refine thenQ_normal ?_; refine tri_seq ?_; refine tri_seq (tri_region ?_); refine o_assignN rfl rfl ?_; refine tri_block ?_; refine tri_loop (ι := Nat) (F := fun i => [(2, .pointer (some ⟨b2, 0, none⟩)), (3, .pointer (some ⟨b3, 0, none⟩)), (5, .int .i64 (i : Int))]) (HH := fun i => [box b3 30 (exCs b z), box b2 30 (exCs a y)]) (Pu := fun i => i ≤ a.as.length ∧ ∀ j, j < i → a.as.getD j Ex.zero = b.as.getD j Ex.zero) (μ := fun i => a.as.length - i) (0) (.cons rfl (.cons rfl (.cons rfl (.nil _)))) (fun _ h => h) (⟨Nat.zero_le _, fun j hj => absurd hj (by omega)⟩) (fun i hi => ?_); refine tri_seq ?_; refine tri_seq (tri_region ?_); refine o_move rfl rfl ?_; refine o_field fo30_5 rfl rfl ?_; refine o_load agg28 (by repeat (first | exact Nth.z | apply Nth.s)) rfl rfl rfl ?_; refine o_lenS Tryz.underlying28 rfl rfl ?_; refine o_lss rfl rfl rfl ?_; refine triL_nilN ?_; refine tri_if rfl (fun q1 => ?_) (fun q1 => ?_)
    · skip
      have hil : i < a.as.length := by omega
      refine tri_skip ?_; refine thenQ_normal ?_; refine tri_seq ?_; refine tri_block ?_; refine tri_seq ?_; refine tri_slots [(2, _), (3, _), (5, _)] (.cons rfl (.cons rfl (.cons rfl (.nil _)))) ?_
      obtain ⟨ca, hca, hka⟩ := ExsC.at i h2 hil
      obtain ⟨cb, hcb, hkb⟩ := ExsC.at i h4 (by omega)
      refine tri_mix (_) [(0, true), (1, true), (2, true), (3, true), (4, true), (5, true), (6, true), (7, true), (8, true), (9, true), (10, false), (11, false)] [10, 11] (by kernel_rfl) (by kernel_rfl) (fun _ h => h) ?_; refine mix_fix rfl ?_; refine o_field fo30_5 rfl rfl ?_; refine triL_nil ⟨rfl, mix_fix rfl ?_⟩; refine o_load agg28 (by repeat (first | exact Nth.z | apply Nth.s)) rfl rfl rfl ?_; refine triL_nil ⟨rfl, mix_fix rfl ?_⟩; refine o_move rfl rfl ?_; refine triL_nil ⟨rfl, mix_fix rfl ?_⟩; refine o_idxS Tryz.underlying28 sz30 rfl rfl rfl (hRa _ _ rfl rfl) (by (try simp only [List.length_append, List.length_cons, List.length_nil]); omega) (by (try simp only [List.length_append, List.length_cons, List.length_nil]); omega) (by omega) (by decide) ?_; refine triL_nil ⟨rfl, mix_fix rfl ?_⟩; refine o_loadRA agg30 sz30 rfl rfl (hRa _ _ rfl rfl) (vs := ca) hca hka.len (by decide) ?_; refine triL_nil ⟨rfl, mix_fix rfl ?_⟩; refine o_field fo30_5 rfl rfl ?_; refine triL_nil ⟨rfl, mix_fix rfl ?_⟩; refine o_load agg28 (by repeat (first | exact Nth.z | apply Nth.s)) rfl rfl rfl ?_; refine triL_nil ⟨rfl, mix_fix rfl ?_⟩; refine o_move rfl rfl ?_; refine triL_nil ⟨rfl, mix_fix rfl ?_⟩; refine o_idxS Tryz.underlying28 sz30 rfl rfl rfl (hRb _ _ rfl rfl) (by (try simp only [List.length_append, List.length_cons, List.length_nil]); omega) (by (try simp only [List.length_append, List.length_cons, List.length_nil]); omega) (by omega) (by decide) ?_; refine triL_nil ⟨rfl, mix_fix rfl ?_⟩; refine o_loadRA agg30 sz30 rfl rfl (hRb _ _ rfl rfl) (vs := cb) hcb hkb.len (by decide) ?_; refine triL_nil ⟨rfl, ?_⟩; refine mix_rest [10, 11] [_, _] rfl rfl ?_; refine o_callP (first := []) (cap := []) rfl rfl rfl Tryz.call17 (fun w1 h1 => ih i hil _ ca cb w1 (ExC.chg h1.chg _ _ hka) (ExC.chg h1.chg _ _ hkb) (by have := as_size (e := a) hil; omega)) ?_; refine o_not rfl rfl ?_; refine triL_nil ⟨rfl, ?_⟩; refine thenQ_normal ?_; refine tri_cond rfl (fun q2 => ?_) (fun q2 => ?_)
      · skip
        have q2 := not_true q2
        refine tri_seq ?_; refine tri_slots [] (.nil _) ?_; refine tri_region ?_; refine o_assignN rfl rfl ?_; refine tri_ret ?_; refine blockQ_ret ?_; refine thenQ_ret ?_; refine thenQ_ret ?_; refine blockQ_ret ?_; refine thenQ_ret ?_; refine end1 rfl rfl ?_
        exact fun w1 hw1 => ⟨congrArg (fun b => Ending.returned (.bool b)) (by exact (decide_eq_false (fun e => (of_decide_eq_false q2) (by rw [e]))).symm), hw1.chg⟩
      · skip
        have q2 := not_false q2
        refine tri_skip ?_; refine blockQ_normal ?_; refine thenQ_normal ?_; refine tri_slots [(2, _), (3, _), (5, _)] (.cons rfl (.cons rfl (.cons rfl (.nil _)))) ?_; refine tri_region ?_; refine o_move rfl rfl ?_; refine o_addN rfl rfl rfl (by (try simp only [List.length_append, List.length_cons, List.length_nil]); omega) ?_; refine o_assignN rfl rfl ?_
        exact ⟨i + 1, (.cons rfl (.cons rfl (.cons rfl (.nil _)))), fun _ h => h, ⟨by omega, fun j hj => same_step hi.2 (of_decide_eq_true q2) j hj⟩, by omega⟩
    · skip
      refine tri_exit ?_; refine thenQ_exit ?_; refine thenQ_exit ?_; refine blockQ_here ?_; refine thenQ_normal ?_; refine tri_seq ?_; refine tri_slots [] (.nil _) ?_; refine tri_region ?_; refine o_assignN rfl rfl ?_; refine tri_ret ?_; refine end1 rfl rfl ?_
      exact fun w1 hw1 => ⟨congrArg (fun b => Ending.returned (.bool b)) (by exact (decide_eq_true (ex_eq q0 (fun j hj => hi.2 j (by omega)))).symm), hw1.chg⟩
end Go.Proofs.YtjbpkcbefmpfgaaGreatDoor
namespace Go.Proofs.YtjbpkcbefmpfgaaGreatDoor
open Go.WK Go.RowKit 
theorem sameAll : ∀ (n : Nat) (a : Ex), a.size < n → SX a := by
  intro n
  induction n with
  | zero => intro a h; omega
  | succ n ih =>
    intro a hs b cs ds w ha hb hz
    obtain ⟨y, xa, rfl, _, h1, h2⟩ := exC_R ha
    obtain ⟨z, xb, rfl, _, h3, h4⟩ := exC_R hb
    exact sameStep a b y z xa xb w h1 h2 h3 h4 hz (fun i hi => ih _ (by have := as_size (e := a) hi; omega))
theorem sameE (a b : Ex) (cs ds : List Value) (w : World) (ha : ExC w a cs) (hb : ExC w b ds) (hz : a.size ≤ 70368744177664) : Calls Tryz.prog 17 #[.agg cs.toArray, .agg ds.toArray] w (Pure w (.bool (decide (a = b)))) := sameAll (a.size + 1) a (by omega) b cs ds w ha hb hz
theorem leafC (w : World) (o : Int) (v : Val) (t n : List UInt8) (c : Int) : ExC w (.mk o v t n c []) (exCs (.mk o v t n c []) SL.nil) := ⟨none, 0, [], rfl, Nat.le_refl _, Rd.nil _ _, rfl⟩
theorem tup_eq {a b : List UInt8} {x y : Int} (h1 : a = b) (h2 : x = y) : Ending.returned (.tuple #[.string (B a), .int .i64 x]) = Ending.returned (.tuple #[.string (B b), .int .i64 y]) := by rw [h1, h2]
theorem exC_op {w : World} {e : Ex} {cs : List Value} (h : ExC w e cs) : cs[0]? = some (.int .i64 e.o) := by
  obtain ⟨y, xs, rfl, _⟩ := exC_R h
  rfl
def DX (e : Ex) : Prop := ∀ (low : Int) (cs : List Value) (w : World), ExC w e cs → LV w → (e.txt low).1.length ≤ 70368744177664 → Calls Tryz.prog 42 #[.agg cs.toArray, .int .i64 low] w (Pure w (.tuple #[.string (B (e.txt low).1), .int .i64 ((e.txt low).2 : Int)]))
set_option maxHeartbeats 1000000 in
theorem dexprCore (o cc : Int) (v : Val) (t n : List UInt8) (al : List Ex) (Ax : Option Addr) (kx : Nat) (xs : List Value) (low : Int) (w : World) (_ : al.length ≤ kx) (hxr : Rd w Ax xs) (hxs : ExsC w al xs) (hL : LV w) (hd : (Ex.txt (.mk o v t n cc al) low).2 ≤ 70368744177664) (hb : (Ex.txt (.mk o v t n cc al) low).1.length ≤ 70368744177664) (hlow : ¬ lvl o < low) (hof : o = 1 → fit v) (har : 4 ≤ o → o ≤ 7 → al.length = 1) (har2 : 8 ≤ o → al.length = 2) (hor : 1 ≤ o ∧ o ≤ 21 ∧ o ≠ 3) (ih : ∀ i, i < al.length → DX (al.getD i Ex.zero)) : Calls Tryz.prog 42 #[.agg ([.int .i64 o, .int .i64 v.k, .int .i64 v.n, .string (B v.s), .string (B t), .string (B n), .int .i64 cc, .slice Ax al.length kx] : List Value).toArray, .int .i64 low] w (Pure w (.tuple #[.string (B (Ex.txt (.mk o v t n cc al) low).1), .int .i64 ((Ex.txt (.mk o v t n cc al) low).2 : Int)])) := by
  refine calls_tri (args := [.agg ([.int .i64 o, .int .i64 v.k, .int .i64 v.n, .string (B v.s), .string (B t), .string (B n), .int .i64 cc, .slice Ax al.length kx] : List Value).toArray, .int .i64 low]) (lent := []) (H := []) Tryz.func42 rfl Tryz.ntmps42 rfl (Sat.start _ _ _ _) ?_; refine (show Tri _ [(0, _), (1, _)] _ _ _ from ?_)
  have hl8 := lvl_le o
  have hR : ∀ cx H, cx.w0 = w → cx.lent = [] → RdS cx H Ax xs := fun cx H q1 q2 => RdS.lent (by rw [q1]; exact hxr) (fun b hb => by rw [q2]; simp)
  have hxl := hxs.len
  refine tri_seq (tri_region ?_); refine o_box _ rfl rfl rfl (fun b2 => ?_); refine o_assign rfl rfl ?_; refine o_assignN rfl rfl ?_; refine tri_seq (tri_region ?_); refine o_field fo30_0 rfl rfl ?_; refine o_load agg3 (by repeat (first | exact Nth.z | apply Nth.s)) rfl rfl rfl ?_; refine o_callP (first := []) (cap := []) rfl rfl rfl Tryz.call76 (fun w1 h1 => floorK o w1) ?_
  rw [flr_lvl hor]
  refine o_assignN rfl rfl ?_; refine tri_seq ?_; refine tri_seq ?_; refine tri_slots [(6, _), (2, _), (1, _)] (.cons rfl (.cons rfl (.cons rfl (.nil _)))) ?_; refine tri_region ?_; refine o_move rfl rfl ?_; refine o_move rfl rfl ?_; refine o_lss rfl rfl rfl ?_; refine triL_nilN ?_; refine tri_if rfl (fun q0 => ?_) (fun q0 => ?_)
  · skip
    exact absurd q0 hlow
  · skip
    refine tri_skip ?_; refine thenQ_normal ?_; refine tri_seq ?_; refine tri_seq ?_; refine tri_slots [(6, _), (2, _)] (.cons rfl (.cons rfl (.nil _))) ?_; refine tri_region ?_; refine o_field fo30_0 rfl rfl ?_; refine o_load agg3 (by repeat (first | exact Nth.z | apply Nth.s)) rfl rfl rfl ?_; refine o_eqlI rfl rfl rfl ?_; refine triL_nilN ?_; refine tri_if rfl (fun q1 => ?_) (fun q1 => ?_)
    · skip
      rw [txt_low hlow, core_1 q1] at hd hb ⊢
      simp only at hd hb ⊢
      refine tri_seq ?_; refine tri_slots [(2, _)] (.cons rfl (.nil _)) ?_; refine tri_region ?_; refine o_field fo30_1 rfl rfl ?_; refine o_loadA agg27 sz27 .z rfl rfl (vs := Val.cs v) rfl rfl ?_; refine o_callP (first := []) (cap := []) rfl rfl rfl Tryz.call77 (fun w1 h1 => printR v w1 (hof q1)) ?_; refine o_move rfl rfl ?_; refine o_extract rfl rfl rfl ?_; refine o_extract rfl rfl rfl ?_; refine o_assign rfl rfl ?_; refine o_assignN rfl rfl ?_; refine tri_seq ?_; refine tri_slots [(9, _)] (.cons rfl (.nil _)) ?_; refine tri_region ?_; refine o_move rfl rfl ?_; refine o_assign rfl rfl ?_; refine o_assignN rfl rfl ?_; refine tri_ret ?_; refine thenQ_ret ?_; refine end2 rfl rfl rfl ?_
      exact fun w1 hw1 => ⟨tup_eq (by rfl) (by rfl), hw1.chg⟩
    · skip
      refine tri_skip ?_; refine thenQ_normal ?_; refine tri_seq ?_; refine tri_seq (tri_region ?_); refine o_field fo30_0 rfl rfl ?_; refine o_load agg3 (by repeat (first | exact Nth.z | apply Nth.s)) rfl rfl rfl ?_; refine o_eqlI rfl rfl rfl ?_; refine o_move rfl rfl ?_
      refine' triL_and [_, _, _] [(6, _), (2, _)] (dj := 51) (dr := 54) rfl rfl (fun g1 => ?_) ⟨_, rfl, rfl, rfl, (.cons rfl (.cons rfl (.nil _)))⟩ rfl ?_
      rotate_left
      · skip
        refine o_field fo30_2 rfl rfl ?_; refine o_load agg9 (by repeat (first | exact Nth.z | apply Nth.s)) rfl rfl rfl ?_; refine o_neqT rfl rfl rfl ?_
        exact triL_nil (Piece.mk rfl rfl (.cons rfl (.cons rfl (.nil _))) (fun _ h => h))
      refine triL_nilN ?_; refine tri_cond rfl (fun q2 => ?_) (fun q2 => ?_)
      · skip
        simp only [Bool.and_eq_true, decide_eq_true_eq] at q2
        rw [txt_low hlow, core_2 q2.1, if_neg q2.2] at hd hb ⊢
        simp only at hd hb ⊢
        refine tri_seq (tri_region ?_); refine o_field fo30_2 rfl rfl ?_; refine o_load agg9 (by repeat (first | exact Nth.z | apply Nth.s)) rfl rfl rfl ?_; refine o_cat rfl rfl rfl (by (try simp only [List.length_append, List.length_cons, List.length_nil] at hb ⊢); omega) ?_; refine o_field fo30_3 rfl rfl ?_; refine o_load agg9 (by repeat (first | exact Nth.z | apply Nth.s)) rfl rfl rfl ?_; refine o_cat rfl rfl rfl (by (try simp only [List.length_append, List.length_cons, List.length_nil] at hb ⊢); omega) ?_; refine o_assign rfl rfl ?_; refine o_assignN rfl rfl ?_; refine tri_ret ?_; refine thenQ_ret ?_; refine end2 rfl rfl rfl ?_
        exact fun w1 hw1 => ⟨tup_eq (by simp) (by omega), hw1.chg⟩
      · skip
        refine tri_skip ?_; refine thenQ_normal ?_; refine tri_seq ?_; refine tri_seq (tri_region ?_); refine o_field fo30_0 rfl rfl ?_; refine o_load agg3 (by repeat (first | exact Nth.z | apply Nth.s)) rfl rfl rfl ?_; refine o_eqlI rfl rfl rfl ?_; refine triL_nilN ?_; refine tri_if rfl (fun q3 => ?_) (fun q3 => ?_)
        · skip
          have ht : t = [] := by simpa [q3] using q2
          rw [txt_low hlow, core_2 q3, if_pos ht] at hd hb ⊢
          simp only at hd hb ⊢
          refine tri_seq ?_; refine tri_slots [(2, _)] (.cons rfl (.nil _)) ?_; refine tri_region ?_; refine o_field fo30_3 rfl rfl ?_; refine o_load agg9 (by repeat (first | exact Nth.z | apply Nth.s)) rfl rfl rfl ?_; refine o_assign rfl rfl ?_; refine o_assignN rfl rfl ?_; refine tri_ret ?_; refine thenQ_ret ?_; refine end2 rfl rfl rfl ?_
          exact fun w1 hw1 => ⟨tup_eq (by rfl) (by rfl), hw1.chg⟩
        · skip
          refine tri_skip ?_; refine thenQ_normal ?_; refine tri_seq ?_; refine tri_seq ?_; refine tri_slots [(6, _), (2, _)] (.cons rfl (.cons rfl (.nil _))) ?_; refine tri_region ?_; refine o_field fo30_0 rfl rfl ?_; refine o_load agg3 (by repeat (first | exact Nth.z | apply Nth.s)) rfl rfl rfl ?_; refine o_eqlI rfl rfl rfl ?_; refine triL_nilN ?_; refine tri_if rfl (fun q4 => ?_) (fun q4 => ?_)
          · skip
            have hal : al.length = 1 := har (by omega) (by omega)
            obtain ⟨cs0, hc0, hk0⟩ := ExsC.at 0 hxs (by omega)
            rw [txt_low hlow, core_5 q4 (by omega)] at hd hb ⊢
            simp only at hd hb ⊢
            refine tri_seq ?_; refine tri_slots [(2, _)] (.cons rfl (.nil _)) ?_; refine tri_region ?_; refine o_field fo30_5 rfl rfl ?_; refine o_load agg28 (by repeat (first | exact Nth.z | apply Nth.s)) rfl rfl rfl ?_; refine o_idxS Tryz.underlying28 sz30 rfl rfl rfl (hR _ _ rfl rfl) (by (try simp only [List.length_append, List.length_cons, List.length_nil] at hb ⊢); omega) (by (try simp only [List.length_append, List.length_cons, List.length_nil] at hb ⊢); omega) (by omega) (by decide) ?_; refine o_loadRA agg30 sz30 rfl rfl (hR _ _ rfl rfl) (vs := cs0) hc0 hk0.len (by decide) ?_; refine o_callP (first := []) (cap := []) rfl rfl rfl Tryz.call42 (fun w1 h1 => ih 0 (by omega) 3 cs0 w1 (ExC.chg h1.chg _ _ hk0) (hL.chg h1.chg) (by simp only [List.length_append, List.length_cons, List.length_nil] at hb ⊢; omega)) ?_; refine o_move rfl rfl ?_; refine o_extract rfl rfl rfl ?_; refine o_extract rfl rfl rfl ?_; refine o_assign rfl rfl ?_; refine o_assignN rfl rfl ?_; refine tri_seq ?_; refine tri_slots [(12, _), (11, _)] (.cons rfl (.cons rfl (.nil _))) ?_; refine tri_region ?_; refine o_move rfl rfl ?_; refine o_cat rfl rfl rfl (by (try simp only [List.length_append, List.length_cons, List.length_nil] at hb ⊢); omega) ?_; refine o_move rfl rfl ?_; refine o_addN rfl rfl rfl (by (try simp only [List.length_append, List.length_cons, List.length_nil] at hb ⊢); omega) ?_; refine o_assign rfl rfl ?_; refine o_assignN rfl rfl ?_; refine tri_ret ?_; refine thenQ_ret ?_; refine end2 rfl rfl rfl ?_
            exact fun w1 hw1 => ⟨tup_eq (by simp) (by omega), hw1.chg⟩
          · skip
            refine tri_skip ?_; refine thenQ_normal ?_; refine tri_seq ?_; refine tri_seq (tri_region ?_); refine o_field fo30_0 rfl rfl ?_; refine o_load agg3 (by repeat (first | exact Nth.z | apply Nth.s)) rfl rfl rfl ?_; refine o_eqlI rfl rfl rfl ?_; refine triL_nilN ?_; refine tri_if rfl (fun q5 => ?_) (fun q5 => ?_)
            · skip
              have hal : al.length = 1 := har (by omega) (by omega)
              obtain ⟨cs0, hc0, hk0⟩ := ExsC.at 0 hxs (by omega)
              rw [txt_low hlow, core_4 q5 (by omega)] at hd hb ⊢
              simp only at hd hb ⊢
              refine tri_seq ?_; refine tri_slots [(2, _)] (.cons rfl (.nil _)) ?_; refine tri_region ?_; refine o_field fo30_5 rfl rfl ?_; refine o_load agg28 (by repeat (first | exact Nth.z | apply Nth.s)) rfl rfl rfl ?_; refine o_idxS Tryz.underlying28 sz30 rfl rfl rfl (hR _ _ rfl rfl) (by (try simp only [List.length_append, List.length_cons] at hb ⊢); omega) (by (try simp only [List.length_append, List.length_cons] at hb ⊢); omega) (by omega) (by decide) ?_; refine o_loadRA agg30 sz30 rfl rfl (hR _ _ rfl rfl) (vs := cs0) hc0 hk0.len (by decide) ?_; refine o_callP (first := []) (cap := []) rfl rfl rfl Tryz.call42 (fun w1 h1 => ih 0 (by omega) 7 cs0 w1 (ExC.chg h1.chg _ _ hk0) (hL.chg h1.chg) (by simp only [List.length_append, List.length_cons] at hb ⊢; omega)) ?_; refine o_move rfl rfl ?_; refine o_extract rfl rfl rfl ?_; refine o_extract rfl rfl rfl ?_; refine o_assign rfl rfl ?_; refine o_assignN rfl rfl ?_; refine tri_seq ?_; refine tri_seq ?_; refine tri_slots [(14, _), (13, _), (2, _)] (.cons rfl (.cons rfl (.cons rfl (.nil _)))) ?_; refine tri_region ?_; refine o_field fo30_5 rfl rfl ?_; refine o_load agg28 (by repeat (first | exact Nth.z | apply Nth.s)) rfl rfl rfl ?_; refine o_idxS Tryz.underlying28 sz30 rfl rfl rfl (hR _ _ rfl rfl) (by (try simp only [List.length_append, List.length_cons] at hb ⊢); omega) (by (try simp only [List.length_append, List.length_cons] at hb ⊢); omega) (by omega) (by decide) ?_; refine o_fieldAt fo30_0 rfl rfl (hR _ _ rfl rfl) (getD_drop_take hc0 (exC_op hk0)) ?_; refine o_loadR agg3 rfl rfl (hR _ _ rfl rfl) (getD_drop_take hc0 (exC_op hk0)) ?_; refine o_eqlI rfl rfl rfl ?_; refine triL_nilN ?_; refine tri_if rfl (fun q6 => ?_) (fun q6 => ?_)
              · skip
                rw [if_pos q6] at hb ⊢
                refine tri_slots [(14, _), (13, _)] (.cons rfl (.cons rfl (.nil _))) ?_; refine tri_region ?_; refine o_move rfl rfl ?_; refine o_cat rfl rfl rfl (by (try simp only [List.length_append, List.length_cons, List.length_nil] at hb ⊢); omega) ?_; refine o_assignN rfl rfl ?_; refine tri_seq (tri_region ?_); refine o_move rfl rfl ?_; refine o_cat rfl rfl rfl (by (try simp only [List.length_append, List.length_cons, List.length_nil] at hb ⊢); omega) ?_; refine o_move rfl rfl ?_; refine o_addN rfl rfl rfl (by (try simp only [List.length_append, List.length_cons, List.length_nil] at hb ⊢); omega) ?_; refine o_assign rfl rfl ?_; refine o_assignN rfl rfl ?_; refine tri_ret ?_; refine thenQ_ret ?_; refine end2 rfl rfl rfl ?_
                exact fun w1 hw1 => ⟨tup_eq (by simp) (by omega), hw1.chg⟩
              · skip
                rw [if_neg q6] at hb ⊢
                refine tri_skip ?_; refine thenQ_normal ?_; refine tri_seq ?_; refine tri_slots [(14, _), (13, _)] (.cons rfl (.cons rfl (.nil _))) ?_; refine tri_region ?_; refine o_move rfl rfl ?_; refine o_cat rfl rfl rfl (by (try simp only [List.length_append, List.length_cons, List.length_nil] at hb ⊢); omega) ?_; refine o_move rfl rfl ?_; refine o_addN rfl rfl rfl (by (try simp only [List.length_append, List.length_cons, List.length_nil] at hb ⊢); omega) ?_; refine o_assign rfl rfl ?_; refine o_assignN rfl rfl ?_; refine tri_ret ?_; refine thenQ_ret ?_; refine end2 rfl rfl rfl ?_
                exact fun w1 hw1 => ⟨tup_eq (by simp) (by omega), hw1.chg⟩
            · skip
              refine tri_skip ?_; refine thenQ_normal ?_; refine tri_seq ?_; refine tri_seq ?_; refine tri_slots [(6, _), (2, _)] (.cons rfl (.cons rfl (.nil _))) ?_; refine tri_region ?_; refine o_field fo30_0 rfl rfl ?_; refine o_load agg3 (by repeat (first | exact Nth.z | apply Nth.s)) rfl rfl rfl ?_; refine o_eqlI rfl rfl rfl ?_; refine o_move rfl rfl ?_
              refine' triL_or [_, _, _] [(6, _), (2, _)] (dj := 108) (dr := 111) rfl rfl (fun g2 => ?_) ⟨_, rfl, rfl, rfl, (.cons rfl (.cons rfl (.nil _)))⟩ rfl ?_
              rotate_left
              · skip
                refine o_field fo30_0 rfl rfl ?_; refine o_load agg3 (by repeat (first | exact Nth.z | apply Nth.s)) rfl rfl rfl ?_; refine o_eqlI rfl rfl rfl ?_
                exact triL_nil (Piece.mk rfl rfl (.cons rfl (.cons rfl (.nil _))) (fun _ h => h))
              refine triL_nilN ?_; refine tri_cond rfl (fun q7 => ?_) (fun q7 => ?_)
              · skip
                simp only [Bool.or_eq_true, decide_eq_true_eq] at q7
                have hal : al.length = 1 := har (by omega) (by omega)
                obtain ⟨cs0, hc0, hk0⟩ := ExsC.at 0 hxs (by omega)
                have h67 : (Ex.txt (.mk o v t n cc al) low) = (((al.getD 0 Ex.zero).txt 5).1 ++ (if o = 6 then [32, 105, 115, 32, 110, 117, 108, 108] else [32, 105, 115, 32, 110, 111, 116, 32, 110, 117, 108, 108]), ((al.getD 0 Ex.zero).txt 5).2) := by
                  rw [txt_low hlow]
                  rcases q7 with h | h
                  · rw [core_6 h (by omega), if_pos h]
                  · rw [core_7 h (by omega), if_neg (by omega)]
                rw [h67] at hd hb ⊢
                simp only at hd hb ⊢
                refine tri_seq (tri_region ?_); refine o_field fo30_5 rfl rfl ?_; refine o_load agg28 (by repeat (first | exact Nth.z | apply Nth.s)) rfl rfl rfl ?_; refine o_idxS Tryz.underlying28 sz30 rfl rfl rfl (hR _ _ rfl rfl) (by (try simp only [List.length_append] at hb ⊢); omega) (by (try simp only [List.length_append] at hb ⊢); omega) (by omega) (by decide) ?_; refine o_loadRA agg30 sz30 rfl rfl (hR _ _ rfl rfl) (vs := cs0) hc0 hk0.len (by decide) ?_; refine o_callP (first := []) (cap := []) rfl rfl rfl Tryz.call42 (fun w1 h1 => ih 0 (by omega) 5 cs0 w1 (ExC.chg h1.chg _ _ hk0) (hL.chg h1.chg) (by simp only [List.length_append] at hb ⊢; omega)) ?_; refine o_move rfl rfl ?_; refine o_extract rfl rfl rfl ?_; refine o_extract rfl rfl rfl ?_; refine o_assign rfl rfl ?_; refine o_assignN rfl rfl ?_; refine tri_seq ?_; refine tri_seq ?_; refine tri_slots [(16, _), (15, _), (2, _)] (.cons rfl (.cons rfl (.cons rfl (.nil _)))) ?_; refine tri_region ?_; refine o_field fo30_0 rfl rfl ?_; refine o_load agg3 (by repeat (first | exact Nth.z | apply Nth.s)) rfl rfl rfl ?_; refine o_eqlI rfl rfl rfl ?_; refine triL_nilN ?_; refine tri_if rfl (fun q8 => ?_) (fun q8 => ?_)
                · skip
                  rw [if_pos q8] at hb ⊢
                  refine tri_seq ?_; refine tri_slots [(16, _), (15, _)] (.cons rfl (.cons rfl (.nil _))) ?_; refine tri_region ?_; refine o_move rfl rfl ?_; refine o_cat rfl rfl rfl (by (try simp only [List.length_append, List.length_cons, List.length_nil] at hb ⊢); omega) ?_; refine o_move rfl rfl ?_; refine o_assign rfl rfl ?_; refine o_assignN rfl rfl ?_; refine tri_ret ?_; refine thenQ_ret ?_; refine thenQ_ret ?_; refine end2 rfl rfl rfl ?_
                  exact fun w1 hw1 => ⟨tup_eq (by simp) (by rfl), hw1.chg⟩
                · skip
                  rw [if_neg q8] at hb ⊢
                  refine tri_skip ?_; refine thenQ_normal ?_; refine tri_seq ?_; refine tri_slots [(16, _), (15, _)] (.cons rfl (.cons rfl (.nil _))) ?_; refine tri_region ?_; refine o_move rfl rfl ?_; refine o_cat rfl rfl rfl (by (try simp only [List.length_append, List.length_cons, List.length_nil] at hb ⊢); omega) ?_; refine o_move rfl rfl ?_; refine o_assign rfl rfl ?_; refine o_assignN rfl rfl ?_; refine tri_ret ?_; refine thenQ_ret ?_; refine end2 rfl rfl rfl ?_
                  exact fun w1 hw1 => ⟨tup_eq (by simp) (by rfl), hw1.chg⟩
              · skip
                simp only [Bool.or_eq_false_iff, decide_eq_false_iff_not] at q7
                have ho8 : 8 ≤ o := by omega
                have hal : al.length = 2 := har2 ho8
                obtain ⟨cs0, hc0, hk0⟩ := ExsC.at 0 hxs (by omega)
                obtain ⟨cs1, hc1, hk1⟩ := ExsC.at 1 hxs (by omega)
                rw [txt_low hlow, core_b (by omega) (by omega) (by omega) (by omega) (by omega) (by omega) (by omega)] at hd hb ⊢
                simp only at hd hb ⊢
                refine tri_skip ?_; refine thenQ_normal ?_; refine tri_seq (tri_region ?_); refine o_move rfl rfl ?_; refine o_assignN rfl rfl ?_; refine tri_join (ι := Nat) (fun i => [(2, .pointer (some ⟨b2, 0, none⟩)), (6, .int .i64 (lvl o)), (17, .int .i64 (if lvl o = 4 then 5 else lvl o))]) (fun i => [box b2 30 ([.int .i64 o, .int .i64 v.k, .int .i64 v.n, .string (B v.s), .string (B t), .string (B n), .int .i64 cc, .slice Ax al.length kx] : List Value)]) (fun i => True) ?_ (fun i hj => ?_)
                · skip
                  refine tri_seq (tri_region ?_); refine o_move rfl rfl ?_; refine o_eqlI rfl rfl rfl ?_; refine triL_nilN ?_; refine tri_if rfl (fun q9 => ?_) (fun q9 => ?_)
                  · skip
                    refine tri_slots [(6, _), (2, _)] (.cons rfl (.cons rfl (.nil _))) ?_; refine tri_region ?_; refine o_assignN rfl rfl ?_
                    exact ⟨0, (.cons rfl (.cons rfl (.cons (by rw [if_pos q9]; rfl) (.nil _)))), fun _ h => h, trivial⟩
                  · skip
                    refine tri_skip ?_; refine thenQ_normal ?_
                    exact ⟨0, (.cons rfl (.cons rfl (.cons (by rw [if_neg q9]; rfl) (.nil _)))), fun _ h => h, trivial⟩
                refine tri_seq (tri_region ?_); refine o_field fo30_5 rfl rfl ?_; refine o_load agg28 (by repeat (first | exact Nth.z | apply Nth.s)) rfl rfl rfl ?_; refine o_idxS Tryz.underlying28 sz30 rfl rfl rfl (hR _ _ rfl rfl) (by (try simp only [List.length_append, List.length_cons, List.length_nil] at hb ⊢); omega) (by (try simp only [List.length_append, List.length_cons, List.length_nil] at hb ⊢); omega) (by omega) (by decide) ?_; refine o_loadRA agg30 sz30 rfl rfl (hR _ _ rfl rfl) (vs := cs0) hc0 hk0.len (by decide) ?_; refine o_move rfl rfl ?_; refine o_callP (first := []) (cap := []) rfl rfl rfl Tryz.call42 (fun w1 h1 => ih 0 (by omega) (if lvl o = 4 then 5 else lvl o) cs0 w1 (ExC.chg h1.chg _ _ hk0) (hL.chg h1.chg) (by simp only [List.length_append, List.length_cons, List.length_nil] at hb ⊢; omega)) ?_; refine o_move rfl rfl ?_; refine o_extract rfl rfl rfl ?_; refine o_extract rfl rfl rfl ?_; refine o_assign rfl rfl ?_; refine o_assignN rfl rfl ?_; refine tri_seq ?_; refine tri_slots [(19, _), (18, _), (2, _), (6, _)] (.cons rfl (.cons rfl (.cons rfl (.cons rfl (.nil _))))) ?_; refine tri_region ?_; refine o_field fo30_5 rfl rfl ?_; refine o_load agg28 (by repeat (first | exact Nth.z | apply Nth.s)) rfl rfl rfl ?_; refine o_idxS Tryz.underlying28 sz30 rfl rfl rfl (hR _ _ rfl rfl) (by (try simp only [List.length_append, List.length_cons, List.length_nil] at hb ⊢); omega) (by (try simp only [List.length_append, List.length_cons, List.length_nil] at hb ⊢); omega) (by omega) (by decide) ?_; refine o_loadRA agg30 sz30 rfl rfl (hR _ _ rfl rfl) (vs := cs1) hc1 hk1.len (by decide) ?_; refine o_move rfl rfl ?_; refine o_addN rfl rfl rfl (by (try simp only [List.length_append, List.length_cons, List.length_nil] at hb ⊢); omega) ?_; refine o_callP (first := []) (cap := []) rfl rfl rfl Tryz.call42 (fun w1 h1 => ih 1 (by omega) (lvl o + 1) cs1 w1 (ExC.chg h1.chg _ _ hk1) (hL.chg h1.chg) (by simp only [List.length_append, List.length_cons, List.length_nil] at hb ⊢; omega)) ?_; refine o_move rfl rfl ?_; refine o_extract rfl rfl rfl ?_; refine o_extract rfl rfl rfl ?_; refine o_assign rfl rfl ?_; refine o_assignN rfl rfl ?_; refine tri_seq ?_; refine tri_slots [(21, _), (20, _), (19, _), (18, _), (2, _)] (.cons rfl (.cons rfl (.cons rfl (.cons rfl (.cons rfl (.nil _)))))) ?_; refine tri_mix (_) [(0, true), (1, true), (3, true), (4, true), (10, true), (12, true), (13, true), (14, true), (2, false), (5, false), (6, false), (7, false), (8, true), (9, true), (11, true), (15, true), (16, false)] [16] (by kernel_rfl) (by kernel_rfl) (fun _ h => h) ?_; refine mix_fix rfl ?_; refine o_move rfl rfl ?_; refine triL_nil ⟨rfl, mix_fix rfl ?_⟩; refine o_cat rfl rfl rfl (by (try simp only [List.length_append, List.length_cons, List.length_nil] at hb ⊢); omega) ?_; refine triL_nil ⟨rfl, mix_fix rfl ?_⟩; refine o_field fo30_0 rfl rfl ?_; refine triL_nil ⟨rfl, mix_fix rfl ?_⟩; refine o_load agg3 (by repeat (first | exact Nth.z | apply Nth.s)) rfl rfl rfl ?_; refine triL_nil ⟨rfl, mix_fix rfl ?_⟩; refine o_move rfl rfl ?_; refine triL_nil ⟨rfl, mix_fix rfl ?_⟩; refine o_move rfl rfl ?_; refine triL_nil ⟨rfl, mix_fix rfl ?_⟩; refine o_move rfl rfl ?_; refine triL_nil ⟨rfl, mix_fix rfl ?_⟩; refine o_max rfl rfl rfl ?_; refine triL_nil ⟨rfl, ?_⟩; refine mix_op rfl ?_; refine o_callF (first := []) (cap := []) id rfl rfl rfl Tryz.call78 (fun w1 h1 => opsD w1) (fun A154 c154 => ?_); refine triL_nil ⟨rfl, fun _ _ h => Sat.dropS 1 h, ?_⟩; refine mix_op rfl ?_; refine o_callP (first := []) (cap := []) rfl rfl rfl Tryz.call79 (fun w1 h1 => orderD o w1 (by omega)) ?_; refine triL_nil ⟨rfl, fun _ _ h => Sat.dropS 1 h, ?_⟩; refine mix_op rfl ?_; refine o_idxS Tryz.underlying23 sz9 rfl rfl rfl (RdS.row .z) (by (try simp only [List.length_append, List.length_cons, List.length_nil] at hb ⊢); omega) (by (try simp only [List.length_append, List.length_cons, List.length_nil] at hb ⊢); omega) rfl (by decide) ?_; refine triL_nil ⟨rfl, fun _ _ h => Sat.dropS 1 h, ?_⟩; refine mix_op rfl ?_; refine o_loadR agg9 rfl rfl (RdS.row .z) (strsV_get opsL (o - 8).toNat _ (by simp) (by show (o - 8).toNat < 14; omega)) ?_
                rw [opsL_at (by omega)]
                refine triL_nil ⟨rfl, fun _ _ h => Sat.dropS 1 h, ?_⟩; refine mix_fix rfl ?_; refine o_cat rfl rfl rfl (by (try simp only [List.length_append, List.length_cons, List.length_nil] at hb ⊢); omega) ?_; refine triL_nil ⟨rfl, mix_fix rfl ?_⟩; refine o_cat rfl rfl rfl (by (try simp only [List.length_append, List.length_cons, List.length_nil] at hb ⊢); omega) ?_; refine triL_nil ⟨rfl, mix_fix rfl ?_⟩; refine o_cat rfl rfl rfl (by (try simp only [List.length_append, List.length_cons, List.length_nil] at hb ⊢); omega) ?_; refine triL_nil ⟨rfl, mix_fix rfl ?_⟩; refine o_assign rfl rfl ?_; refine triL_nil ⟨rfl, ?_⟩; refine mix_rest [16] [_] rfl rfl ?_; refine o_assign rfl rfl ?_; refine triL_nil ⟨rfl, ?_⟩; refine thenQ_normal ?_; refine tri_ret ?_; refine end2 rfl rfl rfl ?_
                exact fun w1 hw1 => ⟨tup_eq (by simp) (by omega), hw1.chg⟩
end Go.Proofs.YtjbpkcbefmpfgaaGreatDoor
namespace Go.Proofs.YtjbpkcbefmpfgaaGreatDoor
open Go.WK Go.RowKit 
theorem built30_0_2_3 (x0 : Int) (x2 : ByteArray) (x3 : ByteArray) : Tryz.prog.built 30 [(0, .int .i64 x0), (2, .string x2), (3, .string x3)] = some ([.int .i64 x0, .int .i64 0, .int .i64 0, .string .empty, .string x2, .string x3, .int .i64 0, .slice none 0 0] : List Value).toArray := by kernel_rfl
theorem dexprWrap (o cc : Int) (v : Val) (t n : List UInt8) (al : List Ex) (Ax : Option Addr) (kx : Nat) (_ : List Value) (low : Int) (w : World) (hK : ExC w (.mk o v t n cc al) ([.int .i64 o, .int .i64 v.k, .int .i64 v.n, .string (B v.s), .string (B t), .string (B n), .int .i64 cc, .slice Ax al.length kx] : List Value)) (hL : LV w) (hd : (Ex.txt (.mk o v t n cc al) low).2 ≤ 70368744177664) (hb : (Ex.txt (.mk o v t n cc al) low).1.length ≤ 70368744177664) (hlow : lvl o < low) (hor : 1 ≤ o ∧ o ≤ 21 ∧ o ≠ 3) (ih : ∀ (cs : List Value) (w : World), ExC w (.mk o v t n cc al) cs → LV w → (Ex.txt (.mk o v t n cc al) 1).1.length ≤ 70368744177664 → Calls Tryz.prog 42 #[.agg cs.toArray, .int .i64 1] w (Pure w (.tuple #[.string (B (Ex.txt (.mk o v t n cc al) 1).1), .int .i64 ((Ex.txt (.mk o v t n cc al) 1).2 : Int)]))) : Calls Tryz.prog 42 #[.agg ([.int .i64 o, .int .i64 v.k, .int .i64 v.n, .string (B v.s), .string (B t), .string (B n), .int .i64 cc, .slice Ax al.length kx] : List Value).toArray, .int .i64 low] w (Pure w (.tuple #[.string (B (Ex.txt (.mk o v t n cc al) low).1), .int .i64 ((Ex.txt (.mk o v t n cc al) low).2 : Int)])) := by
  refine calls_tri (args := [.agg ([.int .i64 o, .int .i64 v.k, .int .i64 v.n, .string (B v.s), .string (B t), .string (B n), .int .i64 cc, .slice Ax al.length kx] : List Value).toArray, .int .i64 low]) (lent := []) (H := []) Tryz.func42 rfl Tryz.ntmps42 rfl (Sat.start _ _ _ _) ?_; refine (show Tri _ [(0, _), (1, _)] _ _ _ from ?_)
  have hl8 := lvl_le o
  have e1 : Ex.txt (.mk o v t n cc al) 1 = Ex.core (.mk o v t n cc al) := txt_low (by show ¬ lvl o < 1; omega)
  rw [txt_wrap hlow, ← e1] at hd hb ⊢
  simp only [List.length_cons, List.length_append, List.length_nil] at hd hb ⊢
  refine tri_seq (tri_region ?_); refine o_box _ rfl rfl rfl (fun b2 => ?_); refine o_assign rfl rfl ?_; refine o_assignN rfl rfl ?_; refine tri_seq (tri_region ?_); refine o_field fo30_0 rfl rfl ?_; refine o_load agg3 (by repeat (first | exact Nth.z | apply Nth.s)) rfl rfl rfl ?_; refine o_callP (first := []) (cap := []) rfl rfl rfl Tryz.call76 (fun w1 h1 => floorK o w1) ?_
  rw [flr_lvl hor]
  refine o_assignN rfl rfl ?_; refine tri_seq ?_; refine tri_seq ?_; refine tri_slots [(6, _), (2, _), (1, _)] (.cons rfl (.cons rfl (.cons rfl (.nil _)))) ?_; refine tri_region ?_; refine o_move rfl rfl ?_; refine o_move rfl rfl ?_; refine o_lss rfl rfl rfl ?_; refine triL_nilN ?_; refine tri_if rfl (fun q0 => ?_) (fun q0 => ?_)
  · skip
    refine tri_seq ?_; refine tri_slots [(2, _)] (.cons rfl (.nil _)) ?_; refine tri_region ?_; refine o_loadA agg30 sz30 .z rfl rfl (vs := ([.int .i64 o, .int .i64 v.k, .int .i64 v.n, .string (B v.s), .string (B t), .string (B n), .int .i64 cc, .slice Ax al.length kx] : List Value)) rfl rfl ?_; refine o_callP (first := []) (cap := []) rfl rfl rfl Tryz.call42 (fun w1 h1 => ih _ w1 (ExC.chg h1.chg _ _ hK) (hL.chg h1.chg) (by omega)) ?_; refine o_move rfl rfl ?_; refine o_extract rfl rfl rfl ?_; refine o_extract rfl rfl rfl ?_; refine o_assign rfl rfl ?_; refine o_assignN rfl rfl ?_; refine tri_seq ?_; refine tri_slots [(8, _), (7, _)] (.cons rfl (.cons rfl (.nil _))) ?_; refine tri_region ?_; refine o_move rfl rfl ?_; refine o_cat rfl rfl rfl (by (try simp only [List.length_cons, List.length_nil]); omega) ?_; refine o_cat rfl rfl rfl (by (try simp only [List.length_append, List.length_cons, List.length_nil]); omega) ?_; refine o_move rfl rfl ?_; refine o_addN rfl rfl rfl (by (try simp only [List.length_append, List.length_cons, List.length_nil]); omega) ?_; refine o_assign rfl rfl ?_; refine o_assignN rfl rfl ?_; refine tri_ret ?_; refine thenQ_ret ?_; refine end2 rfl rfl rfl ?_
    exact fun w1 hw1 => ⟨tup_eq (by simp) (by omega), hw1.chg⟩
  · skip
    exact absurd hlow q0
theorem dexprK : ∀ (n : Nat) (e : Ex), e.size < n → e.may = true → e.ok → DX e := by
  intro n
  induction n with
  | zero => intro e h; omega
  | succ n ih =>
    intro e hs hm ho
    have hde := deep_le (n + 1) e hs hm
    obtain ⟨o, v, t, nn, cc, al⟩ := e
    obtain ⟨m1, m2, m3, m4, m5⟩ := may_parts hm
    have ih2 : ∀ i, i < al.length → DX (al.getD i Ex.zero) := fun i hi => ih _ (by have := Ex.size_at (o := o) (c := cc) (v := v) (t := t) (n := nn) hi; omega) (m5 i hi) (Ex.ok_at ho hi)
    have hof : o = 1 → fit v := fun h => fit_of (m2 h) ho.2.1
    have core : ∀ low : Int, ¬ lvl o < low → ∀ (cs : List Value) (w : World), ExC w (.mk o v t nn cc al) cs → LV w → (Ex.txt (.mk o v t nn cc al) low).1.length ≤ 70368744177664 → Calls Tryz.prog 42 #[.agg cs.toArray, .int .i64 low] w (Pure w (.tuple #[.string (B (Ex.txt (.mk o v t nn cc al) low).1), .int .i64 ((Ex.txt (.mk o v t nn cc al) low).2 : Int)])) := by
      intro low hl cs w h1 h2 h3
      obtain ⟨Ax, kx, xs, rfl, a1, a2, a3⟩ := h1
      exact dexprCore o cc v t nn al Ax kx xs low w a1 a2 a3 h2 (Nat.le_trans (hde low) h3) h3 hl hof m3 m4 m1 ih2
    intro low cs w h1 h2 h3
    by_cases hl : lvl o < low
    · have hk := h1
      obtain ⟨Ax, kx, xs, rfl, _⟩ := h1
      have hl8 := lvl_le o
      exact dexprWrap o cc v t nn al Ax kx xs low w hk h2 (Nat.le_trans (hde low) h3) h3 hl m1 (fun cs w => core 1 (by omega) cs w)
    · exact core low hl cs w h1 h2 h3
def DMX (e : Ex) : Prop := ∀ (cs : List Value) (w : World), ExC w e cs → e.ok → e.size ≤ 70368744177664 → Calls Tryz.prog 39 #[.agg cs.toArray] w (Pure w (.bool e.may))
theorem ard1 {o : Int} (h : (decide (4 ≤ o) && decide (o ≤ 7)) = true) : arity o = 1 := by
  simp only [Bool.and_eq_true, decide_eq_true_eq] at h
  unfold arity; rw [if_pos (by omega)]
theorem ard2 {o : Int} (h : (decide (4 ≤ o) && decide (o ≤ 7)) = false) : arity o = 2 := by
  have h : ¬ (4 ≤ o ∧ o ≤ 7) := by simpa using h
  unfold arity; rw [if_neg (by omega)]
set_option maxHeartbeats 1000000 in
theorem dmayStep (e : Ex) (y : SL) (xs : List Value) (w : World) (hE : ExC w e (exCs e y)) (hy : e.as.length ≤ y.k) (hxr : Rd w y.A xs) (hxs : ExsC w e.as xs) (ho : e.ok) (hz : e.size ≤ 70368744177664) (ih : ∀ i, i < e.as.length → DMX (e.as.getD i Ex.zero)) : Calls Tryz.prog 39 #[.agg (exCs e y).toArray] w (Pure w (.bool e.may)) := by
  refine calls_tri (args := [.agg (exCs e y).toArray]) (lent := []) (H := []) Tryz.func39 rfl Tryz.ntmps39 rfl (Sat.start _ _ _ _) ?_; refine (show Tri _ [(0, _)] _ _ _ from ?_)
  have hR : ∀ cx H, cx.w0 = w → cx.lent = [] → RdS cx H y.A _ := fun cx H q1 q2 => RdS.lent (by rw [q1]; exact hxr) (fun b hb => by rw [q2]; simp)
  have hxl := hxs.len
  have hvs := v_size (e := e)
  have hal := as_len (e := e)
  refine tri_seq (tri_region ?_); refine o_box _ rfl rfl rfl (fun b1 => ?_); refine o_assignN rfl rfl ?_; refine tri_seq ?_; refine tri_seq (tri_region ?_); refine o_field fo30_0 rfl rfl ?_; refine o_load agg3 (by repeat (first | exact Nth.z | apply Nth.s)) rfl rfl rfl ?_; refine o_eqlI rfl rfl rfl ?_; refine triL_nilN ?_; refine tri_if rfl (fun q0 => ?_) (fun q0 => ?_)
  · skip
    refine tri_seq ?_; refine tri_slots [(1, _)] (.cons rfl (.nil _)) ?_; refine tri_region ?_; refine o_loadA agg30 sz30 .z rfl rfl (vs := exCs e y) rfl rfl ?_; refine o_field fo30_1 rfl rfl ?_; refine o_loadA agg27 sz27 .z rfl rfl (vs := Val.cs e.v) rfl rfl ?_; refine o_build (built30_0_1 _ _) rfl rfl ?_; refine o_callP (first := []) (cap := []) rfl rfl rfl Tryz.call17 (fun w1 h1 => sameE e (.mk 1 e.v [] [] 0 []) (exCs e y) (exCs (.mk 1 e.v [] [] 0 []) SL.nil) w1 (ExC.chg h1.chg _ _ hE) (leafC w1 1 e.v [] [] 0) hz) ?_; refine o_move rfl rfl ?_
    refine' triL_and [_, _, _] [(1, _)] (dj := 13) (dr := 16) rfl rfl (fun g1 => ?_) ⟨_, rfl, rfl, rfl, (.cons rfl (.nil _))⟩ rfl ?_
    rotate_left
    · skip
      refine o_field fo30_1 rfl rfl ?_; refine o_loadA agg27 sz27 .z rfl rfl (vs := Val.cs e.v) rfl rfl ?_; refine o_callP (first := []) (cap := []) rfl rfl rfl Tryz.call75 (fun w1 h1 => mayR e.v w1 ⟨v_ok ho, by omega⟩) ?_
      exact triL_nil (Piece.mk rfl rfl (.cons rfl (.nil _)) (fun _ h => h))
    refine o_move rfl rfl ?_
    refine' triL_and [_, _, _, _, _, _, _, _, _, _] [] (dj := 18) (dr := 28) rfl rfl (fun g2 => ?_) ⟨_, rfl, rfl, rfl, (.nil _)⟩ rfl ?_
    rotate_left
    · skip
      refine o_field fo30_1 rfl rfl ?_; refine o_field fo27_0 rfl rfl ?_; refine o_load agg3 (by repeat (first | exact Nth.z | apply Nth.s)) rfl rfl rfl ?_; refine o_neqI rfl rfl rfl ?_; refine o_move rfl rfl ?_
      refine' triL_or [_, _, _, _] [(18, _)] (dj := 23) (dr := 27) rfl rfl (fun g3 => ?_) ⟨_, rfl, rfl, rfl, (.cons rfl (.nil _))⟩ rfl ?_
      rotate_left
      · skip
        refine o_field fo30_1 rfl rfl ?_; refine o_field fo27_1 rfl rfl ?_; refine o_load agg2 (by repeat (first | exact Nth.z | apply Nth.s)) rfl rfl rfl ?_; refine o_geq rfl rfl rfl ?_
        exact triL_nil (Piece.mk rfl rfl (.cons rfl (.nil _)) (fun _ h => h))
      exact triL_nil (Piece.mk rfl rfl (.nil _) (fun _ h => h))
    refine o_assignN rfl rfl ?_; refine tri_ret ?_; refine thenQ_ret ?_; refine end1 rfl rfl ?_
    exact fun w1 hw1 => ⟨congrArg (fun b => Ending.returned (.bool b)) (by exact dmay_1 q0), hw1.chg⟩
  · skip
    refine tri_skip ?_; refine thenQ_normal ?_; refine tri_seq ?_; refine tri_seq ?_; refine tri_slots [(1, _)] (.cons rfl (.nil _)) ?_; refine tri_region ?_; refine o_field fo30_0 rfl rfl ?_; refine o_load agg3 (by repeat (first | exact Nth.z | apply Nth.s)) rfl rfl rfl ?_; refine o_eqlI rfl rfl rfl ?_; refine triL_nilN ?_; refine tri_if rfl (fun q1 => ?_) (fun q1 => ?_)
    · skip
      refine tri_seq (tri_region ?_); refine o_loadA agg30 sz30 .z rfl rfl (vs := exCs e y) rfl rfl ?_; refine o_field fo30_2 rfl rfl ?_; refine o_load agg9 (by repeat (first | exact Nth.z | apply Nth.s)) rfl rfl rfl ?_; refine o_field fo30_3 rfl rfl ?_; refine o_load agg9 (by repeat (first | exact Nth.z | apply Nth.s)) rfl rfl rfl ?_; refine o_build (built30_0_2_3 _ _ _) rfl rfl ?_; refine o_callP (first := []) (cap := []) rfl rfl rfl Tryz.call17 (fun w1 h1 => sameE e (.mk 2 Val.zero e.t e.n 0 []) (exCs e y) (exCs (.mk 2 Val.zero e.t e.n 0 []) SL.nil) w1 (ExC.chg h1.chg _ _ hE) (leafC w1 2 Val.zero e.t e.n 0) hz) ?_; refine o_move rfl rfl ?_
      refine' triL_and [_, _, _] [(1, _)] (dj := 40) (dr := 43) rfl rfl (fun g4 => ?_) ⟨_, rfl, rfl, rfl, (.cons rfl (.nil _))⟩ rfl ?_
      rotate_left
      · skip
        refine o_field fo30_3 rfl rfl ?_; refine o_load agg9 (by repeat (first | exact Nth.z | apply Nth.s)) rfl rfl rfl ?_; refine o_callP (first := []) (cap := []) rfl rfl rfl Tryz.call36 (fun w1 h1 => nameD e.n w1 (by omega)) ?_
        exact triL_nil (Piece.mk rfl rfl (.cons rfl (.nil _)) (fun _ h => h))
      refine o_move rfl rfl ?_
      refine' triL_and [_, _, _, _, _, _, _, _] [] (dj := 45) (dr := 53) rfl rfl (fun g5 => ?_) ⟨_, rfl, rfl, rfl, (.nil _)⟩ rfl ?_
      rotate_left
      · skip
        refine o_field fo30_2 rfl rfl ?_; refine o_load agg9 (by repeat (first | exact Nth.z | apply Nth.s)) rfl rfl rfl ?_; refine o_eqlT rfl rfl rfl ?_; refine o_move rfl rfl ?_
        refine' triL_or [_, _, _] [(45, _)] (dj := 49) (dr := 52) rfl rfl (fun g6 => ?_) ⟨_, rfl, rfl, rfl, (.cons rfl (.nil _))⟩ rfl ?_
        rotate_left
        · skip
          refine o_field fo30_2 rfl rfl ?_; refine o_load agg9 (by repeat (first | exact Nth.z | apply Nth.s)) rfl rfl rfl ?_; refine o_callP (first := []) (cap := []) rfl rfl rfl Tryz.call36 (fun w1 h1 => nameD e.t w1 (by omega)) ?_
          exact triL_nil (Piece.mk rfl rfl (.cons rfl (.nil _)) (fun _ h => h))
        exact triL_nil (Piece.mk rfl rfl (.nil _) (fun _ h => h))
      refine o_assignN rfl rfl ?_; refine tri_ret ?_; refine thenQ_ret ?_; refine end1 rfl rfl ?_
      exact fun w1 hw1 => ⟨congrArg (fun b => Ending.returned (.bool b)) (by exact dmay_2 q1), hw1.chg⟩
    · skip
      refine tri_skip ?_; refine thenQ_normal ?_; refine tri_seq (tri_region ?_); refine o_assignN rfl rfl ?_; refine tri_join (ι := Nat) (fun i => [(1, .pointer (some ⟨b1, 0, none⟩)), (3, .int .i64 (arity e.o : Int))]) (fun i => [box b1 30 (exCs e y)]) (fun i => True) ?_ (fun i hj => ?_)
      · skip
        refine tri_seq (tri_region ?_); refine o_field fo30_0 rfl rfl ?_; refine o_load agg3 (by repeat (first | exact Nth.z | apply Nth.s)) rfl rfl rfl ?_; refine o_geq rfl rfl rfl ?_; refine o_move rfl rfl ?_
        refine' triL_and [_, _, _] [(3, _), (1, _)] (dj := 58) (dr := 61) rfl rfl (fun g7 => ?_) ⟨_, rfl, rfl, rfl, (.cons rfl (.cons rfl (.nil _)))⟩ rfl ?_
        rotate_left
        · skip
          refine o_field fo30_0 rfl rfl ?_; refine o_load agg3 (by repeat (first | exact Nth.z | apply Nth.s)) rfl rfl rfl ?_; refine o_leq rfl rfl rfl ?_
          exact triL_nil (Piece.mk rfl rfl (.cons rfl (.cons rfl (.nil _))) (fun _ h => h))
        refine triL_nilN ?_; refine tri_cond rfl (fun q2 => ?_) (fun q2 => ?_)
        · skip
          refine tri_region ?_; refine o_assignN rfl rfl ?_
          exact ⟨0, (.cons rfl (.cons (by rw [ard1 q2]; rfl) (.nil _))), fun _ h => h, trivial⟩
        · skip
          refine tri_skip ?_; refine thenQ_normal ?_
          exact ⟨0, (.cons rfl (.cons (by rw [ard2 q2]; rfl) (.nil _))), fun _ h => h, trivial⟩
      refine tri_seq ?_; refine tri_seq (tri_region ?_); refine o_field fo30_0 rfl rfl ?_; refine o_load agg3 (by repeat (first | exact Nth.z | apply Nth.s)) rfl rfl rfl ?_; refine o_lss rfl rfl rfl ?_; refine o_move rfl rfl ?_
      refine' triL_or [_, _, _] [(1, _), (3, _)] (dj := 66) (dr := 69) rfl rfl (fun g8 => ?_) ⟨_, rfl, rfl, rfl, (.cons rfl (.cons rfl (.nil _)))⟩ rfl ?_
      rotate_left
      · skip
        refine o_field fo30_0 rfl rfl ?_; refine o_load agg3 (by repeat (first | exact Nth.z | apply Nth.s)) rfl rfl rfl ?_; refine o_gtr rfl rfl rfl ?_
        exact triL_nil (Piece.mk rfl rfl (.cons rfl (.cons rfl (.nil _))) (fun _ h => h))
      refine o_move rfl rfl ?_
      refine' triL_or [_, _, _, _, _] [(1, _), (3, _)] (dj := 71) (dr := 76) rfl rfl (fun g9 => ?_) ⟨_, rfl, rfl, rfl, (.cons rfl (.cons rfl (.nil _)))⟩ rfl ?_
      rotate_left
      · skip
        refine o_field fo30_5 rfl rfl ?_; refine o_load agg28 (by repeat (first | exact Nth.z | apply Nth.s)) rfl rfl rfl ?_; refine o_lenS Tryz.underlying28 rfl rfl ?_; refine o_move rfl rfl ?_; refine o_neqI rfl rfl rfl ?_
        exact triL_nil (Piece.mk rfl rfl (.cons rfl (.cons rfl (.nil _))) (fun _ h => h))
      refine o_move rfl rfl ?_
      refine' triL_or [_, _, _, _, _, _, _, _] [(1, _), (3, _)] (dj := 78) (dr := 86) rfl rfl (fun g10 => ?_) ⟨_, rfl, rfl, rfl, (.cons rfl (.cons rfl (.nil _)))⟩ rfl ?_
      rotate_left
      · skip
        refine o_loadA agg30 sz30 .z rfl rfl (vs := exCs e y) rfl rfl ?_; refine o_field fo30_0 rfl rfl ?_; refine o_load agg3 (by repeat (first | exact Nth.z | apply Nth.s)) rfl rfl rfl ?_; refine o_field fo30_5 rfl rfl ?_; refine o_load agg28 (by repeat (first | exact Nth.z | apply Nth.s)) rfl rfl rfl ?_; refine o_build (built30_0_5 _ _ _ _) rfl rfl ?_; refine o_callP (first := []) (cap := []) rfl rfl rfl Tryz.call17 (fun w1 h1 => sameE e (.mk e.o Val.zero [] [] 0 e.as) (exCs e y) (exCs (.mk e.o Val.zero [] [] 0 e.as) y) w1 (ExC.chg h1.chg _ _ hE) ⟨y.A, y.k, xs, rfl, hy, hxr.ext h1.chg, ExsC.chg h1.chg _ _ hxs⟩ hz) ?_; refine o_not rfl rfl ?_
        exact triL_nil (Piece.mk rfl rfl (.cons rfl (.cons rfl (.nil _))) (fun _ h => h))
      refine triL_nilN ?_; refine tri_cond rfl (fun q3 => ?_) (fun q3 => ?_)
      · skip
        refine tri_seq (tri_region ?_); refine o_assignN rfl rfl ?_; refine tri_ret ?_; refine thenQ_ret ?_; refine end1 rfl rfl ?_
        exact fun w1 hw1 => ⟨congrArg (fun b => Ending.returned (.bool b)) (by exact (dmay_bad q0 q1 q3).symm), hw1.chg⟩
      · skip
        have hda := dmay_all q0 q1 q3
        refine tri_skip ?_; refine thenQ_normal ?_; refine tri_seq ?_; refine tri_seq (tri_region ?_); refine o_assignN rfl rfl ?_; refine tri_block ?_; refine tri_loop (ι := Nat) (F := fun i => [(1, .pointer (some ⟨b1, 0, none⟩)), (3, .int .i64 (arity e.o : Int)), (4, .int .i64 (i : Int))]) (HH := fun i => [box b1 30 (exCs e y)]) (Pu := fun i => i ≤ e.as.length ∧ (e.as.take i).all Ex.may = true) (μ := fun i => e.as.length - i) (0) (.cons rfl (.cons rfl (.cons rfl (.nil _)))) (fun _ h => h) (⟨Nat.zero_le _, rfl⟩) (fun i hi => ?_); refine tri_seq ?_; refine tri_seq (tri_region ?_); refine o_move rfl rfl ?_; refine o_move rfl rfl ?_; refine o_lss rfl rfl rfl ?_; refine triL_nilN ?_; refine tri_if rfl (fun q4 => ?_) (fun q4 => ?_)
        · skip
          refine tri_skip ?_; refine thenQ_normal ?_; refine tri_seq ?_; refine tri_block ?_; refine tri_seq ?_
          have hil : i < e.as.length := by omega
          obtain ⟨ca, hca, hka⟩ := ExsC.at i hxs hil
          refine tri_region ?_; refine o_field fo30_5 rfl rfl ?_; refine o_load agg28 (by repeat (first | exact Nth.z | apply Nth.s)) rfl rfl rfl ?_; refine o_move rfl rfl ?_; refine o_idxS Tryz.underlying28 sz30 rfl rfl rfl (hR _ _ rfl rfl) (by (try simp only [List.length_append, List.length_cons, List.length_nil]); omega) (by (try simp only [List.length_append, List.length_cons, List.length_nil]); omega) (by omega) (by decide) ?_; refine o_loadRA agg30 sz30 rfl rfl (hR _ _ rfl rfl) (vs := ca) hca hka.len (by decide) ?_; refine o_callP (first := []) (cap := []) rfl rfl rfl Tryz.call39 (fun w1 h1 => ih i hil ca w1 (ExC.chg h1.chg _ _ hka) (as_ok ho hil) (by have := as_size (e := e) hil; omega)) ?_; refine o_not rfl rfl ?_; refine triL_nilN ?_; refine tri_cond rfl (fun q5 => ?_) (fun q5 => ?_)
          · skip
            have q5 := not_true q5
            refine tri_seq ?_; refine tri_slots [] (.nil _) ?_; refine tri_region ?_; refine o_assignN rfl rfl ?_; refine tri_ret ?_; refine blockQ_ret ?_; refine thenQ_ret ?_; refine thenQ_ret ?_; refine blockQ_ret ?_; refine thenQ_ret ?_; refine end1 rfl rfl ?_
            exact fun w1 hw1 => ⟨congrArg (fun b => Ending.returned (.bool b)) (by rw [hda.1]; exact (all_hit hil q5).symm), hw1.chg⟩
          · skip
            have q5 := not_false q5
            refine tri_skip ?_; refine blockQ_normal ?_; refine thenQ_normal ?_; refine tri_slots [(1, _), (3, _), (4, _)] (.cons rfl (.cons rfl (.cons rfl (.nil _)))) ?_; refine tri_region ?_; refine o_move rfl rfl ?_; refine o_addN rfl rfl rfl (by (try simp only [List.length_append, List.length_cons, List.length_nil]); omega) ?_; refine o_assignN rfl rfl ?_
            exact ⟨i + 1, (.cons rfl (.cons rfl (.cons rfl (.nil _)))), fun _ h => h, ⟨by omega, all_step hil hi.2 q5⟩, by omega⟩
        · skip
          refine tri_exit ?_; refine thenQ_exit ?_; refine thenQ_exit ?_; refine blockQ_here ?_; refine thenQ_normal ?_; refine tri_seq ?_; refine tri_slots [] (.nil _) ?_; refine tri_region ?_; refine o_assignN rfl rfl ?_; refine tri_ret ?_; refine end1 rfl rfl ?_
          exact fun w1 hw1 => ⟨congrArg (fun b => Ending.returned (.bool b)) (by rw [hda.1, ← hi.2, List.take_of_length_le (by omega)]), hw1.chg⟩
theorem dmayAll : ∀ (n : Nat) (e : Ex), e.size < n → DMX e := by
  intro n
  induction n with
  | zero => intro e h; omega
  | succ n ih =>
    intro e hs cs w hc ho hz
    have hk := hc
    obtain ⟨y, xs, rfl, h1, h2, h3⟩ := exC_R hc
    exact dmayStep e y xs w hk h1 h2 h3 ho hz (fun i hi => ih _ (by have := as_size (e := e) hi; omega))
theorem dmayE (e : Ex) (cs : List Value) (w : World) (h : ExC w e cs) (ho : e.ok) (hz : e.size ≤ 70368744177664) : Calls Tryz.prog 39 #[.agg cs.toArray] w (Pure w (.bool e.may)) := dmayAll (e.size + 1) e (by omega) cs w h ho hz
theorem dexprE (e : Ex) (hm : e.may = true) (ho : e.ok) (low : Int) (cs : List Value) (w : World) (h : ExC w e cs) (hL : LV w) (hb : (e.txt low).1.length ≤ 70368744177664) : Calls Tryz.prog 42 #[.agg cs.toArray, .int .i64 low] w (Pure w (.tuple #[.string (B (e.txt low).1), .int .i64 ((e.txt low).2 : Int)])) := dexprK (e.size + 1) e (by omega) hm ho low cs w h hL hb
theorem printExprD (e : Ex) (y : SL) (w : World) (hE : ExC w e (exCs e y)) (hL : LV w) (ho : e.ok) (hz : e.size ≤ 70368744177664) (hT : e.may = true → (e.txt 1).1.length ≤ 70368744177664) : Calls Tryz.prog 14 #[.agg (exCs e y).toArray] w (Pure w (.tuple #[.string (B (prX e).1), .int .i64 (prX e).2])) := by
  refine calls_tri (args := [.agg (exCs e y).toArray]) (lent := []) (H := []) Tryz.func14 rfl Tryz.ntmps14 rfl (Sat.start _ _ _ _) ?_; refine (show Tri _ [(0, _)] _ _ _ from ?_)
  rw [prX_told]
  refine tri_seq (tri_region ?_); refine o_box _ rfl rfl rfl (fun b1 => ?_); refine o_assign rfl rfl ?_; refine o_assignN rfl rfl ?_; refine tri_seq ?_; refine tri_seq (tri_region ?_); refine o_loadA agg30 sz30 .z rfl rfl (vs := exCs e y) rfl rfl ?_; refine o_callP (first := []) (cap := []) rfl rfl rfl Tryz.call39 (fun w1 h1 => dmayE e _ w1 (ExC.chg h1.chg _ _ hE) ho hz) ?_; refine o_not rfl rfl ?_; refine triL_nilN ?_; refine tri_cond rfl (fun q0 => ?_) (fun q0 => ?_)
  · skip
    have q0 := not_true q0
    refine tri_seq ?_; refine tri_slots [] (.nil _) ?_; refine tri_region ?_; refine o_assign rfl rfl ?_; refine o_assignN rfl rfl ?_; refine tri_ret ?_; refine thenQ_ret ?_; refine end2 rfl rfl rfl ?_
    exact fun w1 hw1 => ⟨by rw [if_neg (ne_t q0)], hw1.chg⟩
  · skip
    have q0 := not_false q0
    refine tri_skip ?_; refine thenQ_normal ?_; refine tri_seq ?_; refine tri_slots [(1, _)] (.cons rfl (.nil _)) ?_; refine tri_region ?_; refine o_loadA agg30 sz30 .z rfl rfl (vs := exCs e y) rfl rfl ?_; refine o_callP (first := []) (cap := []) rfl rfl rfl Tryz.call42 (fun w1 h1 => dexprE e q0 ho 1 _ w1 (ExC.chg h1.chg _ _ hE) (hL.chg h1.chg) (hT q0)) ?_; refine o_move rfl rfl ?_; refine o_extract rfl rfl rfl ?_; refine o_extract rfl rfl rfl ?_; refine o_assign rfl rfl ?_; refine o_assignN rfl rfl ?_; refine tri_seq ?_; refine tri_seq ?_; refine tri_slots [(5, _), (4, _)] (.cons rfl (.cons rfl (.nil _))) ?_; refine tri_region ?_; refine o_move rfl rfl ?_; refine o_gtr rfl rfl rfl ?_; refine triL_nilN ?_; refine tri_if rfl (fun q1 => ?_) (fun q1 => ?_)
    · skip
      refine tri_seq ?_; refine tri_slots [] (.nil _) ?_; refine tri_region ?_; refine o_assign rfl rfl ?_; refine o_assignN rfl rfl ?_; refine tri_ret ?_; refine thenQ_ret ?_; refine end2 rfl rfl rfl ?_
      exact fun w1 hw1 => ⟨by rw [if_pos q0, toldX, if_pos q1], hw1.chg⟩
    · skip
      refine tri_skip ?_; refine thenQ_normal ?_; refine tri_seq ?_; refine tri_seq (tri_region ?_); refine o_move rfl rfl ?_; refine o_lenB Tryz.underlying9 rfl rfl ?_; refine o_gtr rfl rfl rfl ?_; refine triL_nilN ?_; refine tri_if rfl (fun q2 => ?_) (fun q2 => ?_)
      · skip
        refine tri_seq ?_; refine tri_slots [] (.nil _) ?_; refine tri_region ?_; refine o_assign rfl rfl ?_; refine o_assignN rfl rfl ?_; refine tri_ret ?_; refine thenQ_ret ?_; refine end2 rfl rfl rfl ?_
        exact fun w1 hw1 => ⟨by rw [if_pos q0, toldX, if_neg q1, if_pos (by omega)], hw1.chg⟩
      · skip
        refine tri_skip ?_; refine thenQ_normal ?_; refine tri_seq ?_; refine tri_slots [(4, _)] (.cons rfl (.nil _)) ?_; refine tri_region ?_; refine o_move rfl rfl ?_; refine o_assign rfl rfl ?_; refine o_assignN rfl rfl ?_; refine tri_ret ?_; refine end2 rfl rfl rfl ?_
        exact fun w1 hw1 => ⟨by rw [if_pos q0, toldX, if_neg q1, if_neg (by omega)], hw1.chg⟩
end Go.Proofs.YtjbpkcbefmpfgaaGreatDoor
