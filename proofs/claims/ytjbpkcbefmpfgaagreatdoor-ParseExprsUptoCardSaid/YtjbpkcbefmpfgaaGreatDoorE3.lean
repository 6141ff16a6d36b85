/- Parts of the proof, joined: LxWalks, Shelf, LLib, LxWalks2, LxWalks3, LxWalks4, Errs, LxWalks5, LxWalks8, Pk1, Pk2, Pk3. -/
import Derived.Test.YtjbpkcbefmpfgaaGreatDoorE2
import Derived.Test.YtjbpkcbefmpfgaaGreatDoorProg
import Derived.KernelRfl
import Derived.Shelf.Strings.Builder1
import Derived.Shelf.Strings.Builder2
import Derived.Shelf.Strings.OnBuilder
import Derived.Shelf.Small.Utf8
import Derived.Shelf.Small.Strs
import Derived.Shelf.Strings.BuilderF
import Derived.Shelf.Strings.BuilderK
import Derived.Shelf.Utf8.RuneCount
import Derived.Shelf.Strings.Builder2Cap
import Derived.Shelf.Strconv.Atoi
import Derived.Shelf.Strconv.Itoa0
import Derived.Shelf.Strconv.Itoa1
import Derived.Shelf.LaysM
import Derived.Shelf.Strconv.Itoa2
import Derived.Shelf.Strconv.Itoa3
import Derived.Shelf.Strconv.Itoa4
import Derived.Shelf.Strconv.AtoiErrFast
import Derived.Shelf.Strconv.ParseIntEmpty
import Derived.Shelf.Strconv.AtoiFail
import Derived.Shelf.Strconv.Clone
import Derived.Shelf.Strconv.SyntaxError
import Derived.Shelf.LaysC
import Derived.Shelf.Strconv.ToError
import Derived.Shelf.Strconv.AtoiErr
import Derived.Shelf.Strconv.ErrVar
import Derived.Shelf.Strconv.Lower
import Derived.Shelf.Strconv.ParseUint10
import Derived.Shelf.Strconv.ParseUint10Empty
import Derived.Shelf.Strconv.ParseUint10Any
import Derived.Shelf.Strconv.ParseInt10
import Derived.Shelf.Strconv.AtoiLong
import Derived.Shelf.Strconv.AtoiInnerAll
import Derived.Shelf.Strconv.RangeError
import Derived.Shelf.Strconv.ToErrorRange
import Derived.Shelf.Strconv.AtoiAll
import Derived.Shelf.Strconv.ErrVarAll
import Derived.Shelf.Strconv.ParseUintEmpty
import Derived.Shelf.Strconv.ParseUint10b64
import Derived.Shelf.Strconv.ParseUint10b32
import Derived.Shelf.Strconv.ParseUint10b16
import Derived.Shelf.Strconv.ParseUint10b8
import Derived.Shelf.Strconv.ParseUint10At
import Derived.Shelf.Strconv.ParseInt10At64
import Derived.Shelf.Strconv.ParseInt10At32
import Derived.Shelf.Strconv.ParseInt10At16
import Derived.Shelf.Strconv.ParseInt10At8
import Derived.Shelf.Strconv.ParseInt10All
import Derived.Shelf.Strconv.ParseIntPublic10
import Derived.Shelf.Strconv.ErrVarParseInt
import Derived.Shelf.Strings.Search1
import Derived.Shelf.Strings.Search2
import Derived.Shelf.Strings.Search3
import Derived.Shelf.Strings.Count
import Derived.Shelf.Strings.Shaped
import Derived.Shelf.Strings.Prefix
import Derived.Shelf.Strings.Split
import Derived.Shelf.Strings.Replace
import Derived.Shelf.Strings.SplitShaped
import Derived.Shelf.Unicode.Latin
import Derived.Shelf.Unicode.Decode
import Derived.Shelf.Strings.RuneCount
import Derived.Shelf.Unicode.DecodeSlow
import Derived.Shelf.Unicode.DecodeAny
import Derived.Shelf.Unicode.CaseLookup
import Derived.Shelf.Unicode.CaseConvert
import Derived.Shelf.Unicode.CaseTo
import Derived.Shelf.Unicode.CaseLaid
import Derived.Shelf.Strings.BuilderCap
import Derived.WalkSmall
import Derived.Lib.SmallJoins
import Derived.Lib.AtoiErrMem
import Derived.WalkKit
import Derived.LaidEql
import Derived.Stop.Asserts
import Derived.RowKitTokens
namespace Go.Proofs.YtjbpkcbefmpfgaaGreatDoor
open Go.WK Go.RowKit 
theorem letterK (z : Int) (w : World)  : Calls Tryz.prog 82 #[.int .u8 z] w (Pure w (.bool (isLetZ z))) := by
  refine calls_tri (args := [.int .u8 z]) (lent := []) (H := []) Tryz.func82 rfl Tryz.ntmps82 rfl (Sat.start _ _ _ _) ?_; refine (show Tri _ [(0, _)] _ _ _ from ?_); refine tri_seq (tri_region ?_); refine o_assignN rfl rfl ?_; refine tri_seq (tri_region ?_); refine o_move rfl rfl ?_; refine o_geq rfl rfl rfl ?_; refine o_move rfl rfl ?_
  refine' triL_and [_, _] [(2, _), (0, _)] (dj := 5) (dr := 7) rfl rfl (fun g1 => ?_) ⟨_, rfl, rfl, rfl, (.cons rfl (.cons rfl (.nil _)))⟩ rfl ?_
  rotate_left
  · skip
    refine o_move rfl rfl ?_; refine o_leq rfl rfl rfl ?_
    exact triL_nil (Piece.mk rfl rfl (.cons rfl (.cons rfl (.nil _))) (fun _ h => h))
  refine o_move rfl rfl ?_
  refine' triL_or [_, _, _, _, _, _] [(2, _), (0, _)] (dj := 9) (dr := 15) rfl rfl (fun g2 => ?_) ⟨_, rfl, rfl, rfl, (.cons rfl (.cons rfl (.nil _)))⟩ rfl ?_
  rotate_left
  · skip
    refine o_move rfl rfl ?_; refine o_geq rfl rfl rfl ?_; refine o_move rfl rfl ?_
    refine' triL_and [_, _] [(9, _), (2, _), (0, _)] (dj := 12) (dr := 14) rfl rfl (fun g3 => ?_) ⟨_, rfl, rfl, rfl, (.cons rfl (.cons rfl (.cons rfl (.nil _))))⟩ rfl ?_
    rotate_left
    · skip
      refine o_move rfl rfl ?_; refine o_leq rfl rfl rfl ?_
      exact triL_nil (Piece.mk rfl rfl (.cons rfl (.cons rfl (.cons rfl (.nil _)))) (fun _ h => h))
    exact triL_nil (Piece.mk rfl rfl (.cons rfl (.cons rfl (.nil _))) (fun _ h => h))
  refine o_move rfl rfl ?_
  refine' triL_or [_, _] [(2, _)] (dj := 17) (dr := 19) rfl rfl (fun g4 => ?_) ⟨_, rfl, rfl, rfl, (.cons rfl (.nil _))⟩ rfl ?_
  rotate_left
  · skip
    refine o_move rfl rfl ?_; refine o_eqlI rfl rfl rfl ?_
    exact triL_nil (Piece.mk rfl rfl (.cons rfl (.nil _)) (fun _ h => h))
  refine o_assignN rfl rfl ?_; refine tri_ret ?_; refine end1 rfl rfl ?_
  exact fin_pure
theorem digitK (z : Int) (w : World)  : Calls Tryz.prog 85 #[.int .u8 z] w (Pure w (.bool (isDigZ z))) := by
  refine calls_tri (args := [.int .u8 z]) (lent := []) (H := []) Tryz.func85 rfl Tryz.ntmps85 rfl (Sat.start _ _ _ _) ?_; refine (show Tri _ [(0, _)] _ _ _ from ?_); refine tri_seq (tri_region ?_); refine o_assignN rfl rfl ?_; refine tri_seq (tri_region ?_); refine o_move rfl rfl ?_; refine o_geq rfl rfl rfl ?_; refine o_move rfl rfl ?_
  refine' triL_and [_, _] [(2, _)] (dj := 5) (dr := 7) rfl rfl (fun g1 => ?_) ⟨_, rfl, rfl, rfl, (.cons rfl (.nil _))⟩ rfl ?_
  rotate_left
  · skip
    refine o_move rfl rfl ?_; refine o_leq rfl rfl rfl ?_
    exact triL_nil (Piece.mk rfl rfl (.cons rfl (.nil _)) (fun _ h => h))
  refine o_assignN rfl rfl ?_; refine tri_ret ?_; refine end1 rfl rfl ?_
  exact fin_pure
theorem wdK (z : Int) (w : World)  : Calls Tryz.prog 84 #[.int .u8 z] w (Pure w (.bool (isLetZ z || isDigZ z))) := by
  refine calls_tri (args := [.int .u8 z]) (lent := []) (H := []) Tryz.func84 rfl Tryz.ntmps84 rfl (Sat.start _ _ _ _) ?_; refine (show Tri _ [(0, _)] _ _ _ from ?_); refine tri_seq (tri_region ?_); refine o_assignN rfl rfl ?_; refine tri_seq (tri_region ?_); refine o_move rfl rfl ?_; refine o_callP (first := []) (cap := []) rfl rfl rfl Tryz.call82 (fun w_ hw_ => letterK _ w_) ?_; refine o_move rfl rfl ?_
  refine' triL_or [_, _] [(2, _)] (dj := 5) (dr := 7) rfl rfl (fun g1 => ?_) ⟨_, rfl, rfl, rfl, (.cons rfl (.nil _))⟩ rfl ?_
  rotate_left
  · skip
    refine o_move rfl rfl ?_; refine o_callP (first := []) (cap := []) rfl rfl rfl Tryz.call85 (fun w_ hw_ => digitK _ w_) ?_
    exact triL_nil (Piece.mk rfl rfl (.cons rfl (.nil _)) (fun _ h => h))
  refine o_assignN rfl rfl ?_; refine tri_ret ?_; refine end1 rfl rfl ?_
  exact fin_pure
theorem runK (s : List UInt8) (q : Nat) (P : Int → Bool) (w : World) (hs : s.length ≤ 140737488355328) (hc : ∀ args w, (callFunc q args).run Tryz.prog w = .ok (.enter q args) w) (hq : ∀ z w, Calls Tryz.prog q #[.int .u8 z] w (Pure w (.bool (P z)))) : Calls Tryz.prog 83 #[.string (B s), .func (.func q) #[] #[]] w (Pure w (.int .i64 ((runL (fun c => P c.toNat) s : Nat) : Int))) := by
  refine calls_tri (args := [.string (B s), .func (.func q) #[] #[]]) (lent := []) (H := []) Tryz.func83 rfl Tryz.ntmps83 rfl (Sat.start _ _ _ _) ?_; refine (show Tri _ [(0, _), (1, _)] _ _ _ from ?_); refine tri_seq (tri_region ?_); refine o_assignN rfl rfl ?_; refine tri_seq (tri_region ?_); refine o_assignN rfl rfl ?_; refine tri_seq ?_; refine tri_block ?_; refine tri_loop (ι := Nat) (F := fun i => [(0, .string (B s)), (1, .func (.func q) #[] #[]), (5, .int .i64 (i : Int))]) (HH := fun i => []) (Pu := fun i => i ≤ s.length ∧ runL (fun c => P c.toNat) s = i + runL (fun c => P c.toNat) (s.drop i)) (μ := fun i => s.length - i) (0) (.cons rfl (.cons rfl (.cons rfl (.nil _)))) (fun _ h => h) (⟨by omega, by simp⟩) (fun i hi => ?_); refine tri_seq ?_; refine tri_seq (tri_region ?_); refine o_move rfl rfl ?_; refine o_move rfl rfl ?_; refine o_lenB Tryz.underlying9 rfl rfl ?_; refine o_lss rfl rfl rfl ?_; refine o_move rfl rfl ?_
  refine' triL_and [_, _, _, _, _] [(0, _), (1, _), (5, _)] (dj := 10) (dr := 15) rfl rfl (fun g1 => ?_) ⟨_, rfl, rfl, rfl, (.cons rfl (.cons rfl (.cons rfl (.nil _))))⟩ rfl ?_
  rotate_left
  · skip
    have g1 := of_decide_eq_true g1
    refine o_move rfl rfl ?_; refine o_move rfl rfl ?_; refine o_move rfl rfl ?_; refine o_idxB Tryz.underlying9 rfl rfl rfl (by omega) (by omega) ?_; refine o_callP (first := []) (cap := []) rfl rfl rfl hc (fun w1 h1 => hq _ w1) ?_
    exact triL_nil (Piece.mk rfl rfl (.cons rfl (.cons rfl (.cons rfl (.nil _)))) (fun _ h => h))
  refine triL_nilN ?_; refine tri_cond rfl (fun h1 => ?_) (fun h1 => ?_)
  · skip
    simp only [Bool.and_eq_true, decide_eq_true_eq] at h1
    have h1 : i < s.length ∧ P ((s.getD i 0).toNat : Int) = true := ⟨by omega, h1.2⟩
    refine tri_skip ?_; refine thenQ_normal ?_; refine tri_block ?_; refine tri_region ?_; refine o_move rfl rfl ?_; refine o_addN rfl rfl rfl (by omega) ?_; refine o_assign rfl rfl ?_; refine triL_nil ?_; refine blockQ_normal ?_; refine thenQ_normal ?_
    have e := run_step (fun c => P c.toNat) s i h1.1
    rw [if_pos h1.2] at e
    exact ⟨i + 1, (.cons rfl (.cons rfl (.cons rfl (.nil _)))), fun _ h => h, ⟨by omega, by omega⟩, by omega⟩
  · skip
    simp only [Bool.and_eq_false_iff, decide_eq_false_iff_not, Int.toNat_natCast] at h1
    have h1 : ¬ (i < s.length ∧ P ((s.getD i 0).toNat : Int) = true) := fun e => by
      rcases h1 with h1 | h1
      · omega
      · rw [e.2] at h1; cases h1
    refine tri_exit ?_; refine thenQ_exit ?_; refine thenQ_exit ?_; refine blockQ_here ?_; refine thenQ_normal ?_; refine tri_seq (tri_region ?_); refine o_move rfl rfl ?_; refine o_assignN rfl rfl ?_; refine tri_ret ?_; refine end1 rfl rfl ?_
    exact fun w1 hw1 => ⟨congrArg (fun b => Ending.returned (.int .i64 b)) (by have e := run_last (fun c => P c.toNat) s i h1; omega), hw1.chg⟩
theorem signK (c d : Int) (w : World)  : Calls Tryz.prog 89 #[.int .u8 c, .int .u8 d] w (Pure w (.int .i64 ((sgn c d : Nat) : Int))) := by
  refine calls_tri (args := [.int .u8 c, .int .u8 d]) (lent := []) (H := []) Tryz.func89 rfl Tryz.ntmps89 rfl (Sat.start _ _ _ _) ?_; refine (show Tri _ [(0, _), (1, _)] _ _ _ from ?_); refine tri_seq (tri_region ?_); refine o_assignN rfl rfl ?_; refine tri_seq ?_; refine tri_seq (tri_region ?_); refine o_move rfl rfl ?_; refine triL_nilN ?_; refine tri_block ?_; refine tri_seq ?_; refine tri_block ?_; refine tri_seq ?_; refine tri_block ?_; refine tri_seq ?_; refine tri_block ?_; refine tri_seq ?_; refine tri_block ?_; refine tri_seq ?_; refine tri_seq ?_; refine tri_seq (tri_region ?_); refine o_eqlI rfl rfl rfl ?_; refine o_assignN rfl rfl ?_; refine tri_if rfl (fun h0 => ?_) (fun h0 => ?_)
  · skip
    refine tri_exit ?_; refine thenQ_exit ?_; refine thenQ_exit ?_; refine blockQ_here ?_; refine thenQ_normal ?_; refine tri_seq ?_; refine tri_slots [(1, _)] (.cons rfl (.nil _)) ?_; refine tri_region ?_; refine o_move rfl rfl ?_; refine o_eqlI rfl rfl rfl ?_; refine triL_nilN ?_; refine tri_if rfl (fun h1 => ?_) (fun h1 => ?_)
    · skip
      refine tri_seq (tri_region ?_); refine o_assignN rfl rfl ?_; refine tri_ret ?_; refine blockQ_ret ?_; refine thenQ_ret ?_; refine blockQ_ret ?_; refine thenQ_ret ?_; refine blockQ_ret ?_; refine thenQ_ret ?_; refine blockQ_ret ?_; refine thenQ_ret ?_; refine end1 rfl rfl ?_
      exact fun w1 hw1 => ⟨congrArg (fun b => Ending.returned (.int .i64 b)) (by unfold sgn; (repeat' split) <;> first | rfl | omega), hw1.chg⟩
    · skip
      refine tri_skip ?_; refine blockQ_normal ?_; refine thenQ_normal ?_; refine tri_seq (tri_region ?_); refine o_move rfl rfl ?_; refine o_eqlI rfl rfl rfl ?_; refine triL_nilN ?_; refine tri_if rfl (fun h2 => ?_) (fun h2 => ?_)
      · skip
        refine tri_seq ?_; refine tri_slots [] (.nil _) ?_; refine tri_region ?_; refine o_assignN rfl rfl ?_; refine tri_ret ?_; refine blockQ_ret ?_; refine thenQ_ret ?_; refine blockQ_ret ?_; refine thenQ_ret ?_; refine blockQ_ret ?_; refine thenQ_ret ?_; refine end1 rfl rfl ?_
        exact fun w1 hw1 => ⟨congrArg (fun b => Ending.returned (.int .i64 b)) (by unfold sgn; (repeat' split) <;> first | rfl | omega), hw1.chg⟩
      · skip
        refine tri_skip ?_; refine blockQ_normal ?_; refine thenQ_normal ?_; refine tri_seq ?_; refine tri_seq ?_; refine tri_slots [] (.nil _) ?_; refine tri_region ?_; refine o_assignN rfl rfl ?_; refine tri_ret ?_; refine thenQ_ret ?_; refine blockQ_ret ?_; refine thenQ_ret ?_; refine blockQ_ret ?_; refine thenQ_ret ?_; refine end1 rfl rfl ?_
        exact fun w1 hw1 => ⟨congrArg (fun b => Ending.returned (.int .i64 b)) (by unfold sgn; (repeat' split) <;> first | rfl | omega), hw1.chg⟩
  · skip
    refine tri_skip ?_; refine thenQ_normal ?_; refine tri_seq ?_; refine tri_seq ?_; refine tri_slots [(5, _), (1, _)] (.cons rfl (.cons rfl (.nil _))) ?_; refine tri_region ?_; refine o_eqlI rfl rfl rfl ?_; refine o_assignN rfl rfl ?_; refine tri_if rfl (fun h1 => ?_) (fun h1 => ?_)
    · skip
      refine tri_exit ?_; refine thenQ_exit ?_; refine thenQ_exit ?_; refine blockQ_other rfl ?_; refine thenQ_exit ?_; refine blockQ_here ?_; refine thenQ_normal ?_; refine tri_seq (tri_region ?_); refine o_move rfl rfl ?_; refine o_eqlI rfl rfl rfl ?_; refine triL_nilN ?_; refine tri_if rfl (fun h3 => ?_) (fun h3 => ?_)
      · skip
        refine tri_seq ?_; refine tri_slots [] (.nil _) ?_; refine tri_region ?_; refine o_assignN rfl rfl ?_; refine tri_ret ?_; refine blockQ_ret ?_; refine thenQ_ret ?_; refine blockQ_ret ?_; refine thenQ_ret ?_; refine blockQ_ret ?_; refine thenQ_ret ?_; refine end1 rfl rfl ?_
        exact fun w1 hw1 => ⟨congrArg (fun b => Ending.returned (.int .i64 b)) (by unfold sgn; (repeat' split) <;> first | rfl | omega), hw1.chg⟩
      · skip
        refine tri_skip ?_; refine blockQ_normal ?_; refine thenQ_normal ?_; refine tri_seq ?_; refine tri_seq ?_; refine tri_slots [] (.nil _) ?_; refine tri_region ?_; refine o_assignN rfl rfl ?_; refine tri_ret ?_; refine thenQ_ret ?_; refine blockQ_ret ?_; refine thenQ_ret ?_; refine blockQ_ret ?_; refine thenQ_ret ?_; refine end1 rfl rfl ?_
        exact fun w1 hw1 => ⟨congrArg (fun b => Ending.returned (.int .i64 b)) (by unfold sgn; (repeat' split) <;> first | rfl | omega), hw1.chg⟩
    · skip
      refine tri_skip ?_; refine thenQ_normal ?_; refine tri_seq ?_; refine tri_join (ι := Bool) (fun j => [(1, .int .u8 d), (5, .int .u8 c), (10, .bool j)]) (fun j => []) (fun j => j = decide (c = 40 ∨ c = 41 ∨ c = 44 ∨ c = 46 ∨ c = 59 ∨ c = 61 ∨ c = 43 ∨ c = 45 ∨ c = 42 ∨ c = 47 ∨ c = 37)) ?_ (fun j hj => ?_)
      · skip
        refine tri_seq (tri_region ?_); refine o_eqlI rfl rfl rfl ?_; refine o_assignN rfl rfl ?_; refine tri_if rfl (fun g5 => ?_) (fun g5 => ?_)
        · skip
          refine tri_skip ?_; refine thenQ_normal ?_
          exact ⟨true, (.cons rfl (.cons rfl (.cons (congrArg (fun b => some (Value.bool b)) (by simp [*])) (.nil _)))), fun _ h => h, (by simp [*])⟩
        · skip
          refine tri_seq ?_; refine tri_slots [(5, _), (1, _)] (.cons rfl (.cons rfl (.nil _))) ?_; refine tri_region ?_; refine o_eqlI rfl rfl rfl ?_; refine o_assignN rfl rfl ?_; refine tri_if rfl (fun g6 => ?_) (fun g6 => ?_)
          · skip
            refine tri_skip ?_; refine thenQ_normal ?_
            exact ⟨true, (.cons rfl (.cons rfl (.cons (congrArg (fun b => some (Value.bool b)) (by simp [*])) (.nil _)))), fun _ h => h, (by simp [*])⟩
          · skip
            refine tri_seq (tri_region ?_); refine o_eqlI rfl rfl rfl ?_; refine o_assignN rfl rfl ?_; refine tri_if rfl (fun g7 => ?_) (fun g7 => ?_)
            · skip
              refine tri_skip ?_; refine thenQ_normal ?_
              exact ⟨true, (.cons rfl (.cons rfl (.cons (congrArg (fun b => some (Value.bool b)) (by simp [*])) (.nil _)))), fun _ h => h, (by simp [*])⟩
            · skip
              refine tri_seq (tri_region ?_); refine o_eqlI rfl rfl rfl ?_; refine o_assignN rfl rfl ?_; refine tri_if rfl (fun g8 => ?_) (fun g8 => ?_)
              · skip
                refine tri_skip ?_; refine thenQ_normal ?_
                exact ⟨true, (.cons rfl (.cons rfl (.cons (congrArg (fun b => some (Value.bool b)) (by simp [*])) (.nil _)))), fun _ h => h, (by simp [*])⟩
              · skip
                refine tri_seq ?_; refine tri_slots [(5, _), (1, _)] (.cons rfl (.cons rfl (.nil _))) ?_; refine tri_region ?_; refine o_eqlI rfl rfl rfl ?_; refine o_assignN rfl rfl ?_; refine tri_if rfl (fun g9 => ?_) (fun g9 => ?_)
                · skip
                  refine tri_skip ?_; refine thenQ_normal ?_
                  exact ⟨true, (.cons rfl (.cons rfl (.cons (congrArg (fun b => some (Value.bool b)) (by simp [*])) (.nil _)))), fun _ h => h, (by simp [*])⟩
                · skip
                  refine tri_seq (tri_region ?_); refine o_eqlI rfl rfl rfl ?_; refine o_assignN rfl rfl ?_; refine tri_if rfl (fun g10 => ?_) (fun g10 => ?_)
                  · skip
                    refine tri_skip ?_; refine thenQ_normal ?_
                    exact ⟨true, (.cons rfl (.cons rfl (.cons (congrArg (fun b => some (Value.bool b)) (by simp [*])) (.nil _)))), fun _ h => h, (by simp [*])⟩
                  · skip
                    refine tri_seq (tri_region ?_); refine o_eqlI rfl rfl rfl ?_; refine o_assignN rfl rfl ?_; refine tri_if rfl (fun g11 => ?_) (fun g11 => ?_)
                    · skip
                      refine tri_skip ?_; refine thenQ_normal ?_
                      exact ⟨true, (.cons rfl (.cons rfl (.cons (congrArg (fun b => some (Value.bool b)) (by simp [*])) (.nil _)))), fun _ h => h, (by simp [*])⟩
                    · skip
                      refine tri_seq ?_; refine tri_slots [(5, _), (1, _)] (.cons rfl (.cons rfl (.nil _))) ?_; refine tri_region ?_; refine o_eqlI rfl rfl rfl ?_; refine o_assignN rfl rfl ?_; refine tri_if rfl (fun g12 => ?_) (fun g12 => ?_)
                      · skip
                        refine tri_skip ?_; refine thenQ_normal ?_
                        exact ⟨true, (.cons rfl (.cons rfl (.cons (congrArg (fun b => some (Value.bool b)) (by simp [*])) (.nil _)))), fun _ h => h, (by simp [*])⟩
                      · skip
                        refine tri_seq (tri_region ?_); refine o_eqlI rfl rfl rfl ?_; refine o_assignN rfl rfl ?_; refine tri_if rfl (fun g13 => ?_) (fun g13 => ?_)
                        · skip
                          refine tri_skip ?_; refine thenQ_normal ?_
                          exact ⟨true, (.cons rfl (.cons rfl (.cons (congrArg (fun b => some (Value.bool b)) (by simp [*])) (.nil _)))), fun _ h => h, (by simp [*])⟩
                        · skip
                          refine tri_seq (tri_region ?_); refine o_eqlI rfl rfl rfl ?_; refine o_assignN rfl rfl ?_; refine tri_if rfl (fun g14 => ?_) (fun g14 => ?_)
                          · skip
                            refine tri_skip ?_; refine thenQ_normal ?_
                            exact ⟨true, (.cons rfl (.cons rfl (.cons (congrArg (fun b => some (Value.bool b)) (by simp [*])) (.nil _)))), fun _ h => h, (by simp [*])⟩
                          · skip
                            refine tri_slots [(5, _), (1, _)] (.cons rfl (.cons rfl (.nil _))) ?_; refine tri_region ?_; refine o_eqlI rfl rfl rfl ?_; refine o_assignN rfl rfl ?_
                            exact ⟨decide (c = 37), (.cons rfl (.cons rfl (.cons rfl (.nil _)))), fun _ h => h, (by simp [*])⟩
      refine tri_cond rfl (fun h2 => ?_) (fun h2 => ?_)
      · skip
        have h2 := of_decide_eq_true (hj.symm.trans h2)
        refine tri_exit ?_; refine thenQ_exit ?_; refine thenQ_exit ?_; refine blockQ_other rfl ?_; refine thenQ_exit ?_; refine blockQ_other rfl ?_; refine thenQ_exit ?_; refine blockQ_here ?_; refine thenQ_normal ?_; refine tri_seq ?_; refine tri_seq (tri_region ?_); refine o_assignN rfl rfl ?_; refine tri_ret ?_; refine thenQ_ret ?_; refine blockQ_ret ?_; refine thenQ_ret ?_; refine blockQ_ret ?_; refine thenQ_ret ?_; refine end1 rfl rfl ?_
        exact fun w1 hw1 => ⟨congrArg (fun b => Ending.returned (.int .i64 b)) (by unfold sgn; (repeat' split) <;> first | rfl | omega), hw1.chg⟩
      · skip
        have h2 := of_decide_eq_false (hj.symm.trans h2)
        refine tri_skip ?_; refine thenQ_normal ?_; refine tri_seq (tri_region ?_); refine o_eqlI rfl rfl rfl ?_; refine o_assignN rfl rfl ?_; refine tri_if rfl (fun h4 => ?_) (fun h4 => ?_)
        · skip
          refine tri_exit ?_; refine thenQ_exit ?_; refine blockQ_other rfl ?_; refine thenQ_exit ?_; refine blockQ_other rfl ?_; refine thenQ_exit ?_; refine blockQ_other rfl ?_; refine thenQ_exit ?_; refine blockQ_here ?_; refine thenQ_normal ?_; refine tri_seq ?_; refine tri_seq ?_; refine tri_slots [(1, _)] (.cons rfl (.nil _)) ?_; refine tri_region ?_; refine o_move rfl rfl ?_; refine o_eqlI rfl rfl rfl ?_; refine triL_nilN ?_; refine tri_if rfl (fun h5 => ?_) (fun h5 => ?_)
          · skip
            refine tri_seq (tri_region ?_); refine o_assignN rfl rfl ?_; refine tri_ret ?_; refine thenQ_ret ?_; refine blockQ_ret ?_; refine thenQ_ret ?_; refine end1 rfl rfl ?_
            exact fun w1 hw1 => ⟨congrArg (fun b => Ending.returned (.int .i64 b)) (by unfold sgn; (repeat' split) <;> first | rfl | omega), hw1.chg⟩
          · skip
            refine tri_skip ?_; refine thenQ_normal ?_; refine tri_exit ?_; refine blockQ_here ?_; refine thenQ_normal ?_; refine tri_seq (tri_region ?_); refine o_assignN rfl rfl ?_; refine tri_ret ?_; refine end1 rfl rfl ?_
            exact fun w1 hw1 => ⟨congrArg (fun b => Ending.returned (.int .i64 b)) (by unfold sgn; (repeat' split) <;> first | rfl | omega), hw1.chg⟩
        · skip
          refine tri_skip ?_; refine thenQ_normal ?_; refine tri_exit ?_; refine blockQ_other rfl ?_; refine thenQ_exit ?_; refine blockQ_other rfl ?_; refine thenQ_exit ?_; refine blockQ_other rfl ?_; refine thenQ_exit ?_; refine blockQ_other rfl ?_; refine thenQ_exit ?_; refine blockQ_here ?_; refine thenQ_normal ?_; refine tri_seq ?_; refine tri_slots [] (.nil _) ?_; refine tri_region ?_; refine o_assignN rfl rfl ?_; refine tri_ret ?_; refine end1 rfl rfl ?_
          exact fun w1 hw1 => ⟨congrArg (fun b => Ending.returned (.int .i64 b)) (by unfold sgn; (repeat' split) <;> first | rfl | omega), hw1.chg⟩
end Go.Proofs.YtjbpkcbefmpfgaaGreatDoor
namespace Go.Proofs
open Go.Shelf
def Tryz.lays159_ren : Go.Shelf.Ren := ⟨fun | 159 => 86 | 165 => 127 | 166 => 128 | 167 => 129 | 169 => 130 | 230 => 131 | 204 => 132 | 240 => 157 | 241 => 158 | 197 => 159 | 118 => 160 | 168 => 161 | 270 => 162 | 262 => 163 | 276 => 176 | 277 => 177 | 260 => 178 | 242 => 179 | 313 => 180 | 278 => 195 | 274 => 196 | 275 => 197 | n => n, fun | 9 => 9 | 4 => 4 | 3 => 3 | 5 => 5 | 72 => 165 | 0 => 0 | 76 => 166 | 75 => 46 | 107 => 170 | 70 => 163 | 20 => 20 | 37 => 65 | 127 => 202 | 21 => 21 | 105 => 203 | 164 => 142 | 162 => 222 | 203 => 220 | 119 => 236 | 46 => 226 | 139 => 239 | 138 => 238 | 51 => 232 | 160 => 240 | 208 => 251 | 206 => 249 | 80 => 135 | n => n, fun | 13 => 1 | 3 => 4 | 4 => 5 | n => n⟩
theorem Tryz.lays159 : Go.Proofs.Lays.n159 Tryz.prog Tryz.lays159_ren := {
  mixed := by kernel_rfl
  f118 := Tryz.func160.trans (congrArg some (by kernel_rfl))
  f159 := Tryz.func86.trans (congrArg some (by kernel_rfl))
  f165 := Tryz.func127.trans (congrArg some (by kernel_rfl))
  f166 := Tryz.func128.trans (congrArg some (by kernel_rfl))
  f167 := Tryz.func129.trans (congrArg some (by kernel_rfl))
  f168 := Tryz.func161.trans (congrArg some (by kernel_rfl))
  f169 := Tryz.func130.trans (congrArg some (by kernel_rfl))
  f197 := Tryz.func159.trans (congrArg some (by kernel_rfl))
  f204 := Tryz.func132.trans (congrArg some (by kernel_rfl))
  f230 := Tryz.func131.trans (congrArg some (by kernel_rfl))
  f240 := Tryz.func157.trans (congrArg some (by kernel_rfl))
  f241 := Tryz.func158.trans (congrArg some (by kernel_rfl))
  f242 := Tryz.func179.trans (congrArg some (by kernel_rfl))
  f260 := Tryz.func178.trans (congrArg some (by kernel_rfl))
  f262 := Tryz.func163.trans (congrArg some (by kernel_rfl))
  f270 := Tryz.func162.trans (congrArg some (by kernel_rfl))
  f274 := Tryz.func196.trans (congrArg some (by kernel_rfl))
  f275 := Tryz.func197.trans (congrArg some (by kernel_rfl))
  f276 := Tryz.func176.trans (congrArg some (by kernel_rfl))
  f277 := Tryz.func177.trans (congrArg some (by kernel_rfl))
  f278 := Tryz.func195.trans (congrArg some (by kernel_rfl))
  f313 := Tryz.func180.trans (congrArg some (by kernel_rfl))
  t0 := Tryz.underlying0
  a0 := Tryz.isAgg0
  z0 := Tryz.sizeOf0
  v0 := Tryz.zeroValue0
  t3 := Tryz.underlying3
  a3 := Tryz.isAgg3
  z3 := Tryz.sizeOf3
  v3 := Tryz.zeroValue3
  t4 := Tryz.underlying4
  a4 := Tryz.isAgg4
  z4 := Tryz.sizeOf4
  v4 := Tryz.zeroValue4
  t5 := Tryz.underlying5
  a5 := Tryz.isAgg5
  z5 := Tryz.sizeOf5
  v5 := Tryz.zeroValue5
  t9 := Tryz.underlying9
  a9 := Tryz.isAgg9
  z9 := Tryz.sizeOf9
  v9 := Tryz.zeroValue9
  t20 := Tryz.underlying20
  a20 := Tryz.isAgg20
  z20 := Tryz.sizeOf20
  v20 := Tryz.zeroValue20
  t21 := Tryz.underlying21
  a21 := Tryz.isAgg21
  z21 := Tryz.sizeOf21
  v21 := Tryz.zeroValue21
  t37 := Tryz.underlying65
  a37 := Tryz.isAgg65
  z37 := Tryz.sizeOf65
  v37 := Tryz.zeroValue65
  t46 := Tryz.underlying226
  a46 := Tryz.isAgg226
  z46 := Tryz.sizeOf226
  v46 := Tryz.zeroValue226
  t51 := Tryz.underlying232
  a51 := Tryz.isAgg232
  z51 := Tryz.sizeOf232
  v51 := Tryz.zeroValue232
  t70 := Tryz.underlying163
  a70 := Tryz.isAgg163
  z70 := Tryz.sizeOf163
  v70 := Tryz.zeroValue163
  t72 := Tryz.underlying165
  a72 := Tryz.isAgg165
  z72 := Tryz.sizeOf165
  v72 := Tryz.zeroValue165
  t75 := Tryz.underlying46
  a75 := Tryz.isAgg46
  z75 := Tryz.sizeOf46
  v75 := Tryz.zeroValue46
  t76 := Tryz.underlying166
  a76 := Tryz.isAgg166
  z76 := Tryz.sizeOf166
  v76 := Tryz.zeroValue166
  t105 := Tryz.underlying203
  a105 := Tryz.isAgg203
  z105 := Tryz.sizeOf203
  v105 := Tryz.zeroValue203
  t107 := Tryz.underlying170
  a107 := Tryz.isAgg170
  z107 := Tryz.sizeOf170
  v107 := Tryz.zeroValue170
  t119 := Tryz.underlying236
  a119 := Tryz.isAgg236
  z119 := Tryz.sizeOf236
  t127 := Tryz.underlying202
  a127 := Tryz.isAgg202
  z127 := Tryz.sizeOf202
  v127 := Tryz.zeroValue202
  t138 := Tryz.underlying238
  a138 := Tryz.isAgg238
  z138 := Tryz.sizeOf238
  v138 := Tryz.zeroValue238
  t139 := Tryz.underlying239
  a139 := Tryz.isAgg239
  z139 := Tryz.sizeOf239
  v139 := Tryz.zeroValue239
  t160 := Tryz.underlying240
  a160 := Tryz.isAgg240
  z160 := Tryz.sizeOf240
  v160 := Tryz.zeroValue240
  t162 := Tryz.underlying222
  a162 := Tryz.isAgg222
  z162 := Tryz.sizeOf222
  v162 := Tryz.zeroValue222
  t164 := Tryz.underlying142
  a164 := Tryz.isAgg142
  z164 := Tryz.sizeOf142
  v164 := Tryz.zeroValue142
  t203 := Tryz.underlying220
  a203 := Tryz.isAgg220
  z203 := Tryz.sizeOf220
  v203 := Tryz.zeroValue220
  t206 := Tryz.underlying249
  a206 := Tryz.isAgg249
  z206 := Tryz.sizeOf249
  v206 := Tryz.zeroValue249
  t208 := Tryz.underlying251
  a208 := Tryz.isAgg251
  z208 := Tryz.sizeOf251
  v208 := Tryz.zeroValue251
  g3 := by kernel_rfl
  g4 := by kernel_rfl
  g13 := by kernel_rfl }
theorem Tryz.Builder_Extra_159 : Builder.Extra Tryz.prog Tryz.lays159_ren := {
  sizeBuilder := by kernel_rfl
  liesBuilder := by kernel_rfl
  t5 := Tryz.underlying5
  a5 := Tryz.isAgg5
  z5 := Tryz.sizeOf5
  v5 := Tryz.zeroValue5
  infoByte := by kernel_rfl
  cellsByte := by kernel_rfl
  sizeByte := by kernel_rfl
  neB5 := by decide }
def Tryz.lays137_ren : Go.Shelf.Ren := ⟨fun | 137 => 126 | 217 => 156 | 266 => 175 | n => n, fun | 9 => 9 | 5 => 5 | 3 => 3 | n => n, fun | n => n⟩
theorem Tryz.lays137 : Go.Proofs.Lays.n137 Tryz.prog Tryz.lays137_ren := {
  mixed := by kernel_rfl
  f137 := Tryz.func126.trans (congrArg some (by kernel_rfl))
  f217 := Tryz.func156.trans (congrArg some (by kernel_rfl))
  f266 := Tryz.func175.trans (congrArg some (by kernel_rfl))
  t3 := Tryz.underlying3
  a3 := Tryz.isAgg3
  z3 := Tryz.sizeOf3
  v3 := Tryz.zeroValue3
  t5 := Tryz.underlying5
  a5 := Tryz.isAgg5
  z5 := Tryz.sizeOf5
  v5 := Tryz.zeroValue5
  t9 := Tryz.underlying9
  a9 := Tryz.isAgg9
  z9 := Tryz.sizeOf9
  v9 := Tryz.zeroValue9 }
def Tryz.laysM171_ren : Go.Shelf.Ren := ⟨fun | 171 => 121 | 243 => 153 | 246 => 148 | 283 => 169 | 284 => 170 | 285 => 171 | 286 => 172 | 129 => 188 | 317 => 187 | 318 => 189 | 319 => 190 | 320 => 191 | 337 => 204 | 338 => 205 | n => n, fun | 3 => 3 | 9 => 9 | 2 => 2 | 4 => 4 | 171 => 211 | 0 => 0 | 53 => 200 | 37 => 65 | 5 => 5 | 173 => 214 | 212 => 231 | 51 => 232 | 20 => 20 | 213 => 233 | 46 => 226 | 232 => 255 | 233 => 256 | n => n, fun | 17 => 2 | 18 => 8 | 19 => 9 | n => n⟩
theorem Tryz.laysM171 : Go.Proofs.LaysM.n171 Tryz.prog Tryz.laysM171_ren := {
  mixed := by kernel_rfl
  f129 := Tryz.func188.trans (congrArg some (by kernel_rfl))
  f171 := Tryz.func121.trans (congrArg some (by kernel_rfl))
  f243 := Tryz.func153.trans (congrArg some (by kernel_rfl))
  f246 := Tryz.func148.trans (congrArg some (by kernel_rfl))
  f283 := Tryz.func169.trans (congrArg some (by kernel_rfl))
  f284 := Tryz.func170.trans (congrArg some (by kernel_rfl))
  f285 := Tryz.func171.trans (congrArg some (by kernel_rfl))
  f286 := Tryz.func172.trans (congrArg some (by kernel_rfl))
  f317 := Tryz.func187.trans (congrArg some (by kernel_rfl))
  f318 := Tryz.func189.trans (congrArg some (by kernel_rfl))
  f319 := Tryz.func190.trans (congrArg some (by kernel_rfl))
  f320 := Tryz.func191.trans (congrArg some (by kernel_rfl))
  f337 := Tryz.func204.trans (congrArg some (by kernel_rfl))
  f338 := Tryz.func205.trans (congrArg some (by kernel_rfl))
  t0 := Tryz.underlying0
  a0 := Tryz.isAgg0
  z0 := Tryz.sizeOf0
  v0 := Tryz.zeroValue0
  t2 := Tryz.underlying2
  a2 := Tryz.isAgg2
  z2 := Tryz.sizeOf2
  v2 := Tryz.zeroValue2
  t3 := Tryz.underlying3
  a3 := Tryz.isAgg3
  z3 := Tryz.sizeOf3
  v3 := Tryz.zeroValue3
  t4 := Tryz.underlying4
  a4 := Tryz.isAgg4
  z4 := Tryz.sizeOf4
  v4 := Tryz.zeroValue4
  t5 := Tryz.underlying5
  a5 := Tryz.isAgg5
  z5 := Tryz.sizeOf5
  v5 := Tryz.zeroValue5
  t9 := Tryz.underlying9
  a9 := Tryz.isAgg9
  z9 := Tryz.sizeOf9
  v9 := Tryz.zeroValue9
  t20 := Tryz.underlying20
  a20 := Tryz.isAgg20
  z20 := Tryz.sizeOf20
  v20 := Tryz.zeroValue20
  t37 := Tryz.underlying65
  a37 := Tryz.isAgg65
  z37 := Tryz.sizeOf65
  v37 := Tryz.zeroValue65
  t46 := Tryz.underlying226
  a46 := Tryz.isAgg226
  z46 := Tryz.sizeOf226
  v46 := Tryz.zeroValue226
  t51 := Tryz.underlying232
  a51 := Tryz.isAgg232
  z51 := Tryz.sizeOf232
  v51 := Tryz.zeroValue232
  t53 := Tryz.underlying200
  a53 := Tryz.isAgg200
  z53 := Tryz.sizeOf200
  v53 := Tryz.zeroValue200
  t171 := Tryz.underlying211
  a171 := Tryz.isAgg211
  z171 := Tryz.sizeOf211
  v171 := Tryz.zeroValue211
  t173 := Tryz.underlying214
  a173 := Tryz.isAgg214
  z173 := Tryz.sizeOf214
  v173 := Tryz.zeroValue214
  t212 := Tryz.underlying231
  a212 := Tryz.isAgg231
  z212 := Tryz.sizeOf231
  v212 := Tryz.zeroValue231
  t213 := Tryz.underlying233
  a213 := Tryz.isAgg233
  z213 := Tryz.sizeOf233
  t232 := Tryz.underlying255
  a232 := Tryz.isAgg255
  z232 := Tryz.sizeOf255
  v232 := Tryz.zeroValue255
  t233 := Tryz.underlying256
  a233 := Tryz.isAgg256
  z233 := Tryz.sizeOf256
  v233 := Tryz.zeroValue256
  g17 := by kernel_rfl
  g18 := by kernel_rfl
  g19 := by kernel_rfl
  i0 := by kernel_rfl
  i2 := by kernel_rfl
  i3 := by kernel_rfl
  i4 := by kernel_rfl
  i5 := by kernel_rfl
  i9 := by kernel_rfl
  i20 := by kernel_rfl
  i37 := by kernel_rfl
  i46 := by kernel_rfl
  i51 := by kernel_rfl
  i53 := by kernel_rfl
  i171 := by kernel_rfl
  i173 := by kernel_rfl
  i212 := by kernel_rfl
  i232 := by kernel_rfl
  i233 := by kernel_rfl
  m17 := by kernel_rfl
  m18 := by kernel_rfl
  m19 := by kernel_rfl }
def Tryz.laysM173_ren : Go.Shelf.Ren := ⟨fun | 173 => 115 | 246 => 148 | 283 => 169 | 284 => 170 | 285 => 171 | 286 => 172 | 129 => 188 | 317 => 187 | 318 => 189 | 319 => 190 | 320 => 191 | 337 => 204 | 338 => 205 | n => n, fun | 2 => 2 | 3 => 3 | 9 => 9 | 4 => 4 | 171 => 211 | 0 => 0 | 53 => 200 | 37 => 65 | 5 => 5 | 173 => 214 | 212 => 231 | 51 => 232 | 20 => 20 | 213 => 233 | 46 => 226 | 232 => 255 | 233 => 256 | n => n, fun | 17 => 2 | 18 => 8 | 19 => 9 | n => n⟩
theorem Tryz.laysM173 : Go.Proofs.LaysM.n173 Tryz.prog Tryz.laysM173_ren := {
  mixed := by kernel_rfl
  f129 := Tryz.func188.trans (congrArg some (by kernel_rfl))
  f173 := Tryz.func115.trans (congrArg some (by kernel_rfl))
  f246 := Tryz.func148.trans (congrArg some (by kernel_rfl))
  f283 := Tryz.func169.trans (congrArg some (by kernel_rfl))
  f284 := Tryz.func170.trans (congrArg some (by kernel_rfl))
  f285 := Tryz.func171.trans (congrArg some (by kernel_rfl))
  f286 := Tryz.func172.trans (congrArg some (by kernel_rfl))
  f317 := Tryz.func187.trans (congrArg some (by kernel_rfl))
  f318 := Tryz.func189.trans (congrArg some (by kernel_rfl))
  f319 := Tryz.func190.trans (congrArg some (by kernel_rfl))
  f320 := Tryz.func191.trans (congrArg some (by kernel_rfl))
  f337 := Tryz.func204.trans (congrArg some (by kernel_rfl))
  f338 := Tryz.func205.trans (congrArg some (by kernel_rfl))
  t0 := Tryz.underlying0
  a0 := Tryz.isAgg0
  z0 := Tryz.sizeOf0
  v0 := Tryz.zeroValue0
  t2 := Tryz.underlying2
  a2 := Tryz.isAgg2
  z2 := Tryz.sizeOf2
  v2 := Tryz.zeroValue2
  t3 := Tryz.underlying3
  a3 := Tryz.isAgg3
  z3 := Tryz.sizeOf3
  v3 := Tryz.zeroValue3
  t4 := Tryz.underlying4
  a4 := Tryz.isAgg4
  z4 := Tryz.sizeOf4
  v4 := Tryz.zeroValue4
  t5 := Tryz.underlying5
  a5 := Tryz.isAgg5
  z5 := Tryz.sizeOf5
  v5 := Tryz.zeroValue5
  t9 := Tryz.underlying9
  a9 := Tryz.isAgg9
  z9 := Tryz.sizeOf9
  v9 := Tryz.zeroValue9
  t20 := Tryz.underlying20
  a20 := Tryz.isAgg20
  z20 := Tryz.sizeOf20
  v20 := Tryz.zeroValue20
  t37 := Tryz.underlying65
  a37 := Tryz.isAgg65
  z37 := Tryz.sizeOf65
  v37 := Tryz.zeroValue65
  t46 := Tryz.underlying226
  a46 := Tryz.isAgg226
  z46 := Tryz.sizeOf226
  v46 := Tryz.zeroValue226
  t51 := Tryz.underlying232
  a51 := Tryz.isAgg232
  z51 := Tryz.sizeOf232
  v51 := Tryz.zeroValue232
  t53 := Tryz.underlying200
  a53 := Tryz.isAgg200
  z53 := Tryz.sizeOf200
  v53 := Tryz.zeroValue200
  t171 := Tryz.underlying211
  a171 := Tryz.isAgg211
  z171 := Tryz.sizeOf211
  v171 := Tryz.zeroValue211
  t173 := Tryz.underlying214
  a173 := Tryz.isAgg214
  z173 := Tryz.sizeOf214
  v173 := Tryz.zeroValue214
  t212 := Tryz.underlying231
  a212 := Tryz.isAgg231
  z212 := Tryz.sizeOf231
  v212 := Tryz.zeroValue231
  t213 := Tryz.underlying233
  a213 := Tryz.isAgg233
  z213 := Tryz.sizeOf233
  t232 := Tryz.underlying255
  a232 := Tryz.isAgg255
  z232 := Tryz.sizeOf255
  v232 := Tryz.zeroValue255
  t233 := Tryz.underlying256
  a233 := Tryz.isAgg256
  z233 := Tryz.sizeOf256
  v233 := Tryz.zeroValue256
  g17 := by kernel_rfl
  g18 := by kernel_rfl
  g19 := by kernel_rfl
  i0 := by kernel_rfl
  i2 := by kernel_rfl
  i3 := by kernel_rfl
  i4 := by kernel_rfl
  i5 := by kernel_rfl
  i9 := by kernel_rfl
  i20 := by kernel_rfl
  i37 := by kernel_rfl
  i46 := by kernel_rfl
  i51 := by kernel_rfl
  i53 := by kernel_rfl
  i171 := by kernel_rfl
  i173 := by kernel_rfl
  i212 := by kernel_rfl
  i232 := by kernel_rfl
  i233 := by kernel_rfl
  m17 := by kernel_rfl
  m18 := by kernel_rfl
  m19 := by kernel_rfl }
def Tryz.laysC172_ren : Go.Shelf.Ren := ⟨fun | 172 => 145 | 244 => 168 | 245 => 165 | 247 => 164 | 279 => 182 | 280 => 183 | 281 => 184 | 282 => 185 | 287 => 181 | 316 => 200 | 171 => 121 | 205 => 201 | 321 => 198 | 322 => 199 | 243 => 153 | 246 => 148 | 283 => 169 | 284 => 170 | 285 => 171 | 286 => 172 | 129 => 188 | 317 => 187 | 318 => 189 | 319 => 190 | 320 => 191 | 337 => 204 | 338 => 205 | n => n, fun | 9 => 9 | 3 => 3 | 75 => 46 | 76 => 166 | 4 => 4 | 5 => 5 | 167 => 223 | 37 => 65 | 0 => 0 | 85 => 171 | 2 => 2 | 168 => 227 | 53 => 200 | 175 => 224 | 46 => 226 | 210 => 245 | 127 => 202 | 145 => 254 | 143 => 252 | 21 => 21 | 171 => 211 | 173 => 214 | 212 => 231 | 51 => 232 | 20 => 20 | 213 => 233 | 232 => 255 | 233 => 256 | 80 => 135 | n => n, fun | 15 => 6 | 16 => 7 | 17 => 2 | 18 => 8 | 19 => 9 | n => n⟩
theorem Tryz.laysC172 : Go.Proofs.LaysC.n172 Tryz.prog Tryz.laysC172_ren := {
  mixed := by kernel_rfl
  f129 := Tryz.func188.trans (congrArg some (by kernel_rfl))
  f171 := Tryz.func121.trans (congrArg some (by kernel_rfl))
  f172 := Tryz.func145.trans (congrArg some (by kernel_rfl))
  f205 := Tryz.func201.trans (congrArg some (by kernel_rfl))
  f243 := Tryz.func153.trans (congrArg some (by kernel_rfl))
  f244 := Tryz.func168.trans (congrArg some (by kernel_rfl))
  f245 := Tryz.func165.trans (congrArg some (by kernel_rfl))
  f246 := Tryz.func148.trans (congrArg some (by kernel_rfl))
  f247 := Tryz.func164.trans (congrArg some (by kernel_rfl))
  f279 := Tryz.func182.trans (congrArg some (by kernel_rfl))
  f280 := Tryz.func183.trans (congrArg some (by kernel_rfl))
  f281 := Tryz.func184.trans (congrArg some (by kernel_rfl))
  f282 := Tryz.func185.trans (congrArg some (by kernel_rfl))
  f283 := Tryz.func169.trans (congrArg some (by kernel_rfl))
  f284 := Tryz.func170.trans (congrArg some (by kernel_rfl))
  f285 := Tryz.func171.trans (congrArg some (by kernel_rfl))
  f286 := Tryz.func172.trans (congrArg some (by kernel_rfl))
  f287 := Tryz.func181.trans (congrArg some (by kernel_rfl))
  f316 := Tryz.func200.trans (congrArg some (by kernel_rfl))
  f317 := Tryz.func187.trans (congrArg some (by kernel_rfl))
  f318 := Tryz.func189.trans (congrArg some (by kernel_rfl))
  f319 := Tryz.func190.trans (congrArg some (by kernel_rfl))
  f320 := Tryz.func191.trans (congrArg some (by kernel_rfl))
  f321 := Tryz.func198.trans (congrArg some (by kernel_rfl))
  f322 := Tryz.func199.trans (congrArg some (by kernel_rfl))
  f337 := Tryz.func204.trans (congrArg some (by kernel_rfl))
  f338 := Tryz.func205.trans (congrArg some (by kernel_rfl))
  t0 := Tryz.underlying0
  a0 := Tryz.isAgg0
  z0 := Tryz.sizeOf0
  v0 := Tryz.zeroValue0
  t2 := Tryz.underlying2
  a2 := Tryz.isAgg2
  z2 := Tryz.sizeOf2
  v2 := Tryz.zeroValue2
  t3 := Tryz.underlying3
  a3 := Tryz.isAgg3
  z3 := Tryz.sizeOf3
  v3 := Tryz.zeroValue3
  t4 := Tryz.underlying4
  a4 := Tryz.isAgg4
  z4 := Tryz.sizeOf4
  v4 := Tryz.zeroValue4
  t5 := Tryz.underlying5
  a5 := Tryz.isAgg5
  z5 := Tryz.sizeOf5
  v5 := Tryz.zeroValue5
  t9 := Tryz.underlying9
  a9 := Tryz.isAgg9
  z9 := Tryz.sizeOf9
  v9 := Tryz.zeroValue9
  t20 := Tryz.underlying20
  a20 := Tryz.isAgg20
  z20 := Tryz.sizeOf20
  v20 := Tryz.zeroValue20
  t21 := Tryz.underlying21
  a21 := Tryz.isAgg21
  z21 := Tryz.sizeOf21
  v21 := Tryz.zeroValue21
  t37 := Tryz.underlying65
  a37 := Tryz.isAgg65
  z37 := Tryz.sizeOf65
  v37 := Tryz.zeroValue65
  t46 := Tryz.underlying226
  a46 := Tryz.isAgg226
  z46 := Tryz.sizeOf226
  v46 := Tryz.zeroValue226
  t51 := Tryz.underlying232
  a51 := Tryz.isAgg232
  z51 := Tryz.sizeOf232
  v51 := Tryz.zeroValue232
  t53 := Tryz.underlying200
  a53 := Tryz.isAgg200
  z53 := Tryz.sizeOf200
  v53 := Tryz.zeroValue200
  t75 := Tryz.underlying46
  a75 := Tryz.isAgg46
  z75 := Tryz.sizeOf46
  v75 := Tryz.zeroValue46
  t76 := Tryz.underlying166
  a76 := Tryz.isAgg166
  z76 := Tryz.sizeOf166
  v76 := Tryz.zeroValue166
  t85 := Tryz.underlying171
  a85 := Tryz.isAgg171
  z85 := Tryz.sizeOf171
  v85 := Tryz.zeroValue171
  t127 := Tryz.underlying202
  a127 := Tryz.isAgg202
  z127 := Tryz.sizeOf202
  v127 := Tryz.zeroValue202
  t143 := Tryz.underlying252
  a143 := Tryz.isAgg252
  z143 := Tryz.sizeOf252
  v143 := Tryz.zeroValue252
  t145 := Tryz.underlying254
  a145 := Tryz.isAgg254
  z145 := Tryz.sizeOf254
  v145 := Tryz.zeroValue254
  t167 := Tryz.underlying223
  a167 := Tryz.isAgg223
  z167 := Tryz.sizeOf223
  v167 := Tryz.zeroValue223
  t168 := Tryz.underlying227
  a168 := Tryz.isAgg227
  z168 := Tryz.sizeOf227
  v168 := Tryz.zeroValue227
  t171 := Tryz.underlying211
  a171 := Tryz.isAgg211
  z171 := Tryz.sizeOf211
  v171 := Tryz.zeroValue211
  t173 := Tryz.underlying214
  a173 := Tryz.isAgg214
  z173 := Tryz.sizeOf214
  v173 := Tryz.zeroValue214
  t175 := Tryz.underlying224
  a175 := Tryz.isAgg224
  z175 := Tryz.sizeOf224
  v175 := Tryz.zeroValue224
  t210 := Tryz.underlying245
  a210 := Tryz.isAgg245
  z210 := Tryz.sizeOf245
  v210 := Tryz.zeroValue245
  t212 := Tryz.underlying231
  a212 := Tryz.isAgg231
  z212 := Tryz.sizeOf231
  v212 := Tryz.zeroValue231
  t213 := Tryz.underlying233
  a213 := Tryz.isAgg233
  z213 := Tryz.sizeOf233
  t232 := Tryz.underlying255
  a232 := Tryz.isAgg255
  z232 := Tryz.sizeOf255
  v232 := Tryz.zeroValue255
  t233 := Tryz.underlying256
  a233 := Tryz.isAgg256
  z233 := Tryz.sizeOf256
  v233 := Tryz.zeroValue256
  g15 := by kernel_rfl
  g16 := by kernel_rfl
  g17 := by kernel_rfl
  g18 := by kernel_rfl
  g19 := by kernel_rfl
  t80 := Tryz.underlying135
  a80 := Tryz.isAgg135
  z80 := Tryz.sizeOf135
  v80 := Tryz.zeroValue135
  i0 := by kernel_rfl
  i2 := by kernel_rfl
  i3 := by kernel_rfl
  i4 := by kernel_rfl
  i5 := by kernel_rfl
  i9 := by kernel_rfl
  i20 := by kernel_rfl
  i21 := by kernel_rfl
  i37 := by kernel_rfl
  i46 := by kernel_rfl
  i51 := by kernel_rfl
  i53 := by kernel_rfl
  i75 := by kernel_rfl
  i76 := by kernel_rfl
  i80 := by kernel_rfl
  i85 := by kernel_rfl
  i127 := by kernel_rfl
  i143 := by kernel_rfl
  i145 := by kernel_rfl
  i167 := by kernel_rfl
  i168 := by kernel_rfl
  i171 := by kernel_rfl
  i173 := by kernel_rfl
  i175 := by kernel_rfl
  i210 := by kernel_rfl
  i212 := by kernel_rfl
  i232 := by kernel_rfl
  i233 := by kernel_rfl
  m15 := by kernel_rfl
  m16 := by kernel_rfl
  m17 := by kernel_rfl
  m18 := by kernel_rfl
  m19 := by kernel_rfl
  c0 := by kernel_rfl
  c2 := by kernel_rfl
  c3 := by kernel_rfl
  c4 := by kernel_rfl
  c5 := by kernel_rfl
  c9 := by kernel_rfl
  c20 := by kernel_rfl
  c21 := by kernel_rfl
  c37 := by kernel_rfl
  c46 := by kernel_rfl
  c51 := by kernel_rfl
  c53 := by kernel_rfl
  c75 := by kernel_rfl
  c76 := by kernel_rfl
  c80 := by kernel_rfl
  c85 := by kernel_rfl
  c127 := by kernel_rfl
  c143 := by kernel_rfl
  c145 := by kernel_rfl
  c167 := by kernel_rfl
  c168 := by kernel_rfl
  c171 := by kernel_rfl
  c173 := by kernel_rfl
  c175 := by kernel_rfl
  c210 := by kernel_rfl
  c212 := by kernel_rfl
  c213 := by kernel_rfl
  c232 := by kernel_rfl
  c233 := by kernel_rfl }
def Tryz.laysC174_ren : Go.Shelf.Ren := ⟨fun | 174 => 133 | 247 => 164 | 245 => 165 | 287 => 181 | 279 => 182 | 280 => 183 | 281 => 184 | 282 => 185 | 321 => 198 | 322 => 199 | 316 => 200 | 171 => 121 | 205 => 201 | 243 => 153 | 246 => 148 | 283 => 169 | 284 => 170 | 285 => 171 | 286 => 172 | 129 => 188 | 317 => 187 | 318 => 189 | 319 => 190 | 320 => 191 | 337 => 204 | 338 => 205 | n => n, fun | 9 => 9 | 3 => 3 | 2 => 2 | 75 => 46 | 85 => 171 | 4 => 4 | 167 => 223 | 5 => 5 | 53 => 200 | 175 => 224 | 46 => 226 | 168 => 227 | 37 => 65 | 0 => 0 | 210 => 245 | 21 => 21 | 127 => 202 | 145 => 254 | 143 => 252 | 171 => 211 | 173 => 214 | 212 => 231 | 51 => 232 | 20 => 20 | 213 => 233 | 232 => 255 | 233 => 256 | 80 => 135 | n => n, fun | 15 => 6 | 16 => 7 | 17 => 2 | 18 => 8 | 19 => 9 | n => n⟩
theorem Tryz.laysC174 : Go.Proofs.LaysC.n174 Tryz.prog Tryz.laysC174_ren := {
  mixed := by kernel_rfl
  f129 := Tryz.func188.trans (congrArg some (by kernel_rfl))
  f171 := Tryz.func121.trans (congrArg some (by kernel_rfl))
  f174 := Tryz.func133.trans (congrArg some (by kernel_rfl))
  f205 := Tryz.func201.trans (congrArg some (by kernel_rfl))
  f243 := Tryz.func153.trans (congrArg some (by kernel_rfl))
  f245 := Tryz.func165.trans (congrArg some (by kernel_rfl))
  f246 := Tryz.func148.trans (congrArg some (by kernel_rfl))
  f247 := Tryz.func164.trans (congrArg some (by kernel_rfl))
  f279 := Tryz.func182.trans (congrArg some (by kernel_rfl))
  f280 := Tryz.func183.trans (congrArg some (by kernel_rfl))
  f281 := Tryz.func184.trans (congrArg some (by kernel_rfl))
  f282 := Tryz.func185.trans (congrArg some (by kernel_rfl))
  f283 := Tryz.func169.trans (congrArg some (by kernel_rfl))
  f284 := Tryz.func170.trans (congrArg some (by kernel_rfl))
  f285 := Tryz.func171.trans (congrArg some (by kernel_rfl))
  f286 := Tryz.func172.trans (congrArg some (by kernel_rfl))
  f287 := Tryz.func181.trans (congrArg some (by kernel_rfl))
  f316 := Tryz.func200.trans (congrArg some (by kernel_rfl))
  f317 := Tryz.func187.trans (congrArg some (by kernel_rfl))
  f318 := Tryz.func189.trans (congrArg some (by kernel_rfl))
  f319 := Tryz.func190.trans (congrArg some (by kernel_rfl))
  f320 := Tryz.func191.trans (congrArg some (by kernel_rfl))
  f321 := Tryz.func198.trans (congrArg some (by kernel_rfl))
  f322 := Tryz.func199.trans (congrArg some (by kernel_rfl))
  f337 := Tryz.func204.trans (congrArg some (by kernel_rfl))
  f338 := Tryz.func205.trans (congrArg some (by kernel_rfl))
  t0 := Tryz.underlying0
  a0 := Tryz.isAgg0
  z0 := Tryz.sizeOf0
  v0 := Tryz.zeroValue0
  t2 := Tryz.underlying2
  a2 := Tryz.isAgg2
  z2 := Tryz.sizeOf2
  v2 := Tryz.zeroValue2
  t3 := Tryz.underlying3
  a3 := Tryz.isAgg3
  z3 := Tryz.sizeOf3
  v3 := Tryz.zeroValue3
  t4 := Tryz.underlying4
  a4 := Tryz.isAgg4
  z4 := Tryz.sizeOf4
  v4 := Tryz.zeroValue4
  t5 := Tryz.underlying5
  a5 := Tryz.isAgg5
  z5 := Tryz.sizeOf5
  v5 := Tryz.zeroValue5
  t9 := Tryz.underlying9
  a9 := Tryz.isAgg9
  z9 := Tryz.sizeOf9
  v9 := Tryz.zeroValue9
  t20 := Tryz.underlying20
  a20 := Tryz.isAgg20
  z20 := Tryz.sizeOf20
  v20 := Tryz.zeroValue20
  t21 := Tryz.underlying21
  a21 := Tryz.isAgg21
  z21 := Tryz.sizeOf21
  v21 := Tryz.zeroValue21
  t37 := Tryz.underlying65
  a37 := Tryz.isAgg65
  z37 := Tryz.sizeOf65
  v37 := Tryz.zeroValue65
  t46 := Tryz.underlying226
  a46 := Tryz.isAgg226
  z46 := Tryz.sizeOf226
  v46 := Tryz.zeroValue226
  t51 := Tryz.underlying232
  a51 := Tryz.isAgg232
  z51 := Tryz.sizeOf232
  v51 := Tryz.zeroValue232
  t53 := Tryz.underlying200
  a53 := Tryz.isAgg200
  z53 := Tryz.sizeOf200
  v53 := Tryz.zeroValue200
  t75 := Tryz.underlying46
  a75 := Tryz.isAgg46
  z75 := Tryz.sizeOf46
  v75 := Tryz.zeroValue46
  t85 := Tryz.underlying171
  a85 := Tryz.isAgg171
  z85 := Tryz.sizeOf171
  v85 := Tryz.zeroValue171
  t127 := Tryz.underlying202
  a127 := Tryz.isAgg202
  z127 := Tryz.sizeOf202
  v127 := Tryz.zeroValue202
  t143 := Tryz.underlying252
  a143 := Tryz.isAgg252
  z143 := Tryz.sizeOf252
  v143 := Tryz.zeroValue252
  t145 := Tryz.underlying254
  a145 := Tryz.isAgg254
  z145 := Tryz.sizeOf254
  v145 := Tryz.zeroValue254
  t167 := Tryz.underlying223
  a167 := Tryz.isAgg223
  z167 := Tryz.sizeOf223
  v167 := Tryz.zeroValue223
  t168 := Tryz.underlying227
  a168 := Tryz.isAgg227
  z168 := Tryz.sizeOf227
  v168 := Tryz.zeroValue227
  t171 := Tryz.underlying211
  a171 := Tryz.isAgg211
  z171 := Tryz.sizeOf211
  v171 := Tryz.zeroValue211
  t173 := Tryz.underlying214
  a173 := Tryz.isAgg214
  z173 := Tryz.sizeOf214
  v173 := Tryz.zeroValue214
  t175 := Tryz.underlying224
  a175 := Tryz.isAgg224
  z175 := Tryz.sizeOf224
  v175 := Tryz.zeroValue224
  t210 := Tryz.underlying245
  a210 := Tryz.isAgg245
  z210 := Tryz.sizeOf245
  v210 := Tryz.zeroValue245
  t212 := Tryz.underlying231
  a212 := Tryz.isAgg231
  z212 := Tryz.sizeOf231
  v212 := Tryz.zeroValue231
  t213 := Tryz.underlying233
  a213 := Tryz.isAgg233
  z213 := Tryz.sizeOf233
  t232 := Tryz.underlying255
  a232 := Tryz.isAgg255
  z232 := Tryz.sizeOf255
  v232 := Tryz.zeroValue255
  t233 := Tryz.underlying256
  a233 := Tryz.isAgg256
  z233 := Tryz.sizeOf256
  v233 := Tryz.zeroValue256
  g15 := by kernel_rfl
  g16 := by kernel_rfl
  g17 := by kernel_rfl
  g18 := by kernel_rfl
  g19 := by kernel_rfl
  t80 := Tryz.underlying135
  a80 := Tryz.isAgg135
  z80 := Tryz.sizeOf135
  v80 := Tryz.zeroValue135
  i0 := by kernel_rfl
  i2 := by kernel_rfl
  i3 := by kernel_rfl
  i4 := by kernel_rfl
  i5 := by kernel_rfl
  i9 := by kernel_rfl
  i20 := by kernel_rfl
  i21 := by kernel_rfl
  i37 := by kernel_rfl
  i46 := by kernel_rfl
  i51 := by kernel_rfl
  i53 := by kernel_rfl
  i75 := by kernel_rfl
  i80 := by kernel_rfl
  i85 := by kernel_rfl
  i127 := by kernel_rfl
  i143 := by kernel_rfl
  i145 := by kernel_rfl
  i167 := by kernel_rfl
  i168 := by kernel_rfl
  i171 := by kernel_rfl
  i173 := by kernel_rfl
  i175 := by kernel_rfl
  i210 := by kernel_rfl
  i212 := by kernel_rfl
  i232 := by kernel_rfl
  i233 := by kernel_rfl
  m15 := by kernel_rfl
  m16 := by kernel_rfl
  m17 := by kernel_rfl
  m18 := by kernel_rfl
  m19 := by kernel_rfl
  c0 := by kernel_rfl
  c2 := by kernel_rfl
  c3 := by kernel_rfl
  c4 := by kernel_rfl
  c5 := by kernel_rfl
  c9 := by kernel_rfl
  c20 := by kernel_rfl
  c21 := by kernel_rfl
  c37 := by kernel_rfl
  c46 := by kernel_rfl
  c51 := by kernel_rfl
  c53 := by kernel_rfl
  c75 := by kernel_rfl
  c80 := by kernel_rfl
  c85 := by kernel_rfl
  c127 := by kernel_rfl
  c143 := by kernel_rfl
  c145 := by kernel_rfl
  c167 := by kernel_rfl
  c168 := by kernel_rfl
  c171 := by kernel_rfl
  c173 := by kernel_rfl
  c175 := by kernel_rfl
  c210 := by kernel_rfl
  c212 := by kernel_rfl
  c213 := by kernel_rfl
  c232 := by kernel_rfl
  c233 := by kernel_rfl }
def Tryz.lays99_ren : Go.Shelf.Ren := ⟨fun | 99 => 125 | 206 => 155 | n => n, fun | 9 => 9 | 4 => 4 | 3 => 3 | n => n, fun | n => n⟩
theorem Tryz.lays99 : Go.Proofs.Lays.n99 Tryz.prog Tryz.lays99_ren := {
  mixed := by kernel_rfl
  f99 := Tryz.func125.trans (congrArg some (by kernel_rfl))
  f206 := Tryz.func155.trans (congrArg some (by kernel_rfl))
  t3 := Tryz.underlying3
  a3 := Tryz.isAgg3
  z3 := Tryz.sizeOf3
  v3 := Tryz.zeroValue3
  t4 := Tryz.underlying4
  a4 := Tryz.isAgg4
  z4 := Tryz.sizeOf4
  v4 := Tryz.zeroValue4
  t9 := Tryz.underlying9
  a9 := Tryz.isAgg9
  z9 := Tryz.sizeOf9
  v9 := Tryz.zeroValue9 }
def Tryz.lays155_ren : Go.Shelf.Ren := ⟨fun | 155 => 116 | 154 => 149 | 138 => 173 | 165 => 127 | 143 => 174 | 166 => 128 | 197 => 159 | 169 => 130 | 195 => 192 | 218 => 193 | 240 => 157 | 241 => 158 | 219 => 194 | 260 => 178 | 276 => 176 | 277 => 177 | 217 => 156 | 225 => 206 | 224 => 207 | 267 => 208 | 266 => 175 | 314 => 210 | n => n, fun | 9 => 9 | 3 => 3 | 4 => 4 | 72 => 165 | 0 => 0 | 76 => 166 | 105 => 203 | 21 => 21 | 5 => 5 | 70 => 163 | 20 => 20 | 37 => 65 | 75 => 46 | 127 => 202 | 164 => 142 | 46 => 226 | 119 => 236 | 139 => 239 | 138 => 238 | 146 => 257 | 51 => 232 | 80 => 135 | n => n, fun | 1 => 3 | 3 => 4 | 4 => 5 | n => n⟩
theorem Tryz.lays155 : Go.Proofs.Lays.n155 Tryz.prog Tryz.lays155_ren := {
  mixed := by kernel_rfl
  f138 := Tryz.func173.trans (congrArg some (by kernel_rfl))
  f143 := Tryz.func174.trans (congrArg some (by kernel_rfl))
  f154 := Tryz.func149.trans (congrArg some (by kernel_rfl))
  f155 := Tryz.func116.trans (congrArg some (by kernel_rfl))
  f165 := Tryz.func127.trans (congrArg some (by kernel_rfl))
  f166 := Tryz.func128.trans (congrArg some (by kernel_rfl))
  f169 := Tryz.func130.trans (congrArg some (by kernel_rfl))
  f195 := Tryz.func192.trans (congrArg some (by kernel_rfl))
  f197 := Tryz.func159.trans (congrArg some (by kernel_rfl))
  f217 := Tryz.func156.trans (congrArg some (by kernel_rfl))
  f218 := Tryz.func193.trans (congrArg some (by kernel_rfl))
  f219 := Tryz.func194.trans (congrArg some (by kernel_rfl))
  f224 := Tryz.func207.trans (congrArg some (by kernel_rfl))
  f225 := Tryz.func206.trans (congrArg some (by kernel_rfl))
  f240 := Tryz.func157.trans (congrArg some (by kernel_rfl))
  f241 := Tryz.func158.trans (congrArg some (by kernel_rfl))
  f260 := Tryz.func178.trans (congrArg some (by kernel_rfl))
  f266 := Tryz.func175.trans (congrArg some (by kernel_rfl))
  f267 := Tryz.func208.trans (congrArg some (by kernel_rfl))
  f276 := Tryz.func176.trans (congrArg some (by kernel_rfl))
  f277 := Tryz.func177.trans (congrArg some (by kernel_rfl))
  f314 := Tryz.func210.trans (congrArg some (by kernel_rfl))
  t0 := Tryz.underlying0
  a0 := Tryz.isAgg0
  z0 := Tryz.sizeOf0
  v0 := Tryz.zeroValue0
  t3 := Tryz.underlying3
  a3 := Tryz.isAgg3
  z3 := Tryz.sizeOf3
  v3 := Tryz.zeroValue3
  t4 := Tryz.underlying4
  a4 := Tryz.isAgg4
  z4 := Tryz.sizeOf4
  v4 := Tryz.zeroValue4
  t5 := Tryz.underlying5
  a5 := Tryz.isAgg5
  z5 := Tryz.sizeOf5
  v5 := Tryz.zeroValue5
  t9 := Tryz.underlying9
  a9 := Tryz.isAgg9
  z9 := Tryz.sizeOf9
  v9 := Tryz.zeroValue9
  t20 := Tryz.underlying20
  a20 := Tryz.isAgg20
  z20 := Tryz.sizeOf20
  v20 := Tryz.zeroValue20
  t21 := Tryz.underlying21
  a21 := Tryz.isAgg21
  z21 := Tryz.sizeOf21
  v21 := Tryz.zeroValue21
  t37 := Tryz.underlying65
  a37 := Tryz.isAgg65
  z37 := Tryz.sizeOf65
  v37 := Tryz.zeroValue65
  t46 := Tryz.underlying226
  a46 := Tryz.isAgg226
  z46 := Tryz.sizeOf226
  v46 := Tryz.zeroValue226
  t51 := Tryz.underlying232
  a51 := Tryz.isAgg232
  z51 := Tryz.sizeOf232
  v51 := Tryz.zeroValue232
  t70 := Tryz.underlying163
  a70 := Tryz.isAgg163
  z70 := Tryz.sizeOf163
  v70 := Tryz.zeroValue163
  t72 := Tryz.underlying165
  a72 := Tryz.isAgg165
  z72 := Tryz.sizeOf165
  v72 := Tryz.zeroValue165
  t75 := Tryz.underlying46
  a75 := Tryz.isAgg46
  z75 := Tryz.sizeOf46
  v75 := Tryz.zeroValue46
  t76 := Tryz.underlying166
  a76 := Tryz.isAgg166
  z76 := Tryz.sizeOf166
  v76 := Tryz.zeroValue166
  t105 := Tryz.underlying203
  a105 := Tryz.isAgg203
  z105 := Tryz.sizeOf203
  v105 := Tryz.zeroValue203
  t119 := Tryz.underlying236
  a119 := Tryz.isAgg236
  z119 := Tryz.sizeOf236
  t127 := Tryz.underlying202
  a127 := Tryz.isAgg202
  z127 := Tryz.sizeOf202
  v127 := Tryz.zeroValue202
  t138 := Tryz.underlying238
  a138 := Tryz.isAgg238
  z138 := Tryz.sizeOf238
  v138 := Tryz.zeroValue238
  t139 := Tryz.underlying239
  a139 := Tryz.isAgg239
  z139 := Tryz.sizeOf239
  v139 := Tryz.zeroValue239
  t146 := Tryz.underlying257
  a146 := Tryz.isAgg257
  z146 := Tryz.sizeOf257
  v146 := Tryz.zeroValue257
  t164 := Tryz.underlying142
  a164 := Tryz.isAgg142
  z164 := Tryz.sizeOf142
  v164 := Tryz.zeroValue142
  g1 := by kernel_rfl
  g3 := by kernel_rfl
  g4 := by kernel_rfl }
theorem Tryz.Builder_Extra_155 : Builder.Extra Tryz.prog Tryz.lays155_ren := {
  sizeBuilder := by kernel_rfl
  liesBuilder := by kernel_rfl
  t5 := Tryz.underlying5
  a5 := Tryz.isAgg5
  z5 := Tryz.sizeOf5
  v5 := Tryz.zeroValue5
  infoByte := by kernel_rfl
  cellsByte := by kernel_rfl
  sizeByte := by kernel_rfl
  neB5 := by decide }
end Go.Proofs
namespace Go.Proofs.YtjbpkcbefmpfgaaGreatDoor
open Go.WK Go.RowKit
/-- What the library's variables hold, as far as it is read. -/
structure LE (w : World) : Prop where
  syn : ∃ tp p, w.var? Tryz.prog "strconv.ErrSyntax" = some #[.iface tp p]
  rng : ∃ tp p, w.var? Tryz.prog "strconv.ErrRange" = some #[.iface tp p]
theorem var_lt {w : World} {n : String} {g : Nat} {cs : Array Value} (hg : Tryz.prog.globalNamed n = some g) (h : w.var? Tryz.prog n = some cs) : g < w.heap.size := by
  unfold World.var? at h
  rw [hg] at h
  simp only [Option.bind_some] at h
  rcases Nat.lt_or_ge g w.heap.size with hlt | hge
  · exact hlt
  · rw [Array.getElem?_eq_none hge] at h; cases h
theorem var_chg {w w' : World} {n : String} {g : Nat} {cs : Array Value} (hg : Tryz.prog.globalNamed n = some g) (hc : Chg [] w w') (h : w.var? Tryz.prog n = some cs) : w'.var? Tryz.prog n = some cs := var?_below hc.below hg (var_lt hg h) h
theorem gSyn : Tryz.prog.globalNamed "strconv.ErrSyntax" = some 6 := by kernel_rfl
theorem gRng : Tryz.prog.globalNamed "strconv.ErrRange" = some 7 := by kernel_rfl
theorem LE.chg {w w' : World} (h : LE w) (hc : Chg [] w w') : LE w' := by
  obtain ⟨⟨t, p, h1⟩, ⟨t2, p2, h2⟩⟩ := h
  exact ⟨⟨t, p, var_chg gSyn hc h1⟩, ⟨t2, p2, var_chg gRng hc h2⟩⟩
theorem B_list (l : List UInt8) : (B l).data.toList = l := by simp
theorem low_eq (c : UInt8) : Lib.lowerB c = low c := by
  unfold Lib.lowerB low Lib.isUpperB
  have h1 : (65 : UInt8) ≤ c ↔ 65 ≤ c.toNat := UInt8.le_iff_toNat_le
  have h2 : c ≤ (90 : UInt8) ↔ c.toNat ≤ 90 := UInt8.le_iff_toNat_le
  simp only [Bool.and_eq_true, decide_eq_true_eq, h1, h2]
theorem lib_lower (s : List UInt8) (w : World) (hs : s.length ≤ 140737488355328) (h : ∀ c ∈ s, c.toNat < 128) : Calls Tryz.prog 86 #[.string (B s)] w (Pure w (.string (B (small s)))) := by
  have h : Calls Tryz.prog 86 #[.string (B s)] w fun e w' => e = .returned (.string ⟨(Lib.toLowerA (B s).data.toList).toArray⟩) ∧ Below w.heap.size w w' :=
    Any.strings_ToLower_ascii Tryz.lays159 Tryz.Builder_Extra_159 (B s) w (by rw [B_size]; exact hs) (fun j b hb => by rw [B_list] at hb; exact h b (List.mem_of_getElem? hb))
  refine h.mono fun e w' ⟨he, hw⟩ => ⟨?_, Chg.of_below hw⟩
  rw [he, B_list]
  have e : Lib.toLowerA s = small s := by
    unfold Lib.toLowerA small
    congr 1
    funext c
    exact low_eq c
  rw [e]
theorem lib_prefix (s p : List UInt8) (w : World) : Calls Tryz.prog 125 #[.string (B s), .string (B p)] w (Pure w (.bool (p.isPrefixOf s))) := by
  have h : Calls Tryz.prog 125 #[.string (B s), .string (B p)] w fun e w' => e = .returned (.bool (Lib.hasPrefix (B s).data.toList (B p).data.toList)) ∧ w' = w := Any.strings_HasPrefix Tryz.lays99 (B s) (B p) w
  refine h.mono fun e w' ⟨he, hw⟩ => ⟨?_, by rw [hw]; exact Chg.refl _ _⟩
  rw [he, B_list, B_list]; rfl
theorem lib_index (s : List UInt8) (w : World) : Calls Tryz.prog 126 #[.string (B s), .int .u8 10] w (Pure w (.int .i64 (Lib.indexByte s 10))) := by
  have h : Calls Tryz.prog 126 #[.string (B s), .int .u8 10] w fun e w' => e = .returned (.int .i64 (Lib.indexByte (B s).data.toList (10 : Int).toNat.toUInt8)) ∧ w' = w := Any.strings_IndexByte Tryz.lays137 (B s) 10 w
  refine h.mono fun e w' ⟨he, hw⟩ => ⟨?_, by rw [hw]; exact Chg.refl _ _⟩
  rw [he, B_list]; rfl
theorem lib_parse (s : List UInt8) (n : Int) (w : World) (hs : s.length ≤ 281474976710656) (h : Lib.parseIntB 64 s = .ok n) : Calls Tryz.prog 133 #[.string (B s), .int .i64 10, .int .i64 64] w (Pure w (.tuple #[.int .i64 n, .nilIface])) := by
  have h : Calls Tryz.prog 133 #[.string (B s), .int .i64 10, .int .i64 64] w fun e w' => e = .returned (.tuple #[.int .i64 n, .nilIface]) ∧ (w' = w ∨ ∃ t, w' = Lib.bytesWorld w 5 t) :=
    Any.strconv_ParseInt_10_at64_ok Tryz.laysC174 (B s) (by rw [B_size]; omega) n (by rw [B_list]; exact h) w
  refine h.mono fun e w' ⟨he, hw⟩ => ⟨he, ?_⟩
  rcases hw with rfl | ⟨t, rfl⟩
  · exact Chg.refl _ _
  · exact Chg.of_below (Lib.bytesWorld_below _ _ _)
/-- No number: an error that is not nil. -/
theorem lib_bad (s : List UInt8) (w : World) (hs : s.length ≤ 281474976710656) (h : ∀ n, Lib.parseIntB 64 s ≠ .ok n) (hE : LE w) : Calls Tryz.prog 133 #[.string (B s), .int .i64 10, .int .i64 64] w fun e w' => ∃ j : Int × Nat, e = .returned (.tuple #[.int .i64 j.1, .iface 227 (.pointer (some ⟨j.2, 0, none⟩))]) ∧ Chg [] w w' := by
  obtain ⟨⟨tp, p, h1⟩, ⟨t2, p2, h2⟩⟩ := hE
  cases hp : Lib.parseIntB 64 s with
  | ok n => exact absurd hp (h n)
  | range =>
    have h : Calls Tryz.prog 133 #[.string (B s), .int .i64 10, .int .i64 64] w fun e w' => ∃ N, e = .returned (.tuple #[.int .i64 (Lib.intSat 64 (B s).data.toList), .iface 227 (.pointer (some ⟨N, 0, none⟩))]) ∧ w.heap.size ≤ N ∧ w'.heap[N]? = some (.cells #[.string ⟨#[80, 97, 114, 115, 101, 73, 110, 116]⟩, .string (B s), .iface t2 p2] 245 (0, 0)) ∧ Below w.heap.size w w' :=
      Any.strconv_ParseInt_10_at64_range_var Tryz.laysC174 (B s) (by rw [B_size]; exact hs) (by rw [B_list]; exact hp) t2 p2 w h2
    exact h.mono fun e w' ⟨N, he, _, _, hw⟩ => ⟨(_, N), he, Chg.of_below hw⟩
  | _ =>
    have h : Calls Tryz.prog 133 #[.string (B s), .int .i64 10, .int .i64 64] w fun e w' => ∃ N, e = .returned (.tuple #[.int .i64 (0), .iface 227 (.pointer (some ⟨N, 0, none⟩))]) ∧ w.heap.size ≤ N ∧ w'.heap[N]? = some (.cells #[.string ⟨#[80, 97, 114, 115, 101, 73, 110, 116]⟩, .string (B s), .iface tp p] 245 (0, 0)) ∧ Below w.heap.size w w' :=
      Any.strconv_ParseInt_10_at64_syntax_var Tryz.laysC174 (B s) (by rw [B_size]; exact hs) (by rw [B_list]; exact hp) tp p w h1
    exact h.mono fun e w' ⟨N, he, _, _, hw⟩ => ⟨(0, N), he, Chg.of_below hw⟩
theorem lib_num (s : List UInt8) (w : World) (hs : s.length ≤ 281474976710656) (hE : LE w) : Calls Tryz.prog 133 #[.string (B s), .int .i64 10, .int .i64 64] w fun e w' => ∃ j : Int × Value, ErrIs (parses s) j.2 ∧ e = .returned (.tuple #[.int .i64 j.1, j.2]) ∧ Chg [] w w' := by
  cases hp : parses s with
  | true =>
    obtain ⟨n, hn⟩ := parses_iff.1 hp
    exact (lib_parse s n w hs hn).mono fun e w' ⟨he, hc⟩ => ⟨(n, .nilIface), .inl ⟨rfl, rfl⟩, he, hc⟩
  | false => exact (lib_bad s w hs (parses_no hp) hE).mono fun e w' ⟨j, he, hc⟩ => ⟨(j.1, _), .inr ⟨rfl, _, _, rfl⟩, he, hc⟩
theorem ifE : Tryz.prog.underlying 46 = some (.interface (Tryz.prog.methodsAt 46)) := by kernel_rfl
end Go.Proofs.YtjbpkcbefmpfgaaGreatDoor
namespace Go.Proofs.YtjbpkcbefmpfgaaGreatDoor
open Go.WK Go.RowKit 
theorem agg3 : aggB Tryz.prog 3 = some false := by kernel_rfl
theorem agg9 : aggB Tryz.prog 9 = some false := by kernel_rfl
theorem zs5 : (Tryz.prog.info? 5).map (fun i => (i.zero, i.size)) = some (some (.int .u8 0), 1) := by kernel_rfl
theorem zsb5 : (Tryz.prog.info? 5).map (fun i => (i.zero, i.size, i.bytes)) = some (some (.int .u8 0), 1, 1) := by kernel_rfl
theorem skipK (s : List UInt8) (a : Nat) (w : World) (hs : s.length ≤ 140737488355328) (ha : a ≤ s.length) : Calls Tryz.prog 81 #[.string (B s), .int .i64 (a : Int)] w (Pure w (.int .i64 ((a + gap (s.drop a) : Nat) : Int))) := by
  refine calls_tri (args := [.string (B s), .int .i64 (a : Int)]) (lent := []) (H := []) Tryz.func81 rfl Tryz.ntmps81 rfl (Sat.start _ _ _ _) ?_; refine (show Tri _ [(0, _), (1, _)] _ _ _ from ?_); refine tri_seq (tri_region ?_); refine o_assignN rfl rfl ?_; refine tri_seq ?_; refine tri_block ?_; refine tri_loop (ι := Nat) (F := fun i => [(0, .string (B s)), (1, .int .i64 (i : Int))]) (HH := fun i => []) (Pu := fun i => i ≤ s.length ∧ a + gap (s.drop a) = i + gapM false (s.drop i)) (μ := fun i => s.length - i) (a) (.cons rfl (.cons rfl (.nil _))) (fun _ h => h) (⟨ha, rfl⟩) (fun i hi => ?_); refine tri_seq ?_; refine tri_seq (tri_region ?_); refine o_move rfl rfl ?_; refine o_move rfl rfl ?_; refine o_lenB Tryz.underlying9 rfl rfl ?_; refine o_lss rfl rfl rfl ?_; refine triL_nilN ?_; refine tri_if rfl (fun h0 => ?_) (fun h0 => ?_)
  · skip
    refine tri_skip ?_; refine thenQ_normal ?_; refine tri_block ?_; refine tri_seq ?_; refine tri_slots [(0, _), (1, _)] (.cons rfl (.cons rfl (.nil _))) ?_; refine tri_region ?_; refine o_move rfl rfl ?_; refine o_move rfl rfl ?_; refine o_idxB Tryz.underlying9 rfl rfl rfl (by omega) (by omega) ?_; refine o_assignN rfl rfl ?_; refine tri_block ?_; refine tri_seq (tri_region ?_); refine o_move rfl rfl ?_; refine o_eqlU8 _ 32 rfl rfl rfl ?_; refine o_move rfl rfl ?_
    refine' triL_or [_, _] [(5, _), (0, _), (1, _)] (dj := 18) (dr := 20) rfl rfl (fun g1 => ?_) ⟨_, rfl, rfl, rfl, (.cons rfl (.cons rfl (.cons rfl (.nil _))))⟩ rfl ?_
    rotate_left
    · skip
      refine o_move rfl rfl ?_; refine o_eqlU8 _ 9 rfl rfl rfl ?_
      exact triL_nil (Piece.mk rfl rfl (.cons rfl (.cons rfl (.cons rfl (.nil _)))) (fun _ h => h))
    refine o_move rfl rfl ?_
    refine' triL_or [_, _] [(5, _), (0, _), (1, _)] (dj := 22) (dr := 24) rfl rfl (fun g2 => ?_) ⟨_, rfl, rfl, rfl, (.cons rfl (.cons rfl (.cons rfl (.nil _))))⟩ rfl ?_
    rotate_left
    · skip
      refine o_move rfl rfl ?_; refine o_eqlU8 _ 10 rfl rfl rfl ?_
      exact triL_nil (Piece.mk rfl rfl (.cons rfl (.cons rfl (.cons rfl (.nil _)))) (fun _ h => h))
    refine o_move rfl rfl ?_
    refine' triL_or [_, _] [(0, _), (1, _)] (dj := 26) (dr := 28) rfl rfl (fun g3 => ?_) ⟨_, rfl, rfl, rfl, (.cons rfl (.cons rfl (.nil _)))⟩ rfl ?_
    rotate_left
    · skip
      refine o_move rfl rfl ?_; refine o_eqlU8 _ 13 rfl rfl rfl ?_
      exact triL_nil (Piece.mk rfl rfl (.cons rfl (.cons rfl (.nil _))) (fun _ h => h))
    refine o_assignN rfl rfl ?_; refine tri_cond rfl (fun hb => ?_) (fun hb => ?_)
    · skip
      have hb : isBl (s.getD i 0) = true := hb
      refine tri_region ?_; refine o_move rfl rfl ?_; refine o_addN rfl rfl rfl (by omega) ?_; refine o_assign rfl rfl ?_; refine triL_nil ?_; refine blockQ_normal ?_; refine blockQ_normal ?_; refine thenQ_normal ?_
      have e := gap_bl (i := i) (by omega) hb
      exact ⟨i + 1, (.cons rfl (.cons rfl (.nil _))), fun _ h => h, ⟨by omega, by omega⟩, by omega⟩
    · skip
      have hb : isBl (s.getD i 0) = false := hb
      refine tri_seq (tri_region ?_); refine o_move rfl rfl ?_; refine o_move rfl rfl ?_; refine o_sliceBl Tryz.underlying9 rfl rfl rfl (by omega) (by omega) ?_; refine o_callP (first := []) (cap := []) rfl rfl rfl Tryz.call125 (fun w1 h1 => lib_prefix (s.drop i) [45, 45] w1) ?_; refine o_assignN rfl rfl ?_; refine tri_cond rfl (fun hp => ?_) (fun hp => ?_)
      · skip
        have hp : ([45, 45] : List UInt8).isPrefixOf (s.drop i) = true := hp
        rw [prefix_dash] at hp
        simp only [Bool.and_eq_true, decide_eq_true_eq] at hp
        have hp : s.getD i 0 = 45 ∧ i + 1 < s.length ∧ s.getD (i + 1) 0 = 45 := ⟨hp.2.1, hp.1, hp.2.2⟩
        have hx := cmt_idx (s.drop i)
        have hz := idx_pos (s := s) (i := i) (by omega) (by rw [hp.1]; decide)
        have hl : (s.drop i).length = s.length - i := List.length_drop
        refine tri_seq ?_; refine tri_slots [(0, _), (1, _)] (.cons rfl (.cons rfl (.nil _))) ?_; refine tri_region ?_; refine o_move rfl rfl ?_; refine o_move rfl rfl ?_; refine o_sliceBl Tryz.underlying9 rfl rfl rfl (by omega) (by omega) ?_; refine o_callP (first := []) (cap := []) rfl rfl rfl Tryz.call126 (fun w1 h1 => lib_index (s.drop i) w1) ?_; refine o_assignN rfl rfl ?_; refine tri_seq ?_; refine tri_seq ?_; refine tri_slots [(6, _), (0, _), (1, _)] (.cons rfl (.cons rfl (.cons rfl (.nil _)))) ?_; refine tri_region ?_; refine o_move rfl rfl ?_; refine o_lss rfl rfl rfl ?_; refine triL_nilN ?_; refine tri_if rfl (fun h3 => ?_) (fun h3 => ?_)
        · skip
          have hq := hx.resolve_right (fun ⟨k, hk1, _⟩ => by have h3 : Lib.indexByte (s.drop i) 10 < 0 := h3; omega)
          refine tri_seq ?_; refine tri_slots [(0, _)] (.cons rfl (.nil _)) ?_; refine tri_region ?_; refine o_move rfl rfl ?_; refine o_lenB Tryz.underlying9 rfl rfl ?_; refine o_assignN rfl rfl ?_; refine tri_ret ?_; refine thenQ_ret ?_; refine blockQ_ret ?_; refine blockQ_ret ?_; refine thenQ_ret ?_; refine blockQ_ret ?_; refine thenQ_ret ?_; refine end1 rfl rfl ?_
          exact fun w1 hw1 => ⟨congrArg (fun b => Ending.returned (.int .i64 b)) (by rw [hi.2, gap_cmt (by omega) hp, hq.2, hl]; omega), hw1.chg⟩
        · skip
          obtain ⟨k, hk1, hk2, hk3⟩ := hx.resolve_left (fun hk1 => by have h3 : ¬ Lib.indexByte (s.drop i) 10 < 0 := h3; omega)
          have ek : Value.int .i64 (Lib.indexByte (s.drop i) 10) = .int .i64 (k : Int) := congrArg _ hk1
          rw [ek]
          have hkp : 0 < k := by omega
          refine tri_skip ?_; refine thenQ_normal ?_; refine tri_region ?_; refine o_move rfl rfl ?_; refine o_move rfl rfl ?_; refine o_addN rfl rfl rfl (by omega) ?_; refine o_assign rfl rfl ?_; refine triL_nil ?_; refine blockQ_normal ?_; refine blockQ_normal ?_; refine thenQ_normal ?_
          exact ⟨i + k, (.cons rfl (.cons rfl (.nil _))), fun _ h => h, ⟨by omega, by rw [hi.2, gap_cmt (by omega) hp, hk3, List.drop_drop]; omega⟩, by omega⟩
      · skip
        have hp : ([45, 45] : List UInt8).isPrefixOf (s.drop i) = false := hp
        have e := gap_no (s := s) (i := i) (by omega) hb (fun q => by rw [prefix_dash, q.1, q.2.2, decide_eq_true q.2.1] at hp; cases hp)
        refine tri_seq ?_; refine tri_slots [(1, _)] (.cons rfl (.nil _)) ?_; refine tri_region ?_; refine o_move rfl rfl ?_; refine o_assignN rfl rfl ?_; refine tri_ret ?_; refine blockQ_ret ?_; refine blockQ_ret ?_; refine thenQ_ret ?_; refine blockQ_ret ?_; refine thenQ_ret ?_; refine end1 rfl rfl ?_
        exact fun w1 hw1 => ⟨congrArg (fun b => Ending.returned (.int .i64 b)) (by rw [hi.2, e]; rfl), hw1.chg⟩
  · skip
    refine tri_exit ?_; refine thenQ_exit ?_; refine thenQ_exit ?_; refine blockQ_here ?_; refine thenQ_normal ?_; refine tri_seq ?_; refine tri_slots [(1, _)] (.cons rfl (.nil _)) ?_; refine tri_region ?_; refine o_move rfl rfl ?_; refine o_assignN rfl rfl ?_; refine tri_ret ?_; refine end1 rfl rfl ?_
    exact fun w1 hw1 => ⟨congrArg (fun b => Ending.returned (.int .i64 b)) (by rw [hi.2, List.drop_eq_nil_of_le (by omega)]; rfl), hw1.chg⟩
theorem peekK (s : List UInt8) (a k b4 b1 : Nat) (w : World) (h4 : Rd w (some ⟨b4, 0, none⟩) [.int .i64 (a : Int)]) (h1 : Rd w (some ⟨b1, 0, none⟩) [.string (B s)]) (hs : s.length ≤ 140737488355328) (ha : a ≤ 140737488355328) (hk : k ≤ 1) : Calls Tryz.prog 80 #[.int .i64 (k : Int), .pointer (some ⟨b4, 0, none⟩), .pointer (some ⟨b1, 0, none⟩)] w (Pure w (byteV (s.getD (a + k) 0))) := by
  refine calls_tri (args := [.int .i64 (k : Int), .pointer (some ⟨b4, 0, none⟩), .pointer (some ⟨b1, 0, none⟩)]) (lent := []) (H := []) Tryz.func80 rfl Tryz.ntmps80 rfl (Sat.start _ _ _ _) ?_; refine (show Tri _ [(0, _), (1, _), (2, _)] _ _ _ from ?_)
  have hR4 : ∀ cx H, cx.w0 = w → cx.lent = [] → RdS cx H (some ⟨b4, 0, none⟩) [.int .i64 (a : Int)] := fun cx H q1 q2 => RdS.arg (by rw [q1]; exact h4) q2
  have hR1 : ∀ cx H, cx.w0 = w → cx.lent = [] → RdS cx H (some ⟨b1, 0, none⟩) [.string (B s)] := fun cx H q1 q2 => RdS.arg (by rw [q1]; exact h1) q2
  refine tri_seq (tri_region ?_); refine o_assignN rfl rfl ?_; refine tri_seq ?_; refine tri_seq (tri_region ?_); refine o_loadR (A := some ⟨b4, 0, none⟩) (kk := 0) agg3 rfl rfl (hR4 _ _ rfl rfl) rfl ?_; refine o_move rfl rfl ?_; refine o_addN rfl rfl rfl (by omega) ?_; refine o_loadR (A := some ⟨b1, 0, none⟩) (kk := 0) agg9 rfl rfl (hR1 _ _ rfl rfl) rfl ?_; refine o_lenB Tryz.underlying9 rfl rfl ?_; refine o_lss rfl rfl rfl ?_; refine triL_nilN ?_; refine tri_if rfl (fun h0 => ?_) (fun h0 => ?_)
  · skip
    refine tri_seq ?_; refine tri_slots [(0, _), (1, _), (2, _)] (.cons rfl (.cons rfl (.cons rfl (.nil _)))) ?_; refine tri_region ?_; refine o_loadR (A := some ⟨b1, 0, none⟩) (kk := 0) agg9 rfl rfl (hR1 _ _ rfl rfl) rfl ?_; refine o_loadR (A := some ⟨b4, 0, none⟩) (kk := 0) agg3 rfl rfl (hR4 _ _ rfl rfl) rfl ?_; refine o_move rfl rfl ?_; refine o_addN rfl rfl rfl (by omega) ?_; refine o_idxB Tryz.underlying9 rfl rfl rfl (by omega) (by omega) ?_; refine o_assignN rfl rfl ?_; refine tri_ret ?_; refine thenQ_ret ?_; refine end1 rfl rfl ?_
    exact fun w1 hw1 => ⟨rfl, hw1.chg⟩
  · skip
    refine tri_skip ?_; refine thenQ_normal ?_; refine tri_seq ?_; refine tri_slots [] (.nil _) ?_; refine tri_region ?_; refine o_assignN rfl rfl ?_; refine tri_ret ?_; refine end1 rfl rfl ?_
    have e : s.getD (a + k) 0 = 0 := by
      rw [List.getD_eq_getElem?_getD, List.getElem?_eq_none (by omega)]; rfl
    exact fun w1 hw1 => ⟨by rw [e]; rfl, hw1.chg⟩
theorem numberK (s : List UInt8) (w : World) (hs : s.length ≤ 140737488355328) (hd : isDig (s.getD 0 0) = true) (hE : LE w) : Calls Tryz.prog 87 #[.string (B s)] w (Pure w (.tuple #[.int .i64 ((runL isDig s : Nat) : Int), .int .i64 (if numBad s (runL isDig s) then 180 else 0)])) := by
  refine calls_tri (args := [.string (B s)]) (lent := []) (H := []) Tryz.func87 rfl Tryz.ntmps87 rfl (Sat.start _ _ _ _) ?_; refine (show Tri _ [(0, _)] _ _ _ from ?_)
  have hn2 := run_le isDig s
  have hl0 : 0 < s.length := by
    cases s with
    | nil => exact absurd hd (by decide)
    | cons => simp
  have hn1 : 0 < runL isDig s := by
    have e := run_step isDig s 0 hl0
    rw [if_pos hd, List.drop_zero] at e
    omega
  refine tri_seq (tri_region ?_); refine o_assign rfl rfl ?_; refine o_assignN rfl rfl ?_; refine tri_seq (tri_region ?_); refine o_move rfl rfl ?_; refine o_callP (v := .int .i64 ((runL isDig s : Nat) : Int)) (first := []) (cap := []) rfl rfl rfl Tryz.call83 (fun w1 h1 => runK s 85 isDigZ w1 (by omega) Tryz.call85 (fun z w => digitK z w)) ?_; refine o_assignN rfl rfl ?_; refine tri_seq ?_; refine tri_slots [(4, _), (0, _)] (.cons rfl (.cons rfl (.nil _))) ?_; refine tri_region ?_; refine o_move rfl rfl ?_; refine o_move rfl rfl ?_; refine o_sliceBh Tryz.underlying9 rfl rfl rfl (by omega) (by omega) ?_; refine o_call (J := Int × Value) (first := []) (cap := []) (fun j => .tuple #[.int .i64 j.1, j.2]) (fun _ => _) (fun j => ErrIs (parses (s.take (runL isDig s))) j.2) rfl rfl rfl Tryz.call133 (fun w1 h1 => (lib_num (s.take (runL isDig s)) w1 (by rw [List.length_take]; omega) (hE.chg h1.chg)).mono fun e w2 ⟨j, hp, he, hc⟩ => ⟨j, hp, he, h1.ext hc⟩) (fun j hj => ?_); refine o_move rfl rfl ?_; refine o_extract rfl rfl rfl ?_; refine o_extract rfl rfl rfl ?_; refine o_assign rfl rfl ?_; refine o_assignN rfl rfl ?_; refine tri_seq ?_; refine tri_seq ?_; refine tri_slots [(6, _), (4, _), (0, _)] (.cons rfl (.cons rfl (.cons rfl (.nil _)))) ?_; refine tri_region ?_; refine o_move rfl rfl ?_; refine o_neqErr ifE hj rfl rfl ?_; refine o_move rfl rfl ?_
  refine' triL_or [_, _, _, _, _, _, _] [(4, _), (0, _)] (dj := 18) (dr := 25) rfl rfl (fun g1 => ?_) ⟨_, rfl, rfl, rfl, (.cons rfl (.cons rfl (.nil _)))⟩ rfl ?_
  rotate_left
  · skip
    refine o_move rfl rfl ?_; refine o_gtr rfl rfl rfl ?_; refine o_move rfl rfl ?_
    refine' triL_and [_, _, _] [(18, _), (4, _), (0, _)] (dj := 21) (dr := 24) rfl rfl (fun g2 => ?_) ⟨_, rfl, rfl, rfl, (.cons rfl (.cons rfl (.cons rfl (.nil _))))⟩ rfl ?_
    rotate_left
    · skip
      refine o_move rfl rfl ?_; refine o_idxB Tryz.underlying9 rfl rfl rfl (by omega) (by omega) ?_; refine o_eqlU8 _ 48 rfl rfl rfl ?_
      exact triL_nil (Piece.mk rfl rfl (.cons rfl (.cons rfl (.cons rfl (.nil _)))) (fun _ h => h))
    exact triL_nil (Piece.mk rfl rfl (.cons rfl (.cons rfl (.nil _))) (fun _ h => h))
  refine o_move rfl rfl ?_
  refine' triL_or [_, _, _, _, _, _, _, _, _, _] [(4, _)] (dj := 27) (dr := 37) rfl rfl (fun g3 => ?_) ⟨_, rfl, rfl, rfl, (.cons rfl (.nil _))⟩ rfl ?_
  rotate_left
  · skip
    refine o_move rfl rfl ?_; refine o_move rfl rfl ?_; refine o_lenB Tryz.underlying9 rfl rfl ?_; refine o_lss rfl rfl rfl ?_; refine o_move rfl rfl ?_
    refine' triL_and [_, _, _, _] [(27, _), (4, _)] (dj := 32) (dr := 36) rfl rfl (fun g4 => ?_) ⟨_, rfl, rfl, rfl, (.cons rfl (.cons rfl (.nil _)))⟩ rfl ?_
    rotate_left
    · skip
      have g4 := of_decide_eq_true g4
      refine o_move rfl rfl ?_; refine o_move rfl rfl ?_; refine o_idxB Tryz.underlying9 rfl rfl rfl (by omega) (by omega) ?_; refine o_callP (first := []) (cap := []) rfl rfl rfl Tryz.call82 (fun w_ hw_ => letterK _ w_) ?_
      exact triL_nil (Piece.mk rfl rfl (.cons rfl (.cons rfl (.nil _))) (fun _ h => h))
    exact triL_nil (Piece.mk rfl rfl (.cons rfl (.nil _)) (fun _ h => h))
  refine triL_nilN ?_; refine tri_cond rfl (fun h1 => ?_) (fun h1 => ?_)
  · skip
    have h1 := Eq.trans (Eq.symm (numBad_test hd _ _ (by congr 1; exact decide_eq_decide.2 (by omega)) (by congr 1; exact decide_eq_decide.2 (by omega)))) h1
    have h1 := of_decide_eq_true h1
    refine tri_seq (tri_region ?_); refine o_move rfl rfl ?_; refine o_assign rfl rfl ?_; refine o_assignN rfl rfl ?_; refine tri_ret ?_; refine thenQ_ret ?_; refine end2 rfl rfl rfl ?_
    exact fun w1 hw1 => ⟨by rw [if_pos h1], hw1.chg⟩
  · skip
    have h1 := Eq.trans (Eq.symm (numBad_test hd _ _ (by congr 1; exact decide_eq_decide.2 (by omega)) (by congr 1; exact decide_eq_decide.2 (by omega)))) h1
    have h1 := of_decide_eq_false h1
    refine tri_skip ?_; refine thenQ_normal ?_; refine tri_seq (tri_region ?_); refine o_move rfl rfl ?_; refine o_assign rfl rfl ?_; refine o_assignN rfl rfl ?_; refine tri_ret ?_; refine end2 rfl rfl rfl ?_
    exact fun w1 hw1 => ⟨by rw [if_neg h1], hw1.chg⟩
theorem quotedK (s : List UInt8) (w : World) (hs : s.length ≤ 140737488355328) (h1 : 1 ≤ s.length) : Calls Tryz.prog 88 #[.string (B s)] w (Pure w (.tuple #[.string (B (quoR s).1), .int .i64 ((quoR s).2.1 : Int), .int .i64 (quoR s).2.2])) := by
  refine calls_tri (args := [.string (B s)]) (lent := []) (H := []) Tryz.func88 rfl Tryz.ntmps88 rfl (Sat.start _ _ _ _) ?_; refine (show Tri _ [(0, _)] _ _ _ from ?_); refine tri_seq (tri_region ?_); refine o_assign rfl rfl ?_; refine o_assign rfl rfl ?_; refine o_assignN rfl rfl ?_; refine tri_scope ?_; refine tri_seq (tri_region ?_); refine o_assignN rfl rfl ?_; refine tri_seq (tri_region ?_); refine o_assignN rfl rfl ?_; refine tri_seq ?_; refine tri_label ?_; refine thenQ_normal ?_; refine tri_seq ?_; refine tri_block ?_; refine tri_loop (ι := List UInt8 × Nat × Option Addr × Nat) (F := fun q => [(0, .string (B s)), (5, .slice q.2.2.1 q.1.length q.2.2.2), (6, .int .i64 (q.2.1 : Int))]) (HH := fun q => [row (.slice q.2.2.1 q.1.length q.2.2.2) 5 1 q.1.length (bytesV q.1)]) (Pu := fun q => quoInv s q.1 q.2.1) (μ := fun q => s.length - q.2.1) (([], 1, none, 0)) (.cons rfl (.cons rfl (.cons rfl (.nil _)))) (fun _ h => h.nilRow _ _) (quoInv_zero h1) (fun q hi => ?_)
  have hi2 := hi.2.1
  have hi3 := hi.2.2.1
  refine tri_block ?_; refine tri_seq ?_; refine tri_block ?_; refine tri_seq (tri_region ?_); refine o_move rfl rfl ?_; refine o_move rfl rfl ?_; refine o_lenB Tryz.underlying9 rfl rfl ?_; refine o_eqlI rfl rfl rfl ?_; refine o_assignN rfl rfl ?_; refine tri_if rfl (fun h0 => ?_) (fun h0 => ?_)
  · skip
    refine tri_seq ?_; refine tri_slots [] (.nil _) ?_; refine tri_region ?_; refine o_assign rfl rfl ?_; refine o_assign rfl rfl ?_; refine o_assignN rfl rfl ?_; refine tri_ret ?_; refine blockQ_ret ?_; refine thenQ_ret ?_; refine blockQ_ret ?_; refine thenQ_ret ?_; refine blockQ_ret ?_; refine thenQ_ret ?_; refine scopeQ_ret ?_; refine end3 rfl rfl rfl rfl ?_
    have e : quoR s = ([], 0, 180) := (by rw [quoR, quoInv_none hi (by omega)])
    exact fun w1 hw1 => ⟨by rw [e]; rfl, hw1.chg⟩
  · skip
    refine tri_seq ?_; refine tri_slots [(0, _), (5, _), (6, _)] (.cons rfl (.cons rfl (.cons rfl (.nil _)))) ?_; refine tri_region ?_; refine o_move rfl rfl ?_; refine o_move rfl rfl ?_; refine o_idxB Tryz.underlying9 rfl rfl rfl (by omega) (by omega) ?_; refine o_neqU8 _ 39 rfl rfl rfl ?_; refine o_assignN rfl rfl ?_; refine tri_if rfl (fun g1 => ?_) (fun g1 => ?_)
    · skip
      have g1 : s.getD q.2.1 0 ≠ 39 := g1
      refine tri_skip ?_; refine blockQ_normal ?_; refine thenQ_normal ?_; refine tri_seq ?_; refine tri_slots [(0, _), (5, _), (6, _)] (.cons rfl (.cons rfl (.cons rfl (.nil _)))) ?_; refine tri_region ?_; refine o_move rfl rfl ?_; refine o_move rfl rfl ?_; refine o_move rfl rfl ?_; refine o_idxB Tryz.underlying9 rfl rfl rfl (by omega) (by omega) ?_; refine o_lit1 (vs := bytesV [_]) Tryz.underlying65 zs5 rfl rfl rfl rfl rfl (by decide) (by decide) (fun b36 => ?_); refine o_append Tryz.underlying65 zsb5 rfl (by decide) (by repeat (first | exact Nth.z | apply Nth.s)) rfl rfl rfl (news := bytesV [_]) (RdS.row .z) rfl (bytesV_one _) (by unfold maxLen; omega) (by omega) (fun A37 c37 => ?_); refine o_assignN rfl rfl ?_; refine tri_slots [(5, _), (0, _), (6, _)] (.cons rfl (.cons rfl (.cons rfl (.nil _)))) ?_; refine tri_region ?_; refine o_move rfl rfl ?_; refine o_addN rfl rfl rfl (by omega) ?_; refine o_assign rfl rfl ?_; refine triL_nil ?_; refine blockQ_normal ?_; refine thenQ_normal ?_
      exact ⟨(q.1 ++ [s.getD q.2.1 0], q.2.1 + 1, A37, c37), (.cons rfl (.cons (congrArg (fun k : Nat => some (Value.slice A37 k c37)) (by simp)) (.cons rfl (.nil _)))), (fun w1 hw1 => by simp only [List.length_append, bytesV_append]; exact hw1.tail), quoInv_one hi (by omega) g1, (by simp only; omega)⟩
    · skip
      have g1 : s.getD q.2.1 0 = 39 := Decidable.not_not.1 g1
      refine tri_seq ?_; refine tri_slots [(0, _), (5, _), (6, _)] (.cons rfl (.cons rfl (.cons rfl (.nil _)))) ?_; refine tri_region ?_; refine o_move rfl rfl ?_; refine o_addN rfl rfl rfl (by omega) ?_; refine o_move rfl rfl ?_; refine o_lenB Tryz.underlying9 rfl rfl ?_; refine o_lss rfl rfl rfl ?_; refine o_move rfl rfl ?_
      refine' triL_and [_, _, _, _, _] [(0, _), (5, _), (6, _)] (dj := 23) (dr := 28) rfl rfl (fun g1 => ?_) ⟨_, rfl, rfl, rfl, (.cons rfl (.cons rfl (.cons rfl (.nil _))))⟩ rfl ?_
      rotate_left
      · skip
        have g1 := of_decide_eq_true g1
        refine o_move rfl rfl ?_; refine o_move rfl rfl ?_; refine o_addN rfl rfl rfl (by omega) ?_; refine o_idxB Tryz.underlying9 rfl rfl rfl (by omega) (by omega) ?_; refine o_eqlU8 _ 39 rfl rfl rfl ?_
        exact triL_nil (Piece.mk rfl rfl (.cons rfl (.cons rfl (.cons rfl (.nil _)))) (fun _ h => h))
      refine o_assignN rfl rfl ?_; refine tri_cond rfl (fun g2 => ?_) (fun g2 => ?_)
      · skip
        have g2 : q.2.1 + 1 < s.length ∧ s.getD (q.2.1 + 1) 0 = 39 := by simp only [Bool.and_eq_true, decide_eq_true_eq] at g2; exact ⟨by omega, g2.2⟩
        refine tri_region ?_; refine o_move rfl rfl ?_; refine o_addN rfl rfl rfl (by omega) ?_; refine o_assign rfl rfl ?_; refine triL_nil ?_; refine blockQ_normal ?_; refine thenQ_normal ?_; refine tri_seq ?_; refine tri_slots [(6, _), (0, _), (5, _)] (.cons rfl (.cons rfl (.cons rfl (.nil _)))) ?_; refine tri_region ?_; refine o_move rfl rfl ?_; refine o_move rfl rfl ?_; refine o_move rfl rfl ?_; refine o_idxB Tryz.underlying9 rfl rfl rfl (by omega) (by omega) ?_; refine o_lit1 (vs := bytesV [_]) Tryz.underlying65 zs5 rfl rfl rfl rfl rfl (by decide) (by decide) (fun b36 => ?_); refine o_append Tryz.underlying65 zsb5 rfl (by decide) (by repeat (first | exact Nth.z | apply Nth.s)) rfl rfl rfl (news := bytesV [_]) (RdS.row .z) rfl (bytesV_one _) (by unfold maxLen; omega) (by omega) (fun A37 c37 => ?_); refine o_assignN rfl rfl ?_; refine tri_slots [(5, _), (6, _), (0, _)] (.cons rfl (.cons rfl (.cons rfl (.nil _)))) ?_; refine tri_region ?_; refine o_move rfl rfl ?_; refine o_addN rfl rfl rfl (by omega) ?_; refine o_assign rfl rfl ?_; refine triL_nil ?_; refine blockQ_normal ?_; refine thenQ_normal ?_
        exact ⟨(q.1 ++ [s.getD (q.2.1 + 1) 0], q.2.1 + 2, A37, c37), (.cons rfl (.cons (congrArg (fun k : Nat => some (Value.slice A37 k c37)) (by simp)) (.cons rfl (.nil _)))), (fun w1 hw1 => by simp only [List.length_append, bytesV_append]; exact hw1.tail), quoInv_two hi g2.1 g1 g2.2, (by simp only; omega)⟩
      · skip
        have g2 : ¬ (q.2.1 + 1 < s.length ∧ s.getD (q.2.1 + 1) 0 = 39) := fun e => Bool.eq_false_iff.1 g2 (by simp only [Bool.and_eq_true, decide_eq_true_eq]; exact ⟨by omega, e.2⟩)
        have eq := quoInv_some hi (by omega) g1 g2
        refine tri_exit ?_; refine blockQ_other rfl ?_; refine thenQ_exit ?_; refine blockQ_other rfl ?_; refine thenQ_exit ?_; refine blockQ_here ?_; refine thenQ_normal ?_; refine tri_seq ?_; refine tri_seq (tri_region ?_); refine o_move rfl rfl ?_; refine o_lenS Tryz.underlying65 rfl rfl ?_; refine o_gtr rfl rfl rfl ?_; refine triL_nilN ?_; refine tri_if rfl (fun h3 => ?_) (fun h3 => ?_)
        · skip
          refine tri_seq ?_; refine tri_slots [] (.nil _) ?_; refine tri_region ?_; refine o_assign rfl rfl ?_; refine o_assign rfl rfl ?_; refine o_assignN rfl rfl ?_; refine tri_ret ?_; refine thenQ_ret ?_; refine scopeQ_ret ?_; refine end3 rfl rfl rfl rfl ?_
          have e : quoR s = ([], 0, 3) := (by rw [quoR, eq]; exact if_pos (by simp only; omega))
          exact fun w1 hw1 => ⟨by rw [e]; rfl, hw1.chg⟩
        · skip
          refine tri_skip ?_; refine thenQ_normal ?_; refine tri_seq ?_; refine tri_slots [(5, _), (6, _)] (.cons rfl (.cons rfl (.nil _))) ?_; refine tri_region ?_; refine o_move rfl rfl ?_; refine o_toText Tryz.underlying65 Tryz.underlying5 Tryz.underlying9 rfl rfl (RdS.row .z) rfl ?_; refine o_move rfl rfl ?_; refine o_addN rfl rfl rfl (by omega) ?_; refine o_assign rfl rfl ?_; refine o_assign rfl rfl ?_; refine o_assignN rfl rfl ?_; refine tri_ret ?_; refine scopeQ_ret ?_; refine end3 rfl rfl rfl rfl ?_
          have e : quoR s = (q.1, q.2.1 + 1, 0) := (by rw [quoR, eq]; exact if_neg (by simp only; omega))
          exact fun w1 hw1 => ⟨by rw [e]; rfl, hw1.chg⟩
def wds0 : List (List UInt8) := [[97, 110, 100], [97, 115], [98, 101, 103, 105, 110], [98, 111, 111, 108], [98, 121], [99, 111, 109, 109, 105, 116], [99, 114, 101, 97, 116, 101], [100, 101, 108, 101, 116, 101], [100, 101, 115, 99], [100, 105, 115, 116, 105, 110, 99, 116], [100, 114, 111, 112]]
def wds1 : List (List UInt8) := [[102, 97, 108, 115, 101], [102, 114, 111, 109], [105, 110, 100, 101, 120], [105, 110, 115, 101, 114, 116], [105, 110, 116], [105, 110, 116, 111], [105, 115], [106, 111, 105, 110], [108, 105, 109, 105, 116], [110, 111, 116], [110, 117, 108, 108]]
def wds2 : List (List UInt8) := [[111, 110], [111, 114], [111, 114, 100, 101, 114], [114, 111, 108, 108, 98, 97, 99, 107], [115, 101, 108, 101, 99, 116], [115, 101, 116], [116, 97, 98, 108, 101], [116, 101, 120, 116], [116, 114, 117, 101], [117, 110, 105, 113, 117, 101], [117, 112, 100, 97, 116, 101], [118, 97, 108, 117, 101, 115], [119, 104, 101, 114, 101]]
def wds : List (List UInt8) := wds0 ++ (wds1 ++ wds2)
theorem wordK (s : List UInt8) (w : World)  : Calls Tryz.prog 69 #[.string (B s)] w (Pure w (.bool (decide (s ∈ wds)))) := by
  refine calls_tri (args := [.string (B s)]) (lent := []) (H := []) Tryz.func69 rfl Tryz.ntmps69 rfl (Sat.start _ _ _ _) ?_; refine (show Tri _ [(0, _)] _ _ _ from ?_); refine tri_seq (tri_region ?_); refine o_assignN rfl rfl ?_; refine tri_seq ?_; refine tri_seq (tri_region ?_); refine o_move rfl rfl ?_; refine triL_nilN ?_; refine tri_block ?_; refine tri_seq ?_; refine tri_block ?_; refine tri_block ?_; refine tri_block ?_; refine tri_seq ?_; refine tri_seq ?_; refine tri_join (ι := Bool) (fun j => [(3, .string (B s)), (4, .bool j)]) (fun j => []) (fun j => j = decide (s ∈ wds0)) ?_ (fun j hj => ?_)
  · skip
    refine tri_seq (tri_region ?_); refine o_eqlT rfl rfl rfl ?_; refine o_assignN rfl rfl ?_; refine tri_if rfl (fun g0 => ?_) (fun g0 => ?_)
    · skip
      refine tri_skip ?_; refine thenQ_normal ?_
      exact ⟨true, (.cons rfl (.cons (congrArg (fun b => some (Value.bool b)) (decide_eq_true g0)) (.nil _))), fun _ h => h, (by rw [g0]; decide)⟩
    · skip
      refine tri_seq ?_; refine tri_slots [(3, _)] (.cons rfl (.nil _)) ?_; refine tri_region ?_; refine o_eqlT rfl rfl rfl ?_; refine o_assignN rfl rfl ?_; refine tri_if rfl (fun g1 => ?_) (fun g1 => ?_)
      · skip
        refine tri_skip ?_; refine thenQ_normal ?_
        exact ⟨true, (.cons rfl (.cons (congrArg (fun b => some (Value.bool b)) (decide_eq_true g1)) (.nil _))), fun _ h => h, (by rw [g1]; decide)⟩
      · skip
        refine tri_seq (tri_region ?_); refine o_eqlT rfl rfl rfl ?_; refine o_assignN rfl rfl ?_; refine tri_if rfl (fun g2 => ?_) (fun g2 => ?_)
        · skip
          refine tri_skip ?_; refine thenQ_normal ?_
          exact ⟨true, (.cons rfl (.cons (congrArg (fun b => some (Value.bool b)) (decide_eq_true g2)) (.nil _))), fun _ h => h, (by rw [g2]; decide)⟩
        · skip
          refine tri_seq (tri_region ?_); refine o_eqlT rfl rfl rfl ?_; refine o_assignN rfl rfl ?_; refine tri_if rfl (fun g3 => ?_) (fun g3 => ?_)
          · skip
            refine tri_skip ?_; refine thenQ_normal ?_
            exact ⟨true, (.cons rfl (.cons (congrArg (fun b => some (Value.bool b)) (decide_eq_true g3)) (.nil _))), fun _ h => h, (by rw [g3]; decide)⟩
          · skip
            refine tri_seq ?_; refine tri_slots [(3, _)] (.cons rfl (.nil _)) ?_; refine tri_region ?_; refine o_eqlT rfl rfl rfl ?_; refine o_assignN rfl rfl ?_; refine tri_if rfl (fun g4 => ?_) (fun g4 => ?_)
            · skip
              refine tri_skip ?_; refine thenQ_normal ?_
              exact ⟨true, (.cons rfl (.cons (congrArg (fun b => some (Value.bool b)) (decide_eq_true g4)) (.nil _))), fun _ h => h, (by rw [g4]; decide)⟩
            · skip
              refine tri_seq (tri_region ?_); refine o_eqlT rfl rfl rfl ?_; refine o_assignN rfl rfl ?_; refine tri_if rfl (fun g5 => ?_) (fun g5 => ?_)
              · skip
                refine tri_skip ?_; refine thenQ_normal ?_
                exact ⟨true, (.cons rfl (.cons (congrArg (fun b => some (Value.bool b)) (decide_eq_true g5)) (.nil _))), fun _ h => h, (by rw [g5]; decide)⟩
              · skip
                refine tri_seq (tri_region ?_); refine o_eqlT rfl rfl rfl ?_; refine o_assignN rfl rfl ?_; refine tri_if rfl (fun g6 => ?_) (fun g6 => ?_)
                · skip
                  refine tri_skip ?_; refine thenQ_normal ?_
                  exact ⟨true, (.cons rfl (.cons (congrArg (fun b => some (Value.bool b)) (decide_eq_true g6)) (.nil _))), fun _ h => h, (by rw [g6]; decide)⟩
                · skip
                  refine tri_seq ?_; refine tri_slots [(3, _)] (.cons rfl (.nil _)) ?_; refine tri_region ?_; refine o_eqlT rfl rfl rfl ?_; refine o_assignN rfl rfl ?_; refine tri_if rfl (fun g7 => ?_) (fun g7 => ?_)
                  · skip
                    refine tri_skip ?_; refine thenQ_normal ?_
                    exact ⟨true, (.cons rfl (.cons (congrArg (fun b => some (Value.bool b)) (decide_eq_true g7)) (.nil _))), fun _ h => h, (by rw [g7]; decide)⟩
                  · skip
                    refine tri_seq (tri_region ?_); refine o_eqlT rfl rfl rfl ?_; refine o_assignN rfl rfl ?_; refine tri_if rfl (fun g8 => ?_) (fun g8 => ?_)
                    · skip
                      refine tri_skip ?_; refine thenQ_normal ?_
                      exact ⟨true, (.cons rfl (.cons (congrArg (fun b => some (Value.bool b)) (decide_eq_true g8)) (.nil _))), fun _ h => h, (by rw [g8]; decide)⟩
                    · skip
                      refine tri_seq (tri_region ?_); refine o_eqlT rfl rfl rfl ?_; refine o_assignN rfl rfl ?_; refine tri_if rfl (fun g9 => ?_) (fun g9 => ?_)
                      · skip
                        refine tri_skip ?_; refine thenQ_normal ?_
                        exact ⟨true, (.cons rfl (.cons (congrArg (fun b => some (Value.bool b)) (decide_eq_true g9)) (.nil _))), fun _ h => h, (by rw [g9]; decide)⟩
                      · skip
                        refine tri_slots [(3, _)] (.cons rfl (.nil _)) ?_; refine tri_region ?_; refine o_eqlT rfl rfl rfl ?_; refine o_assignN rfl rfl ?_
                        exact ⟨decide (s = [100, 114, 111, 112]), (.cons rfl (.cons rfl (.nil _))), fun _ h => h, (by simp [wds0, *])⟩
  refine tri_cond rfl (fun k0 => ?_) (fun k0 => ?_)
  · skip
    have k0 := of_decide_eq_true (hj.symm.trans k0)
    refine tri_exit ?_; refine thenQ_exit ?_; refine thenQ_exit ?_; refine blockQ_here ?_; refine blockQ_normal ?_; refine blockQ_normal ?_; refine thenQ_normal ?_; refine tri_seq ?_; refine tri_seq (tri_region ?_); refine o_assignN rfl rfl ?_; refine tri_ret ?_; refine thenQ_ret ?_; refine blockQ_ret ?_; refine thenQ_ret ?_; refine end1 rfl rfl ?_
    exact fun w1 hw1 => ⟨congrArg (fun b => Ending.returned (.bool b)) (by refine (decide_eq_true ?_).symm; simp [wds, *]), hw1.chg⟩
  · skip
    have k0 := of_decide_eq_false (hj.symm.trans k0)
    clear hj
    refine tri_skip ?_; refine thenQ_normal ?_; refine tri_seq ?_; refine tri_join (ι := Bool) (fun j => [(3, .string (B s)), (16, .bool j)]) (fun j => []) (fun j => j = decide (s ∈ wds1)) ?_ (fun j hj => ?_)
    · skip
      refine tri_seq (tri_region ?_); refine o_eqlT rfl rfl rfl ?_; refine o_assignN rfl rfl ?_; refine tri_if rfl (fun g11 => ?_) (fun g11 => ?_)
      · skip
        refine tri_skip ?_; refine thenQ_normal ?_
        exact ⟨true, (.cons rfl (.cons (congrArg (fun b => some (Value.bool b)) (decide_eq_true g11)) (.nil _))), fun _ h => h, (by rw [g11]; decide)⟩
      · skip
        refine tri_seq (tri_region ?_); refine o_eqlT rfl rfl rfl ?_; refine o_assignN rfl rfl ?_; refine tri_if rfl (fun g12 => ?_) (fun g12 => ?_)
        · skip
          refine tri_skip ?_; refine thenQ_normal ?_
          exact ⟨true, (.cons rfl (.cons (congrArg (fun b => some (Value.bool b)) (decide_eq_true g12)) (.nil _))), fun _ h => h, (by rw [g12]; decide)⟩
        · skip
          refine tri_seq ?_; refine tri_slots [(3, _)] (.cons rfl (.nil _)) ?_; refine tri_region ?_; refine o_eqlT rfl rfl rfl ?_; refine o_assignN rfl rfl ?_; refine tri_if rfl (fun g13 => ?_) (fun g13 => ?_)
          · skip
            refine tri_skip ?_; refine thenQ_normal ?_
            exact ⟨true, (.cons rfl (.cons (congrArg (fun b => some (Value.bool b)) (decide_eq_true g13)) (.nil _))), fun _ h => h, (by rw [g13]; decide)⟩
          · skip
            refine tri_seq (tri_region ?_); refine o_eqlT rfl rfl rfl ?_; refine o_assignN rfl rfl ?_; refine tri_if rfl (fun g14 => ?_) (fun g14 => ?_)
            · skip
              refine tri_skip ?_; refine thenQ_normal ?_
              exact ⟨true, (.cons rfl (.cons (congrArg (fun b => some (Value.bool b)) (decide_eq_true g14)) (.nil _))), fun _ h => h, (by rw [g14]; decide)⟩
            · skip
              refine tri_seq (tri_region ?_); refine o_eqlT rfl rfl rfl ?_; refine o_assignN rfl rfl ?_; refine tri_if rfl (fun g15 => ?_) (fun g15 => ?_)
              · skip
                refine tri_skip ?_; refine thenQ_normal ?_
                exact ⟨true, (.cons rfl (.cons (congrArg (fun b => some (Value.bool b)) (decide_eq_true g15)) (.nil _))), fun _ h => h, (by rw [g15]; decide)⟩
              · skip
                refine tri_seq ?_; refine tri_slots [(3, _)] (.cons rfl (.nil _)) ?_; refine tri_region ?_; refine o_eqlT rfl rfl rfl ?_; refine o_assignN rfl rfl ?_; refine tri_if rfl (fun g16 => ?_) (fun g16 => ?_)
                · skip
                  refine tri_skip ?_; refine thenQ_normal ?_
                  exact ⟨true, (.cons rfl (.cons (congrArg (fun b => some (Value.bool b)) (decide_eq_true g16)) (.nil _))), fun _ h => h, (by rw [g16]; decide)⟩
                · skip
                  refine tri_seq (tri_region ?_); refine o_eqlT rfl rfl rfl ?_; refine o_assignN rfl rfl ?_; refine tri_if rfl (fun g17 => ?_) (fun g17 => ?_)
                  · skip
                    refine tri_skip ?_; refine thenQ_normal ?_
                    exact ⟨true, (.cons rfl (.cons (congrArg (fun b => some (Value.bool b)) (decide_eq_true g17)) (.nil _))), fun _ h => h, (by rw [g17]; decide)⟩
                  · skip
                    refine tri_seq (tri_region ?_); refine o_eqlT rfl rfl rfl ?_; refine o_assignN rfl rfl ?_; refine tri_if rfl (fun g18 => ?_) (fun g18 => ?_)
                    · skip
                      refine tri_skip ?_; refine thenQ_normal ?_
                      exact ⟨true, (.cons rfl (.cons (congrArg (fun b => some (Value.bool b)) (decide_eq_true g18)) (.nil _))), fun _ h => h, (by rw [g18]; decide)⟩
                    · skip
                      refine tri_seq ?_; refine tri_slots [(3, _)] (.cons rfl (.nil _)) ?_; refine tri_region ?_; refine o_eqlT rfl rfl rfl ?_; refine o_assignN rfl rfl ?_; refine tri_if rfl (fun g19 => ?_) (fun g19 => ?_)
                      · skip
                        refine tri_skip ?_; refine thenQ_normal ?_
                        exact ⟨true, (.cons rfl (.cons (congrArg (fun b => some (Value.bool b)) (decide_eq_true g19)) (.nil _))), fun _ h => h, (by rw [g19]; decide)⟩
                      · skip
                        refine tri_seq (tri_region ?_); refine o_eqlT rfl rfl rfl ?_; refine o_assignN rfl rfl ?_; refine tri_if rfl (fun g20 => ?_) (fun g20 => ?_)
                        · skip
                          refine tri_skip ?_; refine thenQ_normal ?_
                          exact ⟨true, (.cons rfl (.cons (congrArg (fun b => some (Value.bool b)) (decide_eq_true g20)) (.nil _))), fun _ h => h, (by rw [g20]; decide)⟩
                        · skip
                          refine tri_region ?_; refine o_eqlT rfl rfl rfl ?_; refine o_assignN rfl rfl ?_
                          exact ⟨decide (s = [110, 117, 108, 108]), (.cons rfl (.cons rfl (.nil _))), fun _ h => h, (by simp [wds1, *])⟩
    refine tri_cond rfl (fun k1 => ?_) (fun k1 => ?_)
    · skip
      have k1 := of_decide_eq_true (hj.symm.trans k1)
      refine tri_exit ?_; refine thenQ_exit ?_; refine thenQ_exit ?_; refine blockQ_other rfl ?_; refine blockQ_here ?_; refine blockQ_normal ?_; refine thenQ_normal ?_; refine tri_seq ?_; refine tri_seq (tri_region ?_); refine o_assignN rfl rfl ?_; refine tri_ret ?_; refine thenQ_ret ?_; refine blockQ_ret ?_; refine thenQ_ret ?_; refine end1 rfl rfl ?_
      exact fun w1 hw1 => ⟨congrArg (fun b => Ending.returned (.bool b)) (by refine (decide_eq_true ?_).symm; simp [wds, *]), hw1.chg⟩
    · skip
      have k1 := of_decide_eq_false (hj.symm.trans k1)
      clear hj
      refine tri_skip ?_; refine thenQ_normal ?_; refine tri_join (ι := Bool) (fun j => [(3, .string (B s)), (28, .bool j)]) (fun j => []) (fun j => j = decide (s ∈ wds2)) ?_ (fun j hj => ?_)
      · skip
        refine tri_seq (tri_region ?_); refine o_eqlT rfl rfl rfl ?_; refine o_assignN rfl rfl ?_; refine tri_if rfl (fun g22 => ?_) (fun g22 => ?_)
        · skip
          refine tri_skip ?_; refine thenQ_normal ?_
          exact ⟨true, (.cons rfl (.cons (congrArg (fun b => some (Value.bool b)) (decide_eq_true g22)) (.nil _))), fun _ h => h, (by rw [g22]; decide)⟩
        · skip
          refine tri_seq (tri_region ?_); refine o_eqlT rfl rfl rfl ?_; refine o_assignN rfl rfl ?_; refine tri_if rfl (fun g23 => ?_) (fun g23 => ?_)
          · skip
            refine tri_skip ?_; refine thenQ_normal ?_
            exact ⟨true, (.cons rfl (.cons (congrArg (fun b => some (Value.bool b)) (decide_eq_true g23)) (.nil _))), fun _ h => h, (by rw [g23]; decide)⟩
          · skip
            refine tri_seq ?_; refine tri_slots [(3, _)] (.cons rfl (.nil _)) ?_; refine tri_region ?_; refine o_eqlT rfl rfl rfl ?_; refine o_assignN rfl rfl ?_; refine tri_if rfl (fun g24 => ?_) (fun g24 => ?_)
            · skip
              refine tri_skip ?_; refine thenQ_normal ?_
              exact ⟨true, (.cons rfl (.cons (congrArg (fun b => some (Value.bool b)) (decide_eq_true g24)) (.nil _))), fun _ h => h, (by rw [g24]; decide)⟩
            · skip
              refine tri_seq (tri_region ?_); refine o_eqlT rfl rfl rfl ?_; refine o_assignN rfl rfl ?_; refine tri_if rfl (fun g25 => ?_) (fun g25 => ?_)
              · skip
                refine tri_skip ?_; refine thenQ_normal ?_
                exact ⟨true, (.cons rfl (.cons (congrArg (fun b => some (Value.bool b)) (decide_eq_true g25)) (.nil _))), fun _ h => h, (by rw [g25]; decide)⟩
              · skip
                refine tri_seq (tri_region ?_); refine o_eqlT rfl rfl rfl ?_; refine o_assignN rfl rfl ?_; refine tri_if rfl (fun g26 => ?_) (fun g26 => ?_)
                · skip
                  refine tri_skip ?_; refine thenQ_normal ?_
                  exact ⟨true, (.cons rfl (.cons (congrArg (fun b => some (Value.bool b)) (decide_eq_true g26)) (.nil _))), fun _ h => h, (by rw [g26]; decide)⟩
                · skip
                  refine tri_seq ?_; refine tri_slots [(3, _)] (.cons rfl (.nil _)) ?_; refine tri_region ?_; refine o_eqlT rfl rfl rfl ?_; refine o_assignN rfl rfl ?_; refine tri_if rfl (fun g27 => ?_) (fun g27 => ?_)
                  · skip
                    refine tri_skip ?_; refine thenQ_normal ?_
                    exact ⟨true, (.cons rfl (.cons (congrArg (fun b => some (Value.bool b)) (decide_eq_true g27)) (.nil _))), fun _ h => h, (by rw [g27]; decide)⟩
                  · skip
                    refine tri_seq (tri_region ?_); refine o_eqlT rfl rfl rfl ?_; refine o_assignN rfl rfl ?_; refine tri_if rfl (fun g28 => ?_) (fun g28 => ?_)
                    · skip
                      refine tri_skip ?_; refine thenQ_normal ?_
                      exact ⟨true, (.cons rfl (.cons (congrArg (fun b => some (Value.bool b)) (decide_eq_true g28)) (.nil _))), fun _ h => h, (by rw [g28]; decide)⟩
                    · skip
                      refine tri_seq (tri_region ?_); refine o_eqlT rfl rfl rfl ?_; refine o_assignN rfl rfl ?_; refine tri_if rfl (fun g29 => ?_) (fun g29 => ?_)
                      · skip
                        refine tri_skip ?_; refine thenQ_normal ?_
                        exact ⟨true, (.cons rfl (.cons (congrArg (fun b => some (Value.bool b)) (decide_eq_true g29)) (.nil _))), fun _ h => h, (by rw [g29]; decide)⟩
                      · skip
                        refine tri_seq ?_; refine tri_slots [(3, _)] (.cons rfl (.nil _)) ?_; refine tri_region ?_; refine o_eqlT rfl rfl rfl ?_; refine o_assignN rfl rfl ?_; refine tri_if rfl (fun g30 => ?_) (fun g30 => ?_)
                        · skip
                          refine tri_skip ?_; refine thenQ_normal ?_
                          exact ⟨true, (.cons rfl (.cons (congrArg (fun b => some (Value.bool b)) (decide_eq_true g30)) (.nil _))), fun _ h => h, (by rw [g30]; decide)⟩
                        · skip
                          refine tri_seq (tri_region ?_); refine o_eqlT rfl rfl rfl ?_; refine o_assignN rfl rfl ?_; refine tri_if rfl (fun g31 => ?_) (fun g31 => ?_)
                          · skip
                            refine tri_skip ?_; refine thenQ_normal ?_
                            exact ⟨true, (.cons rfl (.cons (congrArg (fun b => some (Value.bool b)) (decide_eq_true g31)) (.nil _))), fun _ h => h, (by rw [g31]; decide)⟩
                          · skip
                            refine tri_seq (tri_region ?_); refine o_eqlT rfl rfl rfl ?_; refine o_assignN rfl rfl ?_; refine tri_if rfl (fun g32 => ?_) (fun g32 => ?_)
                            · skip
                              refine tri_skip ?_; refine thenQ_normal ?_
                              exact ⟨true, (.cons rfl (.cons (congrArg (fun b => some (Value.bool b)) (decide_eq_true g32)) (.nil _))), fun _ h => h, (by rw [g32]; decide)⟩
                            · skip
                              refine tri_seq ?_; refine tri_slots [(3, _)] (.cons rfl (.nil _)) ?_; refine tri_region ?_; refine o_eqlT rfl rfl rfl ?_; refine o_assignN rfl rfl ?_; refine tri_if rfl (fun g33 => ?_) (fun g33 => ?_)
                              · skip
                                refine tri_skip ?_; refine thenQ_normal ?_
                                exact ⟨true, (.cons rfl (.cons (congrArg (fun b => some (Value.bool b)) (decide_eq_true g33)) (.nil _))), fun _ h => h, (by rw [g33]; decide)⟩
                              · skip
                                refine tri_region ?_; refine o_eqlT rfl rfl rfl ?_; refine o_assignN rfl rfl ?_
                                exact ⟨decide (s = [119, 104, 101, 114, 101]), (.cons rfl (.cons rfl (.nil _))), fun _ h => h, (by simp [wds2, *])⟩
      refine tri_cond rfl (fun k2 => ?_) (fun k2 => ?_)
      · skip
        have k2 := of_decide_eq_true (hj.symm.trans k2)
        refine tri_exit ?_; refine thenQ_exit ?_; refine blockQ_other rfl ?_; refine blockQ_other rfl ?_; refine blockQ_here ?_; refine thenQ_normal ?_; refine tri_seq ?_; refine tri_seq (tri_region ?_); refine o_assignN rfl rfl ?_; refine tri_ret ?_; refine thenQ_ret ?_; refine blockQ_ret ?_; refine thenQ_ret ?_; refine end1 rfl rfl ?_
        exact fun w1 hw1 => ⟨congrArg (fun b => Ending.returned (.bool b)) (by refine (decide_eq_true ?_).symm; simp [wds, *]), hw1.chg⟩
      · skip
        have k2 := of_decide_eq_false (hj.symm.trans k2)
        clear hj
        refine tri_skip ?_; refine thenQ_normal ?_; refine tri_exit ?_; refine blockQ_other rfl ?_; refine blockQ_other rfl ?_; refine blockQ_other rfl ?_; refine thenQ_exit ?_; refine blockQ_here ?_; refine thenQ_normal ?_; refine tri_seq (tri_region ?_); refine o_assignN rfl rfl ?_; refine tri_ret ?_; refine end1 rfl rfl ?_
        exact fun w1 hw1 => ⟨congrArg (fun b => Ending.returned (.bool b)) (by refine (decide_eq_false ?_).symm; simp [wds, *]), hw1.chg⟩
end Go.Proofs.YtjbpkcbefmpfgaaGreatDoor
namespace Go.Proofs.YtjbpkcbefmpfgaaGreatDoor
open Go.WK Go.RowKit 
theorem zs62 : (Tryz.prog.info? 62).map (fun i => (i.zero, i.size)) = some (some (.agg #[.int .i64 0, .string .empty, .int .i64 0]), 3) := by kernel_rfl
theorem built55_0 (x0 : Int) : Tryz.prog.built 55 [(0, .int .i64 x0)] = some ([.int .i64 x0, .int .i64 0] : List Value).toArray := by kernel_rfl
theorem zero3 : (Tryz.prog.info? 3).map (·.zero) = some (some (.int .i64 0)) := by kernel_rfl
theorem sz3 : szB Tryz.prog 3 = some 1 := by kernel_rfl
theorem bval62_0_2 (x : Int) (z : Int) : Tryz.prog.built 62 [(0, .int .i64 x), (2, .int .i64 z)] = some (Tok.cs ⟨x, [], z⟩).toArray := by kernel_rfl
theorem zsb62 : (Tryz.prog.info? 62).map (fun i => (i.zero, i.size, i.bytes)) = some (some (.agg #[.int .i64 0, .string .empty, .int .i64 0]), 3, 32) := by kernel_rfl
theorem bval62_2 (z : Int) : Tryz.prog.built 62 [(2, .int .i64 z)] = some (Tok.cs ⟨0, [], z⟩).toArray := by kernel_rfl
theorem zero62 : (Tryz.prog.info? 62).map (·.zero) = some (some (.agg #[.int .i64 0, .string .empty, .int .i64 0])) := by kernel_rfl
theorem sz62 : szB Tryz.prog 62 = some 3 := by kernel_rfl
theorem fo62_0 : fieldB Tryz.prog 62 0 = some 0 := by kernel_rfl
theorem fo62_1 : fieldB Tryz.prog 62 1 = some 1 := by kernel_rfl
theorem sz9 : szB Tryz.prog 9 = some 1 := by kernel_rfl
theorem built55_0_1 (x0 : Int) (x1 : Int) : Tryz.prog.built 55 [(0, .int .i64 x0), (1, .int .i64 x1)] = some ([.int .i64 x0, .int .i64 x1] : List Value).toArray := by kernel_rfl
theorem agg62 : aggB Tryz.prog 62 = some true := by kernel_rfl
theorem lexK (s : List UInt8) (w : World) (hs : s.length ≤ 140737488355328) (hE : LE w) : Calls Tryz.prog 43 #[.string (B s)] w (NewRowF (fun v => .tuple #[v, errR 55 (lexL s)]) w 62 3 (tks (lexL s)).length (toksV (tks (lexL s)))) := by
  refine calls_tri (args := [.string (B s)]) (lent := []) (H := []) Tryz.func43 rfl Tryz.ntmps43 rfl (Sat.start _ _ _ _) ?_; refine (show Tri _ [(0, _)] _ _ _ from ?_); refine tri_seq (tri_region ?_); refine o_box _ rfl rfl rfl (fun b1 => ?_); refine o_assign rfl rfl ?_; refine o_assignN rfl rfl ?_; refine tri_seq ?_; refine tri_seq (tri_region ?_); refine o_load agg9 (by repeat (first | exact Nth.z | apply Nth.s)) rfl rfl rfl ?_; refine o_lenB Tryz.underlying9 rfl rfl ?_; refine o_gtr rfl rfl rfl ?_; refine triL_nilN ?_; refine tri_if rfl (fun h0 => ?_) (fun h0 => ?_)
  · skip
    refine tri_seq ?_; refine tri_slots [] (.nil _) ?_; refine tri_region ?_; refine o_build (built55_0 _) rfl rfl ?_; refine o_iface Tryz.underlying55 rfl rfl rfl ?_; refine o_assign rfl rfl ?_; refine o_assignN rfl rfl ?_; refine tri_ret ?_; refine thenQ_ret ?_; refine end2 rfl rfl rfl ?_
    have e := lex_long (s := s) (by omega)
    rw [e]
    exact new_none (fun v => .tuple #[v, errR 55 (.error (3, 0))])
  · skip
    refine tri_skip ?_; refine thenQ_normal ?_; refine tri_seq ?_; refine tri_slots [(1, _)] (.cons rfl (.nil _)) ?_; refine tri_region ?_; refine o_alloc _ rfl zero3 rfl (fun b4 => ?_); refine o_store sz3 (by repeat (first | exact Nth.z | apply Nth.s)) rfl rfl rfl rfl rfl (Nat.le_of_ble_eq_true rfl) rfl ?_; refine triL_nilN ?_; refine tri_seq (tri_region ?_); refine o_makeFunc rfl rfl rfl ?_; refine o_assignN rfl rfl ?_; refine tri_seq (tri_region ?_); refine o_assignN rfl rfl ?_; refine tri_block ?_; refine tri_loop (ι := List Tok × Nat × Option Addr × Nat) (F := fun q => [(1, .pointer (some ⟨b1, 0, none⟩)), (4, .pointer (some ⟨b4, 0, none⟩)), (5, .func (.func 80) #[] #[.pointer (some ⟨b4, 0, none⟩), .pointer (some ⟨b1, 0, none⟩)]), (6, .slice q.2.2.1 q.1.length q.2.2.2)]) (HH := fun q => [row (.slice q.2.2.1 q.1.length q.2.2.2) 62 3 q.1.length (toksV q.1), box b4 3 [.int .i64 (q.2.1 : Int)], box b1 9 [.string (B s)]]) (Pu := fun q => lexInv s q.1 q.2.1) (μ := fun q => s.length - q.2.1) (([], 0, none, 0)) (.cons rfl (.cons rfl (.cons rfl (.cons rfl (.nil _))))) (fun _ h => h.nilRow _ _) (lexInv_zero (by omega)) (fun q hi => ?_)
    have hi1 := hi.1
    have hi2 := hi.2.1
    refine tri_block ?_; refine tri_seq (tri_region ?_); refine o_load agg9 (by repeat (first | exact Nth.z | apply Nth.s)) rfl rfl rfl ?_; refine o_load agg3 (by repeat (first | exact Nth.z | apply Nth.s)) rfl rfl rfl ?_; refine o_callP (v := .int .i64 ((q.2.1 + gap (s.drop q.2.1) : Nat) : Int)) (first := []) (cap := []) rfl rfl rfl Tryz.call81 (fun w1 h1 => skipK s q.2.1 w1 (by omega) hi.1) ?_
    have hg := gap_in hi.1
    obtain ⟨p, hp⟩ : ∃ p, q.2.1 + gap (s.drop q.2.1) = p := ⟨_, rfl⟩
    rw [hp] at hg ⊢
    refine o_store sz3 (by repeat (first | exact Nth.z | apply Nth.s)) rfl rfl rfl rfl rfl (Nat.le_of_ble_eq_true rfl) rfl ?_; refine triL_nilN ?_; refine tri_seq ?_; refine tri_seq (tri_region ?_); refine o_load agg3 (by repeat (first | exact Nth.z | apply Nth.s)) rfl rfl rfl ?_; refine o_load agg9 (by repeat (first | exact Nth.z | apply Nth.s)) rfl rfl rfl ?_; refine o_lenB Tryz.underlying9 rfl rfl ?_; refine o_eqlI rfl rfl rfl ?_; refine triL_nilN ?_; refine tri_if rfl (fun h1 => ?_) (fun h1 => ?_)
    · skip
      refine tri_seq ?_; refine tri_slots [(4, _), (6, _)] (.cons rfl (.cons rfl (.nil _))) ?_; refine tri_region ?_; refine o_move rfl rfl ?_; refine o_load agg3 (by repeat (first | exact Nth.z | apply Nth.s)) rfl rfl rfl ?_; refine o_build (bval62_0_2 _ _) rfl rfl ?_; refine o_lit1 (vs := toksV [⟨5, [], (p : Int)⟩]) Tryz.underlying58 zs62 rfl rfl rfl rfl rfl (by decide) (by decide) (fun b27 => ?_); refine o_append Tryz.underlying58 zsb62 rfl (by decide) (by repeat (first | exact Nth.z | apply Nth.s)) rfl rfl rfl (news := toksV [⟨5, [], (p : Int)⟩]) (RdS.row .z) rfl (toksV_one _) (by unfold maxLen; omega) (by omega) (fun A28 c28 => ?_); refine o_assign rfl rfl ?_; refine o_assignN rfl rfl ?_; refine tri_ret ?_; refine thenQ_ret ?_; refine blockQ_ret ?_; refine thenQ_ret ?_; refine blockQ_ret ?_; refine end2 rfl rfl rfl ?_
      have e := lexInv_end hi (by omega)
      have hpe : s.length = p := by omega
      rw [hpe] at e
      rw [e]
      simp only [tks, List.length_append, List.length_singleton, toksV_append]
      exact fin_row (fun v => .tuple #[v, errR 55 (.ok (q.1 ++ [⟨5, [], (p : Int)⟩]))]) (.s .z)
    · skip
      have hpl : p < s.length := by omega
      have hr0 : (s.drop p).getD 0 0 = s.getD p 0 := by rw [getD_dropx]; rfl
      have hsg : sgnL (s.drop p) = sgn ((s.getD p 0).toNat : Int) ((s.getD (p + 1) 0).toNat : Int) := by rw [sgnL, hr0, getD_dropx]
      have hne : (s.drop p) ≠ [] := fun e => by have := congrArg List.length e; rw [List.length_drop] at this; simp at this; omega
      refine tri_skip ?_; refine thenQ_normal ?_; refine tri_seq ?_; refine tri_slots [(1, _), (4, _), (5, _), (6, _)] (.cons rfl (.cons rfl (.cons rfl (.cons rfl (.nil _))))) ?_; refine tri_region ?_; refine o_load agg3 (by repeat (first | exact Nth.z | apply Nth.s)) rfl rfl rfl ?_; refine o_build (bval62_2 _) rfl rfl ?_; refine o_alloc (Tok.cs Tok.zero) rfl zero62 rfl (fun b7 => ?_); refine o_storeBTk sz62 (by repeat (first | exact Nth.z | apply Nth.s)) rfl rfl rfl ?_; refine triL_nilN ?_; refine tri_seq (tri_region ?_); refine o_assign rfl rfl ?_; refine o_assignN rfl rfl ?_; refine tri_join (ι := One) (fun j => [(1, .pointer (some ⟨b1, 0, none⟩)), (4, .pointer (some ⟨b4, 0, none⟩)), (5, .func (.func 80) #[] #[.pointer (some ⟨b4, 0, none⟩), .pointer (some ⟨b1, 0, none⟩)]), (6, .slice q.2.2.1 q.1.length q.2.2.2), (7, .pointer (some ⟨b7, 0, none⟩)), (8, .int .i64 (j.n : Int)), (9, .int .i64 j.e)]) (fun j => [box b7 62 (Tok.cs ⟨j.k, j.t, (p : Int)⟩), row (.slice q.2.2.1 q.1.length q.2.2.2) 62 3 q.1.length (toksV q.1), box b4 3 [.int .i64 (p : Int)], box b1 9 [.string (B s)]]) (fun j => OneIs (s.drop p) j) ?_ (fun j hj => ?_)
      · skip
        refine tri_seq (tri_region ?_); refine o_move rfl rfl ?_; refine o_callP (v := byteV (s.getD (p + 0) 0)) (first := []) (cap := [.pointer (some ⟨b4, 0, none⟩), .pointer (some ⟨b1, 0, none⟩)]) rfl rfl rfl Tryz.call80 (fun w1 h1 => peekK s p 0 b4 b1 w1 (RdS.box (.s (.s .z)) w1 h1) (RdS.box (.s (.s (.s .z))) w1 h1) (by omega) (by omega) (by omega)) ?_; refine o_assignN rfl rfl ?_; refine tri_block ?_; refine tri_seq ?_; refine tri_slots [(10, _), (9, _), (7, _), (1, _), (4, _), (5, _), (6, _)] (.cons rfl (.cons rfl (.cons rfl (.cons rfl (.cons rfl (.cons rfl (.cons rfl (.nil _)))))))) ?_; refine tri_region ?_; refine o_move rfl rfl ?_; refine o_callP (v := .bool (isLet (s.getD p 0))) (first := []) (cap := []) rfl rfl rfl Tryz.call82 (fun w1 h1 => letterK _ w1) ?_; refine o_assignN rfl rfl ?_; refine tri_cond rfl (fun c1 => ?_) (fun c1 => ?_)
        · skip
          have c1 : isLet (s.getD p 0) = true := c1
          refine tri_seq ?_; refine tri_slots [(9, _), (7, _), (1, _), (4, _), (5, _), (6, _)] (.cons rfl (.cons rfl (.cons rfl (.cons rfl (.cons rfl (.cons rfl (.nil _))))))) ?_; refine tri_region ?_; refine o_field fo62_0 rfl rfl ?_; refine o_store sz3 (by repeat (first | exact Nth.z | apply Nth.s)) rfl rfl rfl rfl rfl (Nat.le_of_ble_eq_true rfl) rfl ?_; refine triL_nilN ?_; refine tri_seq (tri_region ?_); refine o_load agg9 (by repeat (first | exact Nth.z | apply Nth.s)) rfl rfl rfl ?_; refine o_load agg3 (by repeat (first | exact Nth.z | apply Nth.s)) rfl rfl rfl ?_; refine o_sliceBl Tryz.underlying9 rfl rfl rfl (by omega) (by omega) ?_; refine o_callP (v := .int .i64 ((runL isWd (s.drop p) : Nat) : Int)) (first := []) (cap := []) rfl rfl rfl Tryz.call83 (fun w1 h1 => runK (s.drop p) 84 (fun z => isLetZ z || isDigZ z) w1 (by rw [List.length_drop]; omega) Tryz.call84 (fun z w => wdK z w)) ?_
          have hrl := run_le isWd (s.drop p)
          rw [List.length_drop] at hrl
          refine o_assignN rfl rfl ?_; refine tri_slots [(8, _), (9, _), (7, _), (1, _), (4, _), (5, _), (6, _)] (.cons rfl (.cons rfl (.cons rfl (.cons rfl (.cons rfl (.cons rfl (.cons rfl (.nil _)))))))) ?_; refine tri_region ?_; refine o_load agg9 (by repeat (first | exact Nth.z | apply Nth.s)) rfl rfl rfl ?_; refine o_load agg3 (by repeat (first | exact Nth.z | apply Nth.s)) rfl rfl rfl ?_; refine o_load agg3 (by repeat (first | exact Nth.z | apply Nth.s)) rfl rfl rfl ?_; refine o_move rfl rfl ?_; refine o_addN rfl rfl rfl (by omega) ?_; refine o_sliceB Tryz.underlying9 rfl rfl rfl rfl (by omega) (by omega) (by omega) ?_; refine triL_num (v' := .string (B ((s.drop p).take (runL isWd (s.drop p))))) (congrArg (fun k : Nat => Value.string (B ((s.drop p).take k))) (by omega)) ?_; refine o_callP (first := []) (cap := []) rfl rfl rfl Tryz.call86 (fun w1 h1 => lib_lower ((s.drop p).take (runL isWd (s.drop p))) w1 (by rw [List.length_take, List.length_drop]; omega) (run_ascii (s.drop p))) ?_; refine o_field fo62_1 rfl rfl ?_; refine o_store sz9 (by repeat (first | exact Nth.z | apply Nth.s)) rfl rfl rfl rfl rfl (Nat.le_of_ble_eq_true rfl) rfl ?_; refine triL_nil ?_; refine blockQ_normal ?_; refine thenQ_normal ?_
          exact ⟨⟨1, small ((s.drop p).take (runL isWd (s.drop p))), runL isWd (s.drop p), 0⟩, (.cons rfl (.cons rfl (.cons rfl (.cons rfl (.cons rfl (.cons rfl (.cons rfl (.nil _)))))))), fun _ h => h, (oneIs_word (by rw [hr0]; exact c1))⟩
        · skip
          have c1 : isLet (s.getD p 0) = false := c1
          refine tri_seq (tri_region ?_); refine o_move rfl rfl ?_; refine o_callP (v := .bool (isDig (s.getD p 0))) (first := []) (cap := []) rfl rfl rfl Tryz.call85 (fun w1 h1 => digitK _ w1) ?_; refine o_assignN rfl rfl ?_; refine tri_cond rfl (fun c2 => ?_) (fun c2 => ?_)
          · skip
            have c2 : isDig (s.getD p 0) = true := c2
            refine tri_seq ?_; refine tri_slots [(7, _), (1, _), (4, _), (5, _), (6, _)] (.cons rfl (.cons rfl (.cons rfl (.cons rfl (.cons rfl (.nil _)))))) ?_; refine tri_region ?_; refine o_field fo62_0 rfl rfl ?_; refine o_store sz3 (by repeat (first | exact Nth.z | apply Nth.s)) rfl rfl rfl rfl rfl (Nat.le_of_ble_eq_true rfl) rfl ?_; refine triL_nilN ?_; refine tri_seq (tri_region ?_); refine o_load agg9 (by repeat (first | exact Nth.z | apply Nth.s)) rfl rfl rfl ?_; refine o_load agg3 (by repeat (first | exact Nth.z | apply Nth.s)) rfl rfl rfl ?_; refine o_sliceBl Tryz.underlying9 rfl rfl rfl (by omega) (by omega) ?_; refine o_callP (first := []) (cap := []) rfl rfl rfl Tryz.call87 (fun w1 h1 => numberK (s.drop p) w1 (by rw [List.length_drop]; omega) (by rw [hr0]; exact c2) (hE.chg h1.chg)) ?_
            have hrl := run_le isDig (s.drop p)
            rw [List.length_drop] at hrl
            refine o_move rfl rfl ?_; refine o_extract rfl rfl rfl ?_; refine o_extract rfl rfl rfl ?_; refine o_assign rfl rfl ?_; refine o_assignN rfl rfl ?_; refine tri_slots [(9, _), (8, _), (7, _), (1, _), (4, _), (5, _), (6, _)] (.cons rfl (.cons rfl (.cons rfl (.cons rfl (.cons rfl (.cons rfl (.cons rfl (.nil _)))))))) ?_; refine tri_region ?_; refine o_load agg9 (by repeat (first | exact Nth.z | apply Nth.s)) rfl rfl rfl ?_; refine o_load agg3 (by repeat (first | exact Nth.z | apply Nth.s)) rfl rfl rfl ?_; refine o_load agg3 (by repeat (first | exact Nth.z | apply Nth.s)) rfl rfl rfl ?_; refine o_move rfl rfl ?_; refine o_addN rfl rfl rfl (by omega) ?_; refine o_sliceB Tryz.underlying9 rfl rfl rfl rfl (by omega) (by omega) (by omega) ?_; refine triL_num (v' := .string (B ((s.drop p).take (runL isDig (s.drop p))))) (congrArg (fun k : Nat => Value.string (B ((s.drop p).take k))) (by omega)) ?_; refine o_field fo62_1 rfl rfl ?_; refine o_store sz9 (by repeat (first | exact Nth.z | apply Nth.s)) rfl rfl rfl rfl rfl (Nat.le_of_ble_eq_true rfl) rfl ?_; refine triL_nil ?_; refine blockQ_normal ?_; refine thenQ_normal ?_
            exact ⟨⟨2, (s.drop p).take (runL isDig (s.drop p)), runL isDig (s.drop p), if numBad (s.drop p) (runL isDig (s.drop p)) then 180 else 0⟩, (.cons rfl (.cons rfl (.cons rfl (.cons rfl (.cons rfl (.cons rfl (.cons rfl (.nil _)))))))), fun _ h => h, (oneIs_num (by rw [hr0]; exact c1) (by rw [hr0]; exact c2))⟩
          · skip
            have c2 : isDig (s.getD p 0) = false := c2
            refine tri_seq ?_; refine tri_slots [(10, _), (9, _), (7, _), (1, _), (4, _), (5, _), (6, _)] (.cons rfl (.cons rfl (.cons rfl (.cons rfl (.cons rfl (.cons rfl (.cons rfl (.nil _)))))))) ?_; refine tri_region ?_; refine o_move rfl rfl ?_; refine o_eqlU8 _ 39 rfl rfl rfl ?_; refine o_assignN rfl rfl ?_; refine tri_if rfl (fun c3 => ?_) (fun c3 => ?_)
            · skip
              have c3 : s.getD p 0 = 39 := c3
              refine tri_seq ?_; refine tri_slots [(7, _), (1, _), (4, _), (5, _), (6, _)] (.cons rfl (.cons rfl (.cons rfl (.cons rfl (.cons rfl (.nil _)))))) ?_; refine tri_region ?_; refine o_field fo62_0 rfl rfl ?_; refine o_store sz3 (by repeat (first | exact Nth.z | apply Nth.s)) rfl rfl rfl rfl rfl (Nat.le_of_ble_eq_true rfl) rfl ?_; refine triL_nilN ?_; refine tri_region ?_; refine o_load agg9 (by repeat (first | exact Nth.z | apply Nth.s)) rfl rfl rfl ?_; refine o_load agg3 (by repeat (first | exact Nth.z | apply Nth.s)) rfl rfl rfl ?_; refine o_sliceBl Tryz.underlying9 rfl rfl rfl (by omega) (by omega) ?_; refine o_callP (first := []) (cap := []) rfl rfl rfl Tryz.call88 (fun w1 h1 => quotedK (s.drop p) w1 (by rw [List.length_drop]; omega) (by rw [List.length_drop]; omega)) ?_; refine o_move rfl rfl ?_; refine o_extract rfl rfl rfl ?_; refine o_extract rfl rfl rfl ?_; refine o_extract rfl rfl rfl ?_; refine o_field fo62_1 rfl rfl ?_; refine o_store sz9 (by repeat (first | exact Nth.z | apply Nth.s)) rfl rfl rfl rfl rfl (Nat.le_of_ble_eq_true rfl) rfl ?_; refine o_assign rfl rfl ?_; refine o_assign rfl rfl ?_; refine triL_nil ?_; refine blockQ_normal ?_; refine thenQ_normal ?_
              exact ⟨⟨3, (quoR (s.drop p)).1, (quoR (s.drop p)).2.1, (quoR (s.drop p)).2.2⟩, (.cons rfl (.cons rfl (.cons rfl (.cons rfl (.cons rfl (.cons rfl (.cons rfl (.nil _)))))))), fun _ h => h, (oneIs_text (by rw [hr0]; exact c3))⟩
            · skip
              have c3 : ¬ s.getD p 0 = 39 := c3
              refine tri_seq (tri_region ?_); refine o_field fo62_0 rfl rfl ?_; refine o_store sz3 (by repeat (first | exact Nth.z | apply Nth.s)) rfl rfl rfl rfl rfl (Nat.le_of_ble_eq_true rfl) rfl ?_; refine triL_nilN ?_; refine tri_seq ?_; refine tri_slots [(10, _), (9, _), (7, _), (1, _), (4, _), (5, _), (6, _)] (.cons rfl (.cons rfl (.cons rfl (.cons rfl (.cons rfl (.cons rfl (.cons rfl (.nil _)))))))) ?_; refine tri_region ?_; refine o_move rfl rfl ?_; refine o_move rfl rfl ?_; refine o_callP (v := byteV (s.getD (p + 1) 0)) (first := []) (cap := [.pointer (some ⟨b4, 0, none⟩), .pointer (some ⟨b1, 0, none⟩)]) rfl rfl rfl Tryz.call80 (fun w1 h1 => peekK s p 1 b4 b1 w1 (RdS.box (.s (.s .z)) w1 h1) (RdS.box (.s (.s (.s .z))) w1 h1) (by omega) (by omega) (by omega)) ?_; refine o_callP (v := .int .i64 ((sgnL (s.drop p) : Nat) : Int)) (first := []) (cap := []) rfl rfl rfl Tryz.call89 (fun w1 h1 => by have h := signK ((s.getD p 0).toNat : Int) ((s.getD (p + 1) 0).toNat : Int) w1; rw [← hsg] at h; exact h) ?_
              have hrl := sgnL_le hne
              rw [List.length_drop] at hrl
              refine o_assignN rfl rfl ?_; refine tri_seq ?_; refine tri_slots [(8, _), (9, _), (7, _), (1, _), (4, _), (5, _), (6, _)] (.cons rfl (.cons rfl (.cons rfl (.cons rfl (.cons rfl (.cons rfl (.cons rfl (.nil _)))))))) ?_; refine tri_region ?_; refine o_load agg9 (by repeat (first | exact Nth.z | apply Nth.s)) rfl rfl rfl ?_; refine o_load agg3 (by repeat (first | exact Nth.z | apply Nth.s)) rfl rfl rfl ?_; refine o_load agg3 (by repeat (first | exact Nth.z | apply Nth.s)) rfl rfl rfl ?_; refine o_move rfl rfl ?_; refine o_addN rfl rfl rfl (by omega) ?_; refine o_sliceB Tryz.underlying9 rfl rfl rfl rfl (by omega) (by omega) (by omega) ?_; refine triL_num (v' := .string (B ((s.drop p).take (sgnL (s.drop p))))) (congrArg (fun k : Nat => Value.string (B ((s.drop p).take k))) (by omega)) ?_; refine o_field fo62_1 rfl rfl ?_; refine o_store sz9 (by repeat (first | exact Nth.z | apply Nth.s)) rfl rfl rfl rfl rfl (Nat.le_of_ble_eq_true rfl) rfl ?_; refine triL_nilN ?_; refine tri_seq ?_; refine tri_slots [(8, _), (9, _), (7, _), (1, _), (4, _), (5, _), (6, _)] (.cons rfl (.cons rfl (.cons rfl (.cons rfl (.cons rfl (.cons rfl (.cons rfl (.nil _)))))))) ?_; refine tri_region ?_; refine o_move rfl rfl ?_; refine o_eqlI rfl rfl rfl ?_; refine triL_nilN ?_; refine tri_if rfl (fun c4 => ?_) (fun c4 => ?_)
              · skip
                refine tri_region ?_; refine o_assign rfl rfl ?_; refine triL_nil ?_; refine blockQ_normal ?_; refine thenQ_normal ?_
                exact ⟨⟨4, (s.drop p).take (sgnL (s.drop p)), sgnL (s.drop p), 180⟩, (.cons rfl (.cons rfl (.cons rfl (.cons rfl (.cons rfl (.cons rfl (.cons rfl (.nil _)))))))), fun _ h => h, (oneIs_sign hne (by rw [hr0]; exact c1) (by rw [hr0]; exact c2) (by rw [hr0]; exact c3) _ (if_pos (by omega)).symm)⟩
              · skip
                refine tri_skip ?_; refine blockQ_normal ?_; refine thenQ_normal ?_
                exact ⟨⟨4, (s.drop p).take (sgnL (s.drop p)), sgnL (s.drop p), 0⟩, (.cons rfl (.cons rfl (.cons rfl (.cons rfl (.cons rfl (.cons rfl (.cons rfl (.nil _)))))))), fun _ h => h, (oneIs_sign hne (by rw [hr0]; exact c1) (by rw [hr0]; exact c2) (by rw [hr0]; exact c3) _ (if_neg (by omega)).symm)⟩
      have hjn := hj.2.2
      rw [List.length_drop] at hjn
      refine tri_seq ?_; refine tri_seq (tri_region ?_); refine o_move rfl rfl ?_; refine o_neqI rfl rfl rfl ?_; refine triL_nilN ?_; refine tri_if rfl (fun h6 => ?_) (fun h6 => ?_)
      · skip
        have hbad := lexInv_bad hi hp hpl (by rw [← hj.1]; exact h6)
        rw [← hj.1] at hbad
        refine tri_seq ?_; refine tri_slots [(4, _), (9, _)] (.cons rfl (.cons rfl (.nil _))) ?_; refine tri_quiet (by kernel_rfl) (by kernel_rfl) ?_; refine o_move rfl rfl ?_; refine o_load agg3 (by repeat (first | exact Nth.z | apply Nth.s)) rfl rfl rfl ?_; refine o_build (built55_0_1 _ _) rfl rfl ?_; refine o_iface Tryz.underlying55 rfl rfl rfl ?_; refine o_assign rfl rfl ?_; refine o_assignN rfl rfl ?_; refine tri_ret ?_; refine thenQ_ret ?_; refine blockQ_ret ?_; refine thenQ_ret ?_; refine blockQ_ret ?_; refine end2 rfl rfl rfl ?_
        rw [hbad]
        exact new_none (fun v => .tuple #[v, errR 55 (.error (j.e, (p : Int)))])
      · skip
        have h6 : j.e = 0 := Decidable.not_not.1 h6
        have hje := hj.2.1 h6
        have hst := lexInv_step hi hp hpl (hj.1.symm.trans h6)
        rw [← hje] at hst
        refine tri_skip ?_; refine thenQ_normal ?_; refine tri_seq (tri_region ?_); refine o_load agg3 (by repeat (first | exact Nth.z | apply Nth.s)) rfl rfl rfl ?_; refine o_move rfl rfl ?_; refine o_addN rfl rfl rfl (by omega) ?_; refine o_store sz3 (by repeat (first | exact Nth.z | apply Nth.s)) rfl rfl rfl rfl rfl (Nat.le_of_ble_eq_true rfl) rfl ?_; refine triL_nilN ?_; refine tri_slots [(1, _), (4, _), (5, _), (6, _), (7, _)] (.cons rfl (.cons rfl (.cons rfl (.cons rfl (.cons rfl (.nil _)))))) ?_; refine tri_region ?_; refine o_move rfl rfl ?_; refine o_loadBTk agg62 sz62 (by repeat (first | exact Nth.z | apply Nth.s)) rfl rfl ?_; refine o_lit1 (vs := toksV [⟨j.k, j.t, (p : Int)⟩]) Tryz.underlying58 zs62 rfl rfl rfl rfl rfl (by decide) (by decide) (fun b105 => ?_); refine o_append Tryz.underlying58 zsb62 rfl (by decide) (by repeat (first | exact Nth.z | apply Nth.s)) rfl rfl rfl (news := toksV [⟨j.k, j.t, (p : Int)⟩]) (RdS.row .z) rfl (toksV_one _) (by unfold maxLen; omega) (by omega) (fun A106 c106 => ?_); refine o_assign rfl rfl ?_; refine triL_nil ?_; refine blockQ_normal ?_; refine thenQ_normal ?_
        exact ⟨(q.1 ++ [⟨j.k, j.t, (p : Int)⟩], p + j.n, A106, c106), (.cons rfl (.cons rfl (.cons rfl (.cons (congrArg (fun k : Nat => some (Value.slice A106 k c106)) (by simp)) (.nil _))))), (fun w1 hw1 => by simp only [List.length_append, toksV_append]; exact hw1.tail.tail), hst.2.2, (by have := hst.1; simp only; omega)⟩
end Go.Proofs.YtjbpkcbefmpfgaaGreatDoor
namespace Go.Proofs.YtjbpkcbefmpfgaaGreatDoor
open Go.WK Go.RowKit 
theorem zs9 : (Tryz.prog.info? 9).map (fun i => (i.zero, i.size)) = some (some (.string .empty), 1) := by kernel_rfl
theorem wordsR  (w : World)  : Calls Tryz.prog 124 #[] w (NewRowF id w 9 1 35 (strsV wds)) := by
  refine calls_tri (args := []) (lent := []) (H := []) Tryz.func124 rfl Tryz.ntmps124 rfl (Sat.start _ _ _ _) ?_; refine (show Tri _ [] _ _ _ from ?_); refine tri_seq (tri_region ?_); refine o_assignN rfl rfl ?_; refine tri_seq (tri_region ?_); refine o_lit (parts := [_, _, _, _, _, _, _, _, _, _, _, _, _, _, _, _, _, _, _, _, _, _, _, _, _, _, _, _, _, _, _, _, _, _, _]) (strsV wds) Tryz.underlying23 zs9 rfl rfl rfl rfl (by decide) (by decide) (fun b1 => ?_); refine o_assignN rfl rfl ?_; refine tri_ret ?_; refine end1 rfl rfl ?_
  exact fin_row id .z
theorem wds_len : wds.length = 35 := rfl
theorem wordR (s : List UInt8) (w : World)  : Calls Tryz.prog 74 #[.string (B s)] w (Pure w (.bool (decide (s ∈ wds)))) := by
  refine calls_tri (args := [.string (B s)]) (lent := []) (H := []) Tryz.func74 rfl Tryz.ntmps74 rfl (Sat.start _ _ _ _) ?_; refine (show Tri _ [(0, _)] _ _ _ from ?_); refine tri_seq (tri_region ?_); refine o_assignN rfl rfl ?_; refine tri_seq (tri_region ?_); refine o_callF (first := []) (cap := []) id rfl rfl rfl Tryz.call124 (fun w1 h1 => wordsR w1) (fun A5 c5 => ?_); refine o_assignN rfl rfl ?_; refine tri_seq ?_; refine tri_seq (tri_region ?_); refine o_assignN rfl rfl ?_; refine tri_block ?_; refine tri_loop (ι := Nat) (F := fun i => [(0, .string (B s)), (3, .slice A5 35 c5), (4, .int .i64 (i : Int))]) (HH := fun i => [row (.slice A5 35 c5) 9 1 35 (strsV wds)]) (Pu := fun i => i ≤ 35 ∧ s ∉ wds.take i) (μ := fun i => 35 - i) (0) (.cons rfl (.cons rfl (.cons rfl (.nil _)))) (fun _ h => h) (⟨by omega, by simp⟩) (fun i hi => ?_); refine tri_seq ?_; refine tri_seq (tri_region ?_); refine o_move rfl rfl ?_; refine o_move rfl rfl ?_; refine o_lenS Tryz.underlying23 rfl rfl ?_; refine o_lss rfl rfl rfl ?_; refine triL_nilN ?_; refine tri_if rfl (fun h0 => ?_) (fun h0 => ?_)
  · skip
    have hi5 : i < wds.length := by rw [wds_len]; omega
    refine tri_skip ?_; refine thenQ_normal ?_; refine tri_seq ?_; refine tri_block ?_; refine tri_seq ?_; refine tri_slots [(0, _), (3, _), (4, _)] (.cons rfl (.cons rfl (.cons rfl (.nil _)))) ?_; refine tri_region ?_; refine o_move rfl rfl ?_; refine o_move rfl rfl ?_; refine o_idxS Tryz.underlying23 sz9 rfl rfl rfl (RdS.row .z) (by omega) (by omega) (by rw [strsV_length]; rfl) (by decide) ?_; refine o_loadR agg9 rfl rfl (RdS.row .z) (strsV_get wds i _ (by omega) hi5) ?_; refine o_move rfl rfl ?_; refine o_eqlT rfl rfl rfl ?_; refine triL_nilN ?_; refine tri_if rfl (fun h1 => ?_) (fun h1 => ?_)
    · skip
      have h1 : wds.getD i [] = s := h1
      refine tri_seq ?_; refine tri_slots [] (.nil _) ?_; refine tri_region ?_; refine o_assignN rfl rfl ?_; refine tri_ret ?_; refine blockQ_ret ?_; refine thenQ_ret ?_; refine thenQ_ret ?_; refine blockQ_ret ?_; refine thenQ_ret ?_; refine end1 rfl rfl ?_
      exact fun w1 hw1 => ⟨congrArg (fun b => Ending.returned (.bool b)) (by exact (decide_eq_true (h1 ▸ getD_memS wds i hi5)).symm), hw1.chg⟩
    · skip
      have h1 : ¬ wds.getD i [] = s := h1
      refine tri_skip ?_; refine blockQ_normal ?_; refine thenQ_normal ?_; refine tri_slots [(0, _), (3, _), (4, _)] (.cons rfl (.cons rfl (.cons rfl (.nil _)))) ?_; refine tri_region ?_; refine o_move rfl rfl ?_; refine o_addN rfl rfl rfl (by omega) ?_; refine o_assignN rfl rfl ?_
      exact ⟨i + 1, (.cons rfl (.cons rfl (.cons rfl (.nil _)))), fun _ h => h, ⟨by omega, by rw [take_snocS wds i hi5]; intro hm; rcases List.mem_append.1 hm with hm | hm; exact hi.2 hm; exact h1 (List.mem_singleton.1 hm).symm⟩, by omega⟩
  · skip
    refine tri_exit ?_; refine thenQ_exit ?_; refine thenQ_exit ?_; refine blockQ_here ?_; refine thenQ_normal ?_; refine tri_seq ?_; refine tri_slots [] (.nil _) ?_; refine tri_region ?_; refine o_assignN rfl rfl ?_; refine tri_ret ?_; refine end1 rfl rfl ?_
    exact fun w1 hw1 => ⟨congrArg (fun b => Ending.returned (.bool b)) (by refine (decide_eq_false ?_).symm; have h := hi.2; rwa [List.take_of_length_le (by rw [wds_len]; omega)] at h), hw1.chg⟩
end Go.Proofs.YtjbpkcbefmpfgaaGreatDoor
namespace Go.Proofs.YtjbpkcbefmpfgaaGreatDoor
open Go.RowKit Go.Extern.Stop Go.Stop Go.Extern Go.WK
theorem ty_errType : Tryz.prog.globalNamed "errors.errorType" = some 0 := by kernel_rfl
theorem valueOfP (t : Addr) (w : World) : (ReflectliteValue.unpack (.iface 104 (.pointer (some t)))).run Tryz.prog w = .ok (.agg #[.pointer (some ⟨10, 104, none⟩), .pointer (some ⟨w.heap.size, 0, none⟩), .int .u64 150]) (w.alloc (.cells #[.pointer (some t)] 104)) := by kernel_rfl
theorem typeP (a : Addr) (w : World) : (ReflectliteValue.methodAny (ReflectliteValue.valueError "reflectlite.Value.Type" 0) (fun t _ _ _ => ReflectliteType.toType t) #[.agg #[.pointer (some ⟨10, 104, none⟩), .pointer (some a), .int .u64 150]]).run Tryz.prog w = .ok (.iface 180 (.agg #[.pointer (some ⟨10, 104, none⟩)])) w := by kernel_rfl
theorem methodKind (h : Value) (w : World) : (Go.method 386 180 (.agg #[h]) "Kind").run Tryz.prog w = .ok (226, h) w := by kernel_rfl
theorem kindP (w : World) : ((ReflectliteType.abiMethod fun t => Functor.map (fun a : Nat => Value.int IntKind.u8 (a : Int)) (Rtype.kind t)) #[.pointer (some ⟨10, 104, none⟩)]).run Tryz.prog w = .ok (.int .u8 22) w := by kernel_rfl
theorem kindE (w : World) : ((ReflectliteType.abiMethod fun t => Functor.map (fun a : Nat => Value.int IntKind.u8 (a : Int)) (Rtype.kind t)) #[.pointer (some ⟨10, 55, none⟩)]).run Tryz.prog w = .ok (.int .u8 25) w := by kernel_rfl
theorem rlm (z : Sem Value) (f : TypeId → Addr → Nat → Nat → Sem Value) (v : Value) :
    ReflectliteValue.method z f #[v] = (do match ← ReflectliteValue.parts v with | none => z | some (t, a, fl) => f t a fl (fl % 32)) := rfl
theorem partsP (a : Addr) (w : World) : (ReflectliteValue.parts (.agg #[.pointer (some ⟨10, 104, none⟩), .pointer (some a), .int .u64 150])).run Tryz.prog w = .ok (some (104, a, 150)) w := by kernel_rfl
theorem isNilP (a p : Addr) (W : World) (ha : W.cell? a = some (.pointer (some p))) :
    (ReflectliteValue.method (ReflectliteValue.valueError "reflectlite.Value.IsNil" 0) ReflectliteValue.isNil #[.agg #[.pointer (some ⟨10, 104, none⟩), .pointer (some a), .int .u64 150]]).run Tryz.prog W = .ok (.bool false) W := by
  rw [rlm]
  simp only [Sem.run_bind, partsP, Result.andThen]
  simp [ReflectliteValue.isNil, loadVar, isAgg, underlying, Tryz.underlying104, ha, Result.andThen]
theorem methodElem (h : Value) (w : World) : (Go.method 386 180 (.agg #[h]) "Elem").run Tryz.prog w = .ok (239, .agg #[h]) w := by kernel_rfl
theorem methodImplements (h : Value) (w : World) : (Go.method 386 180 (.agg #[h]) "Implements").run Tryz.prog w = .ok (240, .agg #[h]) w := by kernel_rfl
theorem methodAssignableTo (h : Value) (w : World) : (Go.method 386 180 (.agg #[h]) "AssignableTo").run Tryz.prog w = .ok (237, .agg #[h]) w := by kernel_rfl
theorem methodComparable (h : Value) (w : World) : (Go.method 386 180 (.agg #[h]) "Comparable").run Tryz.prog w = .ok (238, .agg #[h]) w := by kernel_rfl
theorem methodUnwrap (v : Value) (w : World) : (Go.method 386 55 v "Unwrap").run Tryz.prog w = .ok (231, v) w := by kernel_rfl
theorem elemP (w : World) : (ReflectliteType.method ReflectliteType.elem #[.agg #[.pointer (some ⟨10, 104, none⟩)]]).run Tryz.prog w = .ok (.iface 180 (.agg #[.pointer (some ⟨10, 55, none⟩)])) w := by kernel_rfl
theorem implementsE (w : World) : (ReflectliteType.relation "Implements" ReflectliteType.implements_ #[.agg #[.pointer (some ⟨10, 55, none⟩)], .iface 180 (.agg #[.pointer (some ⟨10, 46, none⟩)])]).run Tryz.prog w = .ok (.bool true) w := by kernel_rfl
theorem typeOfE (v : Value) (w : World) : (ReflectliteType.typeOf #[.iface 55 v]).run Tryz.prog w = .ok (.iface 180 (.agg #[.pointer (some ⟨10, 55, none⟩)])) w := by kernel_rfl
theorem typeOfC (v : Value) (w : World) : (ReflectliteType.typeOf #[.iface 38 v]).run Tryz.prog w = .ok (.iface 180 (.agg #[.pointer (some ⟨10, 38, none⟩)])) w := by kernel_rfl
theorem comparableC (w : World) : (ReflectliteType.method (fun t => do Rtype.noPackHeld "Comparable" t; Functor.map (fun a : Go.TypeInfo => Value.bool a.comparable) (Go.typeInfo t)) #[.agg #[.pointer (some ⟨10, 38, none⟩)]]).run Tryz.prog w = .ok (.bool true) w := by kernel_rfl
theorem assignableE (w : World) : (ReflectliteType.relation "AssignableTo" ReflectliteType.assignableTo #[.agg #[.pointer (some ⟨10, 55, none⟩)], .iface 180 (.agg #[.pointer (some ⟨10, 55, none⟩)])]).run Tryz.prog w = .ok (.bool true) w := by kernel_rfl
theorem valueOfE (c p : Int) (w : World) : (ReflectliteValue.unpack (.iface 55 (.agg #[.int .i64 c, .int .i64 p]))).run Tryz.prog w = .ok (.agg #[.pointer (some ⟨10, 55, none⟩), .pointer (some ⟨w.heap.size, 0, none⟩), .int .u64 153]) (w.alloc (.cells #[.int .i64 c, .int .i64 p] 55)) := by kernel_rfl
theorem elemOfP (w : World) : (Rtype.elem? 104).run Tryz.prog w = .ok (some 55) w := by kernel_rfl
theorem mkE (a : Addr) (w : World) : (ReflectliteValue.mk 55 a ReflectliteValue.flagAddr).run Tryz.prog w = .ok (.agg #[.pointer (some ⟨10, 55, none⟩), .pointer (some a), .int .u64 409]) w := by kernel_rfl
theorem elemVP (a p : Addr) (W : World) (ha : W.cell? a = some (.pointer (some p))) :
    (ReflectliteValue.method (ReflectliteValue.valueError "reflectlite.Value.Elem" 0) ReflectliteValue.elem #[.agg #[.pointer (some ⟨10, 104, none⟩), .pointer (some a), .int .u64 150]]).run Tryz.prog W = .ok (.agg #[.pointer (some ⟨10, 55, none⟩), .pointer (some p), .int .u64 409]) W := by
  rw [rlm]
  simp only [Sem.run_bind, partsP, Result.andThen]
  simp [ReflectliteValue.elem, loadVar, isAgg, underlying, Tryz.underlying104, ha, Result.andThen, elemOfP, mkE]
theorem partsEa (a : Addr) (w : World) : (ReflectliteValue.parts (.agg #[.pointer (some ⟨10, 55, none⟩), .pointer (some a), .int .u64 409])).run Tryz.prog w = .ok (some (55, a, 409)) w := by kernel_rfl
theorem partsE (a : Addr) (w : World) : (ReflectliteValue.parts (.agg #[.pointer (some ⟨10, 55, none⟩), .pointer (some a), .int .u64 153])).run Tryz.prog w = .ok (some (55, a, 153)) w := by kernel_rfl
theorem directE (w : World) : (Rtype.directlyAssignable 55 55).run Tryz.prog w = .ok true w := by kernel_rfl
theorem aggE : aggB Tryz.prog 55 = some true := by kernel_rfl
theorem szE : szB Tryz.prog 55 = some 2 := by kernel_rfl
theorem loadE (k : Nat) (c p : Int) (W : World) (hk : W.heap[k]? = some (.cells #[.int .i64 c, .int .i64 p] 55 (0, 0))) : (loadVar 55 ⟨k, 0, none⟩).run Tryz.prog W = .ok (.agg #[.int .i64 c, .int .i64 p]) W := by
  have h := run_loadCells_list (P := Tryz.prog) W ⟨k, 0, none⟩ [.int .i64 c, .int .i64 p] (cells_box (cs := [.int .i64 c, .int .i64 p]) (o := 0) (z := 2) hk rfl)
  simp only [List.length_cons, List.length_nil] at h
  simp [loadVar, run_isAggB aggE, run_sizeB szE, h]
theorem storeE (b : Nat) (c p : Int) (x y : Value) (W : World) (hb : W.heap[b]? = some (.cells #[x, y] 55 (0, 0))) : (storeVar 55 ⟨b, 0, none⟩ (.agg #[.int .i64 c, .int .i64 p])).run Tryz.prog W = .ok () (W.setRow b #[.int .i64 c, .int .i64 p]) := by
  have hst := run_storeCells_at Tryz.prog b 0 55 [.int .i64 c, .int .i64 p] 0 #[x, y] W hb (by simp) (by intro u hu; simp at hu; rcases hu with rfl | rfl <;> rfl)
  simp at hst
  simp [storeVar, run_sizeB szE, Value.cells, hst]
/-- (Value).Set: the Fault at 'b' gets what the Value's own variable 'k' holds. -/
theorem setE (b k : Nat) (c p : Int) (x y : Value) (W : World) (hk : W.heap[k]? = some (.cells #[.int .i64 c, .int .i64 p] 55 (0, 0))) (hb : W.heap[b]? = some (.cells #[x, y] 55 (0, 0))) :
    (ReflectliteValue.set #[.agg #[.pointer (some ⟨10, 55, none⟩), .pointer (some ⟨b, 0, none⟩), .int .u64 409], .agg #[.pointer (some ⟨10, 55, none⟩), .pointer (some ⟨k, 0, none⟩), .int .u64 153]]).run Tryz.prog W = .ok (.tuple #[]) (W.setRow b #[.int .i64 c, .int .i64 p]) := by
  show (ReflectliteValue.parts (.agg #[.pointer (some ⟨10, 55, none⟩), .pointer (some ⟨b, 0, none⟩), .int .u64 409]) >>= fun q => ReflectliteValue.parts (.agg #[.pointer (some ⟨10, 55, none⟩), .pointer (some ⟨k, 0, none⟩), .int .u64 153]) >>= fun q2 => _).run _ _ = _
  simp only [Sem.run_bind, partsEa, partsE, Result.andThen]
  simp [ReflectliteValue.flagAddr, loadE k c p W hk, storeE b c p x y W hb, Result.andThen, directE]
theorem heap_alloc_lt {w : World} {o : Obj} {k : Nat} (h : k < w.heap.size) : (w.alloc o).heap[k]? = w.heap[k]? := by
  show (w.heap.push o)[k]? = w.heap[k]?
  rw [Array.getElem?_push, if_neg (Nat.ne_of_lt h)]
theorem heap_alloc_at (w : World) (o : Obj) : (w.alloc o).heap[w.heap.size]? = some o := by
  show (w.heap.push o)[w.heap.size]? = some o
  rw [Array.getElem?_push, if_pos rfl]
set_option maxRecDepth 100000 in
set_option maxHeartbeats 4000000 in
theorem as_hit (c p : Int) (b : Nat) (x y : Value) (w : World) (hg : w.cell? ⟨0, 0, none⟩ = some (.iface 180 (.agg #[.pointer (some ⟨10, 46, none⟩)]))) (hb : w.heap[b]? = some (.cells #[x, y] 55 (0, 0))) :
    Calls Tryz.prog 52 #[.iface 55 (.agg #[.int .i64 c, .int .i64 p]), .iface 104 (.pointer (some ⟨b, 0, none⟩))] w fun ev w' => ev = .returned (.bool true) ∧ w' = ((((w.alloc (.cells #[.pointer (some ⟨b, 0, none⟩)] 104)).alloc (.cells #[.pointer (some ⟨10, 104, none⟩), .pointer (some ⟨w.heap.size, 0, none⟩), .int .u64 150] 145)).alloc (.cells #[.pointer (some ⟨10, 104, none⟩), .pointer (some ⟨w.heap.size, 0, none⟩), .int .u64 150] 145)).alloc (.cells #[.int .i64 c, .int .i64 p] 55)).setRow b #[.int .i64 c, .int .i64 p] := by
  have hVO := @run_callFunc_extern Tryz.prog 104 _ (fun args => ReflectliteValue.unpack (args.getD 0 (.tuple #[]))) Tryz.func104 (by kernel_rfl) (by kernel_rfl) (by kernel_rfl) (by kernel_rfl)
  have hTy := @run_callFunc_extern Tryz.prog 105 _ (ReflectliteValue.methodAny (ReflectliteValue.valueError "reflectlite.Value.Type" 0) (fun t _ _ _ => ReflectliteType.toType t)) Tryz.func105 (by kernel_rfl) (by kernel_rfl) (by kernel_rfl) (by kernel_rfl)
  have hNil := @run_callFunc_extern Tryz.prog 106 _ (ReflectliteValue.method (ReflectliteValue.valueError "reflectlite.Value.IsNil" 0) ReflectliteValue.isNil) Tryz.func106 (by kernel_rfl) (by kernel_rfl) (by kernel_rfl) (by kernel_rfl)
  have hK := @run_callFunc_extern Tryz.prog 226 _ (ReflectliteType.abiMethod fun t => do pure (.int .u8 (← Rtype.kind t))) Tryz.func226 (by kernel_rfl) (by kernel_rfl) (by kernel_rfl) (by kernel_rfl)
  have hrE := @run_callFunc_extern Tryz.prog 239 _ (ReflectliteType.method ReflectliteType.elem) Tryz.func239 (by kernel_rfl) (by kernel_rfl) (by kernel_rfl) (by kernel_rfl)
  have hrI := @run_callFunc_extern Tryz.prog 240 _ (ReflectliteType.relation "Implements" ReflectliteType.implements_) Tryz.func240 (by kernel_rfl) (by kernel_rfl) (by kernel_rfl) (by kernel_rfl)
  have hTO := @run_callFunc_extern Tryz.prog 108 _ ReflectliteType.typeOf Tryz.func108 (by kernel_rfl) (by kernel_rfl) (by kernel_rfl) (by kernel_rfl)
  have hrA := @run_callFunc_extern Tryz.prog 237 _ (ReflectliteType.relation "AssignableTo" ReflectliteType.assignableTo) Tryz.func237 (by kernel_rfl) (by kernel_rfl) (by kernel_rfl) (by kernel_rfl)
  have hEl := @run_callFunc_extern Tryz.prog 146 _ (ReflectliteValue.method (ReflectliteValue.valueError "reflectlite.Value.Elem" 0) ReflectliteValue.elem) Tryz.func146 (by kernel_rfl) (by kernel_rfl) (by kernel_rfl) (by kernel_rfl)
  have hSe := @run_callFunc_extern Tryz.prog 147 _ ReflectliteValue.set Tryz.func147 (by kernel_rfl) (by kernel_rfl) (by kernel_rfl) (by kernel_rfl)
  have q1 := typeOfE
  have q2 := methodAssignableTo
  have q3 := assignableE
  have q4 := valueOfE
  have q5 := valueOfP
  have q6 := typeP
  have q7 := methodKind
  have q8 := methodElem
  have q9 := methodImplements
  have q10 := kindP
  have q11 := kindE
  have q12 := elemP
  have q13 := implementsE
  have hlt : 0 < w.heap.size := World.block_lt_of_cell? _ _ hg
  have hbl : b < w.heap.size := by
    rcases Nat.lt_or_ge b w.heap.size with h | h
    · exact h
    · rw [Array.getElem?_eq_none h] at hb; cases hb
  have n8 := isNilP ⟨w.heap.size, 0, none⟩ ⟨b, 0, none⟩ ((w.alloc (.cells #[.pointer (some ⟨b, 0, none⟩)] 104)).alloc (.cells #[.pointer (some ⟨10, 104, none⟩), .pointer (some ⟨w.heap.size, 0, none⟩), .int .u64 150] 145)) (by simp)
  have hg2 : ((w.alloc (.cells #[.pointer (some ⟨b, 0, none⟩)] 104)).alloc (.cells #[.pointer (some ⟨10, 104, none⟩), .pointer (some ⟨w.heap.size, 0, none⟩), .int .u64 150] 145)).cell? ⟨0, 0, none⟩ = some (.iface 180 (.agg #[.pointer (some ⟨10, 46, none⟩)])) := by
    rw [World.cell?_alloc_lt _ _ ⟨0, 0, none⟩ (by simp), World.cell?_alloc_lt _ _ ⟨0, 0, none⟩ hlt]; exact hg
  have el := elemVP ⟨w.heap.size, 0, none⟩ ⟨b, 0, none⟩ (((w.alloc (.cells #[.pointer (some ⟨b, 0, none⟩)] 104)).alloc (.cells #[.pointer (some ⟨10, 104, none⟩), .pointer (some ⟨w.heap.size, 0, none⟩), .int .u64 150] 145)).alloc (.cells #[.pointer (some ⟨10, 104, none⟩), .pointer (some ⟨w.heap.size, 0, none⟩), .int .u64 150] 145)) (by rw [World.cell?_alloc_lt _ _ ⟨w.heap.size, 0, none⟩ (by simp; omega)]; simp)
  have st := setE b (w.heap.size + 1 + 1 + 1) c p x y ((((w.alloc (.cells #[.pointer (some ⟨b, 0, none⟩)] 104)).alloc (.cells #[.pointer (some ⟨10, 104, none⟩), .pointer (some ⟨w.heap.size, 0, none⟩), .int .u64 150] 145)).alloc (.cells #[.pointer (some ⟨10, 104, none⟩), .pointer (some ⟨w.heap.size, 0, none⟩), .int .u64 150] 145)).alloc (.cells #[.int .i64 c, .int .i64 p] 55))
    (by have := heap_alloc_at (((w.alloc (.cells #[.pointer (some ⟨b, 0, none⟩)] 104)).alloc (.cells #[.pointer (some ⟨10, 104, none⟩), .pointer (some ⟨w.heap.size, 0, none⟩), .int .u64 150] 145)).alloc (.cells #[.pointer (some ⟨10, 104, none⟩), .pointer (some ⟨w.heap.size, 0, none⟩), .int .u64 150] 145)) (.cells #[.int .i64 c, .int .i64 p] 55); simpa using this)
    (by rw [heap_alloc_lt (by simp; omega), heap_alloc_lt (by simp; omega), heap_alloc_lt (by simp; omega), heap_alloc_lt hbl]; exact hb)
  go_enter Tryz.func52, Tryz.ntmps52
  go_wp2
  refine wp_loop_rounds 1 ?_
  rw [rounds_succ]
  go_wp2
  go_ret
  exact ⟨rfl, rfl⟩
theorem noIs (v : Value) (xT : TypeId) (w : World) : (Instr.typeAssert (.iface 55 v) xT 192 true).run Tryz.prog w = .ok (.tuple #[.nilIface, .bool false]) w := run_typeAssert_lacksB Tryz.underlying192 (by kernel_rfl) (by kernel_rfl) v xT w
theorem hasUn (v : Value) (xT : TypeId) (w : World) : (Instr.typeAssert (.iface 55 v) xT 187 true).run Tryz.prog w = .ok (.tuple #[.iface 55 v, .bool true]) w := run_typeAssert_hasB Tryz.underlying187 (by kernel_rfl) v xT w
theorem eqFC (v u : Value) (w : World) : (binOp .eql 46 (.iface 55 v) (.iface 38 u)).run Tryz.prog w = .ok (.bool false) w := run_eql_iface_types 55 38 v u Tryz.underlying46 (by decide) w
theorem eqCC (c : Int) (w : World) : (binOp .eql 46 (.iface 38 (.int .i64 c)) (.iface 38 (.int .i64 c))).run Tryz.prog w = .ok (.bool true) w := by
  simp only [binOp]
  have hc : Tryz.t38.comparable = true := by kernel_rfl
  have h : ∀ d : Nat, (Op.equalIn (d + 1 + 1) 46 (.iface 38 (.int .i64 c)) (.iface 38 (.int .i64 c))).run Tryz.prog w = .ok true w := fun d => by simp [Op.equalIn, run_underlying Tryz.underlying46, run_underlying Tryz.underlying38, hc]
  simp [Op.equal, Op.maxDepth, h 9998]
set_option maxRecDepth 100000 in
set_option maxHeartbeats 4000000 in
theorem is_code (c p : Int) (w : World) : Calls Tryz.prog 53 #[.iface 55 (.agg #[.int .i64 c, .int .i64 p]), .iface 38 (.int .i64 c)] w fun ev w' => ev = .returned (.bool true) ∧ w' = w.alloc (.cells #[.int .i64 c, .int .i64 p] 55) := by
  have hTO := @run_callFunc_extern Tryz.prog 108 _ ReflectliteType.typeOf Tryz.func108 (by kernel_rfl) (by kernel_rfl) (by kernel_rfl) (by kernel_rfl)
  have hrC := @run_callFunc_extern Tryz.prog 238 _ (ReflectliteType.method (fun t => do Rtype.noPackHeld "Comparable" t; pure (.bool (← Go.typeInfo t).comparable))) Tryz.func238 (by kernel_rfl) (by kernel_rfl) (by kernel_rfl) (by kernel_rfl)
  have q1 := typeOfC
  have q2 := methodComparable
  have q3 := comparableC
  have q4 := noIs
  have q5 := hasUn
  have q6 := eqFC
  have q7 := eqCC
  have q8 := methodUnwrap
  go_enter Tryz.func53, Tryz.ntmps53
  go_wp2
  refine wp_loop_rounds 2 ?_
  rw [rounds_succ]
  go_wp2
  rw [rounds_succ]
  go_wp2
  go_ret
  exact ⟨rfl, rfl⟩
end Go.Proofs.YtjbpkcbefmpfgaaGreatDoor
namespace Go.Proofs.YtjbpkcbefmpfgaaGreatDoor
open Go.WK Go.RowKit 
theorem zero55 : (Tryz.prog.info? 55).map (·.zero) = some (some (.agg #[.int .i64 0, .int .i64 0])) := by kernel_rfl
theorem built55  : Tryz.prog.built 55 [] = some ([.int .i64 0, .int .i64 0] : List Value).toArray := by kernel_rfl
theorem sz55 : szB Tryz.prog 55 = some 2 := by kernel_rfl
theorem agg55 : aggB Tryz.prog 55 = some true := by kernel_rfl
theorem fo55_0 : fieldB Tryz.prog 55 0 = some 0 := by kernel_rfl
theorem agg38 : aggB Tryz.prog 38 = some false := by kernel_rfl
structure LX (w : World) : Prop where
  c : w.cell? ⟨0, 0, none⟩ = some (.iface 180 (.agg #[.pointer (some ⟨10, 46, none⟩)]))
theorem LX.chg {w w' : World} (h : LX w) (hc : Chg [] w w') : LX w' := ⟨by rw [hc.below.cell (p := ⟨0, 0, none⟩) (World.block_lt_of_cell? _ _ h.c)]; exact h.c⟩
theorem asK (c p : Int) (b : Nat) (w : World) (hs : Sat ⟨default, 0, [], w, [b]⟩ [box b 55 [.int .i64 0, .int .i64 0]] w) (hX : LX w) :
    Calls Tryz.prog 52 #[.iface 55 (.agg #[.int .i64 c, .int .i64 p]), .iface 104 (.pointer (some ⟨b, 0, none⟩))] w (Turn w [b] (fun _ : Unit => .bool true) (fun _ => [box b 55 [.int .i64 c, .int .i64 p]]) (fun _ => True)) := by
  have hb : w.heap[b]? = some (.cells #[.int .i64 0, .int .i64 0] 55 (0, 0)) := hs.holds _ List.mem_cons_self
  refine (as_hit c p b _ _ w hX.c hb).mono fun e w' ⟨he, hw⟩ => ⟨(), trivial, he, ?_⟩
  subst hw
  have h4 : Sat ⟨default, 0, [], w, [b]⟩ [box b 55 [.int .i64 0, .int .i64 0]] ((((w.alloc (.cells #[.pointer (some ⟨b, 0, none⟩)] 104)).alloc (.cells #[.pointer (some ⟨10, 104, none⟩), .pointer (some ⟨w.heap.size, 0, none⟩), .int .u64 150] 145)).alloc (.cells #[.pointer (some ⟨10, 104, none⟩), .pointer (some ⟨w.heap.size, 0, none⟩), .int .u64 150] 145)).alloc (.cells #[.int .i64 c, .int .i64 p] 55)) := (((hs.ext (Chg.alloc [] _ _)).ext (Chg.alloc [] _ _)).ext (Chg.alloc [] _ _)).ext (Chg.alloc [] _ _)
  have hb4 : (((((w.alloc (.cells #[.pointer (some ⟨b, 0, none⟩)] 104)).alloc (.cells #[.pointer (some ⟨10, 104, none⟩), .pointer (some ⟨w.heap.size, 0, none⟩), .int .u64 150] 145)).alloc (.cells #[.pointer (some ⟨10, 104, none⟩), .pointer (some ⟨w.heap.size, 0, none⟩), .int .u64 150] 145)).alloc (.cells #[.int .i64 c, .int .i64 p] 55))).heap[b]? = some (.cells #[.int .i64 0, .int .i64 0] 55 (0, 0)) := h4.holds _ List.mem_cons_self
  exact h4.change Nth.z (box b 55 [.int .i64 c, .int .i64 p]) (heap_setRow_same _ hb4) rfl rfl rfl (by simp) (fun k _ hk => heap_setRow_other _ (fun e => hk e)) (fun k hk => .inl hk)
theorem isK (c p : Int) (w : World) : Calls Tryz.prog 53 #[.iface 55 (.agg #[.int .i64 c, .int .i64 p]), .iface 38 (.int .i64 c)] w (Pure w (.bool true)) :=
  (is_code c p w).mono fun e w' ⟨he, hw⟩ => ⟨he, by rw [hw]; exact Chg.alloc [] _ _⟩
theorem faultK (r : Res) (w : World) (hX : LX w) : Calls Tryz.prog 18 #[errR 55 r] w (Pure w (.agg #[.int .i64 (fc r).1, .int .i64 (fc r).2])) := by
  refine calls_tri (args := [errR 55 r]) (lent := []) (H := []) Tryz.func18 rfl Tryz.ntmps18 rfl (Sat.start _ _ _ _) ?_; refine (show Tri _ [(0, _)] _ _ _ from ?_); refine tri_seq (tri_region ?_); refine o_alloc _ rfl zero55 rfl (fun b2 => ?_); refine triL_nilN ?_; refine tri_seq ?_; refine tri_seq (tri_region ?_); refine o_move rfl rfl ?_; refine o_eqlErr ifE (errIs _ _) rfl rfl ?_; refine triL_nilN ?_; refine tri_cond rfl (fun h0 => ?_) (fun h0 => ?_)
  · skip
    obtain ⟨ts, rfl⟩ := okR_ok h0
    refine tri_seq (tri_region ?_); refine o_build built55 rfl rfl ?_; refine o_store sz55 (by repeat (first | exact Nth.z | apply Nth.s)) rfl rfl rfl rfl rfl (Nat.le_of_ble_eq_true rfl) rfl ?_; refine triL_nilN ?_; refine tri_ret ?_; refine thenQ_ret ?_; refine endC1 rfl agg55 sz55 (by repeat (first | exact Nth.z | apply Nth.s)) rfl rfl ?_
    exact fun w1 hw1 => ⟨rfl, hw1.chg⟩
  · skip
    obtain ⟨e, rfl⟩ := okR_bad h0
    refine tri_skip ?_; refine thenQ_normal ?_; refine tri_seq (tri_region ?_); refine o_alloc _ rfl zero55 rfl (fun b3 => ?_); refine triL_nilN ?_; refine tri_seq ?_; refine tri_seq (tri_region ?_); refine o_move rfl rfl ?_; refine o_iface Tryz.underlying104 rfl rfl rfl ?_; refine o_callM (first := []) (cap := []) [] [_] _ [b3] rfl rfl rfl rfl Tryz.call52 lend_box lend_box' (fun w1 h1 h2 => asK e.1 e.2 b3 w1 h2.cx (hX.chg h1.chg)) (fun _ _ => ?_); refine o_move rfl rfl ?_
    refine' triL_and [_, _, _, _, _] [(3, _), (2, _)] (dj := 10) (dr := 15) rfl rfl (fun g1 => ?_) ⟨_, rfl, rfl, rfl, (.cons rfl (.cons rfl (.nil _)))⟩ rfl ?_
    rotate_left
    · skip
      refine o_move rfl rfl ?_; refine o_field fo55_0 rfl rfl ?_; refine o_load agg38 (by repeat (first | exact Nth.z | apply Nth.s)) rfl rfl rfl ?_; refine o_iface Tryz.underlying38 rfl rfl rfl ?_; refine o_callP (first := []) (cap := []) rfl rfl rfl Tryz.call53 (fun w1 h1 => isK e.1 e.2 w1) ?_
      exact triL_nil (Piece.mk rfl rfl (.cons rfl (.cons rfl (.nil _))) (fun _ h => h))
    refine triL_nilN ?_; refine tri_cond_true rfl ?_; refine tri_seq (tri_region ?_); refine o_loadA agg55 sz55 (by repeat (first | exact Nth.z | apply Nth.s)) rfl rfl rfl rfl ?_; refine o_store sz55 (by repeat (first | exact Nth.z | apply Nth.s)) rfl rfl rfl rfl rfl (Nat.le_of_ble_eq_true rfl) rfl ?_; refine triL_nilN ?_; refine tri_ret ?_; refine thenQ_ret ?_; refine endC1 rfl agg55 sz55 (by repeat (first | exact Nth.z | apply Nth.s)) rfl rfl ?_
    exact fun w1 hw1 => ⟨rfl, hw1.chg⟩
end Go.Proofs.YtjbpkcbefmpfgaaGreatDoor
namespace Go.Proofs.YtjbpkcbefmpfgaaGreatDoor
open Go.WK Go.RowKit 
theorem fo62_2 : fieldB Tryz.prog 62 2 = some 2 := by kernel_rfl
end Go.Proofs.YtjbpkcbefmpfgaaGreatDoor
namespace Go.Proofs.YtjbpkcbefmpfgaaGreatDoor
open Go.WK Go.RowKit 
theorem fo96_0 : fieldB Tryz.prog 96 0 = some 0 := by kernel_rfl
theorem agg58 : aggB Tryz.prog 58 = some false := by kernel_rfl
theorem sz58 : szB Tryz.prog 58 = some 1 := by kernel_rfl
theorem built92_0 (x0_0 : Int) (x0_1 : Int) : Tryz.prog.built 92 [(0, .agg (([.int .i64 x0_0, .int .i64 x0_1] : List Value)).toArray)] = some ([.int .i64 x0_0, .int .i64 x0_1] : List Value).toArray := by kernel_rfl
theorem fo96_1 : fieldB Tryz.prog 96 1 = some 1 := by kernel_rfl
theorem nameRk (s : List UInt8) (w : World) (hs : s.length ≤ 140737488355328) : Calls Tryz.prog 68 #[.string (B s)] w (Pure w (.bool (nameR s))) := by
  refine calls_tri (args := [.string (B s)]) (lent := []) (H := []) Tryz.func68 rfl Tryz.ntmps68 rfl (Sat.start _ _ _ _) ?_; refine (show Tri _ [(0, _)] _ _ _ from ?_)
  rw [nameR_eq]
  have e24 : decide ((24 : Int) < (s.length : Int)) = decide (24 < s.length) := decide_eq_decide.2 (by omega)
  refine tri_seq (tri_region ?_); refine o_assignN rfl rfl ?_; refine tri_seq ?_; refine tri_seq (tri_region ?_); refine o_move rfl rfl ?_; refine o_eqlT rfl rfl rfl ?_; refine o_move rfl rfl ?_
  refine' triL_or [_, _, _] [(0, _)] (dj := 7) (dr := 10) rfl rfl (fun g1 => ?_) ⟨_, rfl, rfl, rfl, (.cons rfl (.nil _))⟩ rfl ?_
  rotate_left
  · skip
    refine o_move rfl rfl ?_; refine o_lenB Tryz.underlying9 rfl rfl ?_; refine o_gtr rfl rfl rfl ?_
    exact triL_nil (Piece.mk rfl rfl (.cons rfl (.nil _)) (fun _ h => h))
  refine triL_nilN ?_; refine tri_cond rfl (fun h0 => ?_) (fun h0 => ?_)
  · skip
    rw [e24] at h0
    refine tri_seq (tri_region ?_); refine o_assignN rfl rfl ?_; refine tri_ret ?_; refine thenQ_ret ?_; refine end1 rfl rfl ?_
    exact fun w1 hw1 => ⟨congrArg (fun b => Ending.returned (.bool b)) (by rw [h0]; rfl), hw1.chg⟩
  · skip
    rw [e24] at h0
    refine tri_skip ?_; refine thenQ_normal ?_; refine tri_seq ?_; refine tri_seq (tri_region ?_); refine o_move rfl rfl ?_; refine o_lenB Tryz.underlying9 rfl rfl ?_; refine o_move rfl rfl ?_; refine triL_nilN ?_; refine tri_block ?_; refine tri_loop (ι := Nat) (F := fun i => [(0, .string (B s)), (13, .int .i64 (s.length : Int)), (14, .int .i64 (i : Int))]) (HH := fun i => []) (Pu := fun i => i ≤ s.length ∧ nmL true s = nmL (decide (i = 0)) (s.drop i)) (μ := fun i => s.length - i) (0) (.cons rfl (.cons rfl (.cons rfl (.nil _)))) (fun _ h => h) (⟨by omega, by simp⟩) (fun i hi => ?_); refine tri_seq (tri_region ?_); refine o_lss rfl rfl rfl ?_; refine triL_nilN ?_; refine tri_seq ?_; refine tri_if rfl (fun h1 => ?_) (fun h1 => ?_)
    · skip
      refine tri_skip ?_; refine thenQ_normal ?_; refine tri_seq ?_; refine tri_block ?_; refine tri_seq (tri_region ?_); refine o_move rfl rfl ?_; refine o_assignN rfl rfl ?_; refine tri_seq (tri_region ?_); refine o_move rfl rfl ?_; refine o_move rfl rfl ?_; refine o_idxB Tryz.underlying9 rfl rfl rfl (by omega) (by omega) ?_; refine o_assignN rfl rfl ?_; refine tri_block ?_; refine tri_seq ?_; refine tri_slots [(4, _), (3, _), (0, _), (13, _), (14, _)] (.cons rfl (.cons rfl (.cons rfl (.cons rfl (.cons rfl (.nil _)))))) ?_; refine tri_region ?_; refine o_move rfl rfl ?_; refine o_geq rfl rfl rfl ?_; refine o_move rfl rfl ?_
      refine' triL_and [_, _] [(4, _), (3, _), (0, _), (13, _), (14, _)] (dj := 23) (dr := 25) rfl rfl (fun g2 => ?_) ⟨_, rfl, rfl, rfl, (.cons rfl (.cons rfl (.cons rfl (.cons rfl (.cons rfl (.nil _))))))⟩ rfl ?_
      rotate_left
      · skip
        refine o_move rfl rfl ?_; refine o_leq rfl rfl rfl ?_
        exact triL_nil (Piece.mk rfl rfl (.cons rfl (.cons rfl (.cons rfl (.cons rfl (.cons rfl (.nil _)))))) (fun _ h => h))
      refine o_assignN rfl rfl ?_; refine tri_cond rfl (fun h2 => ?_) (fun h2 => ?_)
      · skip
        have h2 : (decide ((97 : Int) ≤ ((s.getD i 0).toNat : Int)) && decide (((s.getD i 0).toNat : Int) ≤ 122)) = true := h2
        refine tri_skip ?_; refine blockQ_normal ?_; refine blockQ_normal ?_; refine thenQ_normal ?_; refine tri_slots [(0, _), (13, _), (14, _)] (.cons rfl (.cons rfl (.cons rfl (.nil _)))) ?_; refine tri_region ?_; refine o_addN rfl rfl rfl (by omega) ?_; refine o_move rfl rfl ?_; refine triL_nilN ?_
        exact ⟨i + 1, (.cons rfl (.cons rfl (.cons rfl (.nil _)))), fun _ h => h, ⟨by omega, by rw [hi.2, nmL_step _ (by omega), nm_yes _ h2]; simp⟩, by omega⟩
      · skip
        have h2 : (decide ((97 : Int) ≤ ((s.getD i 0).toNat : Int)) && decide (((s.getD i 0).toNat : Int) ≤ 122)) = false := h2
        refine tri_seq (tri_region ?_); refine o_move rfl rfl ?_; refine o_gtr rfl rfl rfl ?_; refine o_move rfl rfl ?_
        refine' triL_and [_, _, _, _, _, _, _, _, _, _] [(0, _), (13, _), (14, _)] (dj := 30) (dr := 40) rfl rfl (fun g3 => ?_) ⟨_, rfl, rfl, rfl, (.cons rfl (.cons rfl (.cons rfl (.nil _))))⟩ rfl ?_
        rotate_left
        · skip
          refine o_move rfl rfl ?_; refine o_geq rfl rfl rfl ?_; refine o_move rfl rfl ?_
          refine' triL_and [_, _] [(30, _), (4, _), (0, _), (13, _), (14, _)] (dj := 33) (dr := 35) rfl rfl (fun g4 => ?_) ⟨_, rfl, rfl, rfl, (.cons rfl (.cons rfl (.cons rfl (.cons rfl (.cons rfl (.nil _))))))⟩ rfl ?_
          rotate_left
          · skip
            refine o_move rfl rfl ?_; refine o_leq rfl rfl rfl ?_
            exact triL_nil (Piece.mk rfl rfl (.cons rfl (.cons rfl (.cons rfl (.cons rfl (.cons rfl (.nil _)))))) (fun _ h => h))
          refine o_move rfl rfl ?_
          refine' triL_or [_, _] [(30, _), (0, _), (13, _), (14, _)] (dj := 37) (dr := 39) rfl rfl (fun g5 => ?_) ⟨_, rfl, rfl, rfl, (.cons rfl (.cons rfl (.cons rfl (.cons rfl (.nil _)))))⟩ rfl ?_
          rotate_left
          · skip
            refine o_move rfl rfl ?_; refine o_eqlI rfl rfl rfl ?_
            exact triL_nil (Piece.mk rfl rfl (.cons rfl (.cons rfl (.cons rfl (.cons rfl (.nil _))))) (fun _ h => h))
          exact triL_nil (Piece.mk rfl rfl (.cons rfl (.cons rfl (.cons rfl (.nil _)))) (fun _ h => h))
        refine o_assignN rfl rfl ?_; refine tri_cond rfl (fun h3 => ?_) (fun h3 => ?_)
        · skip
          refine tri_skip ?_; refine blockQ_normal ?_; refine blockQ_normal ?_; refine thenQ_normal ?_; refine tri_region ?_; refine o_addN rfl rfl rfl (by omega) ?_; refine o_move rfl rfl ?_; refine triL_nilN ?_
          exact ⟨i + 1, (.cons rfl (.cons rfl (.cons rfl (.nil _)))), fun _ h => h, ⟨by omega, by rw [hi.2, nmL_step _ (by omega), nm_more h2 h3]; simp⟩, by omega⟩
        · skip
          refine tri_seq ?_; refine tri_slots [] (.nil _) ?_; refine tri_region ?_; refine o_assignN rfl rfl ?_; refine tri_ret ?_; refine blockQ_ret ?_; refine blockQ_ret ?_; refine thenQ_ret ?_; refine thenQ_ret ?_; refine blockQ_ret ?_; refine thenQ_ret ?_; refine end1 rfl rfl ?_
          exact fun w1 hw1 => ⟨congrArg (fun b => Ending.returned (.bool b)) (by rw [hi.2, nmL_step _ (by omega), nm_more h2 h3]; simp), hw1.chg⟩
    · skip
      refine tri_exit ?_; refine thenQ_exit ?_; refine thenQ_exit ?_; refine blockQ_here ?_; refine thenQ_normal ?_; refine tri_seq ?_; refine tri_slots [] (.nil _) ?_; refine tri_region ?_; refine o_assignN rfl rfl ?_; refine tri_ret ?_; refine end1 rfl rfl ?_
      exact fun w1 hw1 => ⟨congrArg (fun b => Ending.returned (.bool b)) (by rw [hi.2, List.drop_eq_nil_of_le (by omega), h0]; rfl), hw1.chg⟩
theorem nextK (k : Int) (t : List UInt8) (pb : Nat) (a : Addr) (k0 : Nat) (T ts : List Tok) (d : Nat) (w : World) (hA : At w pb a k0 T ts d) (hk : k ≠ 5) : Calls Tryz.prog 103 #[.pointer (some ⟨pb, 0, none⟩), .int .i64 k, .string (B t)] w (PTurn w [pb] (fun _ : Unit => .bool (atT k t ts)) (fun _ => [pC pb a k0 T (if atT k t ts = true then ts.drop 1 else ts) (d)]) (fun _ => True) (fun _ => False)) := by
  refine calls_tri (args := [.pointer (some ⟨pb, 0, none⟩), .int .i64 k, .string (B t)]) (lent := [pb]) (H := [pC pb a k0 T ts d]) Tryz.func103 rfl Tryz.ntmps103 rfl hA.sat.cx ?_; refine (show Tri _ [(0, _), (1, _), (2, _)] _ _ _ from ?_)
  have hto := hd_ok hA.env hA.suf hA.good
  have hR := hA.env.rds ts hA.suf
  have hl := hA.good.ne
  have hle := hA.suf.length_le
  have hlk := hA.env.len
  have hbn := hA.env.bnd
  have hdp := hA.dep
  refine tri_seq (tri_region ?_); refine o_assignN rfl rfl ?_; refine tri_seq ?_; refine tri_seq (tri_region ?_); refine o_move rfl rfl ?_; refine o_nilCheck rfl rfl ?_; refine o_field fo96_0 rfl rfl ?_; refine o_load agg58 (by repeat (first | exact Nth.z | apply Nth.s)) rfl rfl rfl ?_; refine o_idxS Tryz.underlying58 sz62 rfl rfl rfl (hR _ _ rfl rfl) (by omega) (by omega) (toksV_length _) (by decide) ?_; refine o_fieldAt fo62_0 rfl rfl (hR _ _ rfl rfl) (hd_k hA.good) ?_; refine o_loadR agg3 rfl rfl (hR _ _ rfl rfl) (hd_k hA.good) ?_; refine o_move rfl rfl ?_; refine o_neqI rfl rfl rfl ?_; refine o_move rfl rfl ?_
  refine' triL_or [_, _, _, _, _, _, _, _, _] [(0, _)] (dj := 16) (dr := 25) rfl rfl (fun g1 => ?_) ⟨_, rfl, rfl, rfl, (.cons rfl (.nil _))⟩ rfl ?_
  rotate_left
  · skip
    refine o_move rfl rfl ?_; refine o_nilCheck rfl rfl ?_; refine o_field fo96_0 rfl rfl ?_; refine o_load agg58 (by repeat (first | exact Nth.z | apply Nth.s)) rfl rfl rfl ?_; refine o_idxS Tryz.underlying58 sz62 rfl rfl rfl (hR _ _ rfl rfl) (by omega) (by omega) (toksV_length _) (by decide) ?_; refine o_fieldAt fo62_1 rfl rfl (hR _ _ rfl rfl) (hd_k hA.good) ?_; refine o_loadR agg9 rfl rfl (hR _ _ rfl rfl) (hd_t hA.good) ?_; refine o_move rfl rfl ?_; refine o_neqT rfl rfl rfl ?_
    exact triL_nil (Piece.mk rfl rfl (.cons rfl (.nil _)) (fun _ h => h))
  refine triL_nilN ?_; refine tri_cond rfl (fun h0 => ?_) (fun h0 => ?_)
  · skip
    have h0 := at_no h0
    refine tri_seq (tri_region ?_); refine o_assignN rfl rfl ?_; refine tri_ret ?_; refine thenQ_ret ?_; refine end1 rfl rfl ?_
    exact fin_pturn () (by rw [h0]) trivial (fun w2 hw2 => by rw [h0]; exact hw2.sel [0] (by decide))
  · skip
    have h0 := at_yes h0
    have hg := hA.good.next hk h0
    have hl2 := hg.ne
    rw [List.length_drop] at hl2
    refine tri_skip ?_; refine thenQ_normal ?_; refine tri_seq (tri_region ?_); refine o_move rfl rfl ?_; refine o_move rfl rfl ?_; refine o_nilCheck rfl rfl ?_; refine o_field fo96_0 rfl rfl ?_; refine o_load agg58 (by repeat (first | exact Nth.z | apply Nth.s)) rfl rfl rfl ?_; refine o_sliceSl Tryz.underlying58 sz62 rfl rfl rfl (by omega) (by omega) (by omega) ?_; refine triL_num (v' := pSl a k0 T (ts.drop 1)) (cut_pS a k0 hA.suf hA.env.len (by omega)) ?_; refine o_nilCheck rfl rfl ?_; refine o_field fo96_0 rfl rfl ?_; refine o_store sz58 (by repeat (first | exact Nth.z | apply Nth.s)) rfl rfl rfl rfl rfl (Nat.le_of_ble_eq_true rfl) rfl ?_; refine triL_nilN ?_; refine tri_seq ?_; refine tri_slots [] (.nil _) ?_; refine tri_region ?_; refine o_assignN rfl rfl ?_; refine tri_ret ?_; refine end1 rfl rfl ?_
    exact fin_pturn () (by rw [h0]) trivial (fun w2 hw2 => by rw [h0]; exact hw2.sel [0] (by decide))
theorem failK (e : Int) (pb : Nat) (a : Addr) (k0 : Nat) (T ts : List Tok) (d : Nat) (w : World) (hA : At w pb a k0 T ts d) : Calls Tryz.prog 47 #[.pointer (some ⟨pb, 0, none⟩), .int .i64 e] w (PTurn w [pb] (fun _ : Unit => .tuple #[]) (fun _ => [pC pb a k0 T (ts) (d)]) (fun _ => False) (fun ch => ch = stopCh (e, (hd ts).a))) := by
  refine calls_tri (args := [.pointer (some ⟨pb, 0, none⟩), .int .i64 e]) (lent := [pb]) (H := [pC pb a k0 T ts d]) Tryz.func47 rfl Tryz.ntmps47 rfl hA.sat.cx ?_; refine (show Tri _ [(0, _), (1, _)] _ _ _ from ?_)
  have hto := hd_ok hA.env hA.suf hA.good
  have hR := hA.env.rds ts hA.suf
  have hl := hA.good.ne
  have hle := hA.suf.length_le
  have hlk := hA.env.len
  have hbn := hA.env.bnd
  have hdp := hA.dep
  refine tri_region ?_; refine o_move rfl rfl ?_; refine o_move rfl rfl ?_; refine o_nilCheck rfl rfl ?_; refine o_field fo96_0 rfl rfl ?_; refine o_load agg58 (by repeat (first | exact Nth.z | apply Nth.s)) rfl rfl rfl ?_; refine o_idxS Tryz.underlying58 sz62 rfl rfl rfl (hR _ _ rfl rfl) (by omega) (by omega) (toksV_length _) (by decide) ?_; refine o_fieldAt fo62_2 rfl rfl (hR _ _ rfl rfl) (hd_k hA.good) ?_; refine o_loadR agg3 rfl rfl (hR _ _ rfl rfl) (hd_a hA.good) ?_; refine o_build (built55_0_1 _ _) rfl rfl ?_; refine o_build (built92_0 _ _) rfl rfl ?_; refine o_iface Tryz.underlying92 rfl rfl rfl ?_; refine o_panic rfl rfl ?_
  exact fin_panic rfl
theorem wordP (t : List UInt8) (pb : Nat) (a : Addr) (k0 : Nat) (T ts : List Tok) (d : Nat) (w : World) (hA : At w pb a k0 T ts d) : Calls Tryz.prog 90 #[.pointer (some ⟨pb, 0, none⟩), .string (B t)] w (PTurn w [pb] (fun _ : Unit => .bool (atT 1 t ts)) (fun _ => [pC pb a k0 T (if atT 1 t ts = true then ts.drop 1 else ts) (d)]) (fun _ => True) (fun _ => False)) := by
  refine calls_tri (args := [.pointer (some ⟨pb, 0, none⟩), .string (B t)]) (lent := [pb]) (H := [pC pb a k0 T ts d]) Tryz.func90 rfl Tryz.ntmps90 rfl hA.sat.cx ?_; refine (show Tri _ [(0, _), (1, _)] _ _ _ from ?_)
  have hto := hd_ok hA.env hA.suf hA.good
  have hR := hA.env.rds ts hA.suf
  have hl := hA.good.ne
  have hle := hA.suf.length_le
  have hlk := hA.env.len
  have hbn := hA.env.bnd
  have hdp := hA.dep
  refine tri_seq (tri_region ?_); refine o_assignN rfl rfl ?_; refine tri_seq (tri_region ?_); refine o_move rfl rfl ?_; refine o_move rfl rfl ?_; refine o_callN (first := []) (cap := []) [pb] (by repeat (first | exact Nth.z | apply Nth.s)) rfl rfl rfl Tryz.call103 lend_box lend_box' (fun w1 h1 h2 => nextK 1 t pb a k0 T ts d w1 (hA.sub h1.chg (Cuts.refl hA.good) hA.dep h2) (by decide)) (fun ch hF => hF.elim) (fun u_ hu_ => ?_); refine o_assignN rfl rfl ?_; refine tri_ret ?_; refine end1 rfl rfl ?_
  exact fin_pturn () (rfl) (trivial) (fun w2 hw2 => hw2.sel [0] (by decide))
theorem signP (t : List UInt8) (pb : Nat) (a : Addr) (k0 : Nat) (T ts : List Tok) (d : Nat) (w : World) (hA : At w pb a k0 T ts d) : Calls Tryz.prog 46 #[.pointer (some ⟨pb, 0, none⟩), .string (B t)] w (PTurn w [pb] (fun _ : Unit => .bool (atT 4 t ts)) (fun _ => [pC pb a k0 T (if atT 4 t ts = true then ts.drop 1 else ts) (d)]) (fun _ => True) (fun _ => False)) := by
  refine calls_tri (args := [.pointer (some ⟨pb, 0, none⟩), .string (B t)]) (lent := [pb]) (H := [pC pb a k0 T ts d]) Tryz.func46 rfl Tryz.ntmps46 rfl hA.sat.cx ?_; refine (show Tri _ [(0, _), (1, _)] _ _ _ from ?_)
  have hto := hd_ok hA.env hA.suf hA.good
  have hR := hA.env.rds ts hA.suf
  have hl := hA.good.ne
  have hle := hA.suf.length_le
  have hlk := hA.env.len
  have hbn := hA.env.bnd
  have hdp := hA.dep
  refine tri_seq (tri_region ?_); refine o_assignN rfl rfl ?_; refine tri_seq (tri_region ?_); refine o_move rfl rfl ?_; refine o_move rfl rfl ?_; refine o_callN (first := []) (cap := []) [pb] (by repeat (first | exact Nth.z | apply Nth.s)) rfl rfl rfl Tryz.call103 lend_box lend_box' (fun w1 h1 h2 => nextK 4 t pb a k0 T ts d w1 (hA.sub h1.chg (Cuts.refl hA.good) hA.dep h2) (by decide)) (fun ch hF => hF.elim) (fun u_ hu_ => ?_); refine o_assignN rfl rfl ?_; refine tri_ret ?_; refine end1 rfl rfl ?_
  exact fin_pturn () (rfl) (trivial) (fun w2 hw2 => hw2.sel [0] (by decide))
theorem kept_wds : kept = wds := by decide
theorem nm_eq (ts : List Tok) : ((decide ((hd ts).k = 1) && !decide ((hd ts).t ∈ wds)) && nameR (hd ts).t) = nmT ts := by
  unfold nmT nameOk
  rw [kept_wds]
  cases decide ((hd ts).k = 1) <;> cases decide ((hd ts).t ∈ wds) <;> cases nameR (hd ts).t <;> rfl
theorem mustP (t : List UInt8) (pb : Nat) (a : Addr) (k0 : Nat) (T ts : List Tok) (d : Nat) (w : World) (hA : At w pb a k0 T ts d) : Calls Tryz.prog 99 #[.pointer (some ⟨pb, 0, none⟩), .string (B t)] w (PTurn w [pb] (fun _ : Unit => .tuple #[]) (fun _ => [pC pb a k0 T (ts.drop 1) (d)]) (fun _ => atT 4 t ts = true) (fun ch => atT 4 t ts = false ∧ ch = stopCh (190, (hd ts).a))) := by
  refine calls_tri (args := [.pointer (some ⟨pb, 0, none⟩), .string (B t)]) (lent := [pb]) (H := [pC pb a k0 T ts d]) Tryz.func99 rfl Tryz.ntmps99 rfl hA.sat.cx ?_; refine (show Tri _ [(0, _), (1, _)] _ _ _ from ?_)
  have hto := hd_ok hA.env hA.suf hA.good
  have hR := hA.env.rds ts hA.suf
  have hl := hA.good.ne
  have hle := hA.suf.length_le
  have hlk := hA.env.len
  have hbn := hA.env.bnd
  have hdp := hA.dep
  refine tri_seq (tri_region ?_); refine o_move rfl rfl ?_; refine o_move rfl rfl ?_; refine o_callN (first := []) (cap := []) [pb] (by repeat (first | exact Nth.z | apply Nth.s)) rfl rfl rfl Tryz.call46 lend_box lend_box' (fun w1 h1 h2 => signP t pb a k0 T ts d w1 (hA.sub h1.chg (Cuts.refl hA.good) hA.dep h2)) (fun ch hF => hF.elim) (fun u_ hu_ => ?_); refine o_not rfl rfl ?_; refine triL_nilN ?_; refine tri_cond rfl (fun h0 => ?_) (fun h0 => ?_)
  · skip
    have h0 := not_true h0
    refine tri_slots [(0, _)] (.cons rfl (.nil _)) ?_
    rw [if_neg (by rw [h0]; decide)]
    refine tri_region ?_; refine o_move rfl rfl ?_
    refine o_callN (first := []) (cap := []) [pb] (by repeat (first | exact Nth.z | apply Nth.s)) rfl rfl rfl Tryz.call47 lend_box lend_box' (fun w1 h1 h2 => failK 190 pb a k0 T _ _ w1 (hA.sub h1.chg (Cuts.refl hA.good) hA.dep h2)) (fun ch hF => fin_panic ⟨h0, hF⟩) (fun j hj => hj.elim)
  · skip
    have h0 := not_false h0
    refine tri_skip ?_; refine end0n rfl ?_
    exact fin_pturn () (rfl) (h0) (fun w2 hw2 => by rw [if_pos h0] at hw2; exact hw2.sel [0] (by decide))
theorem namedP (pb : Nat) (a : Addr) (k0 : Nat) (T ts : List Tok) (d : Nat) (w : World) (hA : At w pb a k0 T ts d) : Calls Tryz.prog 97 #[.pointer (some ⟨pb, 0, none⟩)] w (PTurn w [pb] (fun _ : Unit => .bool (nmT ts)) (fun _ => [pC pb a k0 T (ts) (d)]) (fun _ => True) (fun _ => False)) := by
  refine calls_tri (args := [.pointer (some ⟨pb, 0, none⟩)]) (lent := [pb]) (H := [pC pb a k0 T ts d]) Tryz.func97 rfl Tryz.ntmps97 rfl hA.sat.cx ?_; refine (show Tri _ [(0, _)] _ _ _ from ?_)
  have hto := hd_ok hA.env hA.suf hA.good
  have hR := hA.env.rds ts hA.suf
  have hl := hA.good.ne
  have hle := hA.suf.length_le
  have hlk := hA.env.len
  have hbn := hA.env.bnd
  have hdp := hA.dep
  refine tri_seq (tri_region ?_); refine o_assignN rfl rfl ?_; refine tri_seq (tri_region ?_); refine o_move rfl rfl ?_; refine o_nilCheck rfl rfl ?_; refine o_field fo96_0 rfl rfl ?_; refine o_load agg58 (by repeat (first | exact Nth.z | apply Nth.s)) rfl rfl rfl ?_; refine o_idxS Tryz.underlying58 sz62 rfl rfl rfl (hR _ _ rfl rfl) (by omega) (by omega) (toksV_length _) (by decide) ?_; refine o_loadTk 0 agg62 sz62 rfl rfl (hR _ _ rfl rfl) (by omega) (by omega) ?_; refine o_alloc (Tok.cs Tok.zero) rfl zero62 rfl (fun b3 => ?_); refine o_storeBTk sz62 (by repeat (first | exact Nth.z | apply Nth.s)) rfl rfl rfl ?_; refine triL_nilN ?_; refine tri_seq ?_; refine tri_slots [(3, _)] (.cons rfl (.nil _)) ?_; refine tri_region ?_; refine o_field fo62_0 rfl rfl ?_; refine o_load agg3 (by repeat (first | exact Nth.z | apply Nth.s)) rfl rfl rfl ?_; refine o_eqlI rfl rfl rfl ?_; refine o_move rfl rfl ?_
  refine' triL_and [_, _, _, _] [(3, _)] (dj := 13) (dr := 17) rfl rfl (fun g1 => ?_) ⟨_, rfl, rfl, rfl, (.cons rfl (.nil _))⟩ rfl ?_
  rotate_left
  · skip
    refine o_field fo62_1 rfl rfl ?_; refine o_load agg9 (by repeat (first | exact Nth.z | apply Nth.s)) rfl rfl rfl ?_; refine o_callP (first := []) (cap := []) rfl rfl rfl Tryz.call69 (fun w1 h1 => wordK (hd ts).t w1) ?_; refine o_not rfl rfl ?_
    exact triL_nil (Piece.mk rfl rfl (.cons rfl (.nil _)) (fun _ h => h))
  refine o_move rfl rfl ?_
  refine' triL_and [_, _, _] [] (dj := 19) (dr := 22) rfl rfl (fun g2 => ?_) ⟨_, rfl, rfl, rfl, (.nil _)⟩ rfl ?_
  rotate_left
  · skip
    refine o_field fo62_1 rfl rfl ?_; refine o_load agg9 (by repeat (first | exact Nth.z | apply Nth.s)) rfl rfl rfl ?_; refine o_callP (first := []) (cap := []) rfl rfl rfl Tryz.call68 (fun w1 h1 => nameRk (hd ts).t w1 (by have := hto.len; omega)) ?_
    exact triL_nil (Piece.mk rfl rfl (.nil _) (fun _ h => h))
  refine o_assignN rfl rfl ?_; refine tri_ret ?_; refine end1 rfl rfl ?_
  exact fin_pturn () (by rw [← nm_eq]; rfl) (trivial) (fun w2 hw2 => hw2.sel [1] (by decide))
theorem nameP_ (pb : Nat) (a : Addr) (k0 : Nat) (T ts : List Tok) (d : Nat) (w : World) (hA : At w pb a k0 T ts d) : Calls Tryz.prog 92 #[.pointer (some ⟨pb, 0, none⟩)] w (PTurn w [pb] (fun _ : Unit => .string (B (hd ts).t)) (fun _ => [pC pb a k0 T (ts.drop 1) (d)]) (fun _ => nmT ts = true) (fun ch => nmT ts = false ∧ ch = stopCh (190, (hd ts).a))) := by
  refine calls_tri (args := [.pointer (some ⟨pb, 0, none⟩)]) (lent := [pb]) (H := [pC pb a k0 T ts d]) Tryz.func92 rfl Tryz.ntmps92 rfl hA.sat.cx ?_; refine (show Tri _ [(0, _)] _ _ _ from ?_)
  have hto := hd_ok hA.env hA.suf hA.good
  have hR := hA.env.rds ts hA.suf
  have hl := hA.good.ne
  have hle := hA.suf.length_le
  have hlk := hA.env.len
  have hbn := hA.env.bnd
  have hdp := hA.dep
  refine tri_seq (tri_region ?_); refine o_assignN rfl rfl ?_; refine tri_seq ?_; refine tri_seq (tri_region ?_); refine o_move rfl rfl ?_; refine o_callN (first := []) (cap := []) [pb] (by repeat (first | exact Nth.z | apply Nth.s)) rfl rfl rfl Tryz.call97 lend_box lend_box' (fun w1 h1 h2 => namedP pb a k0 T ts d w1 (hA.sub h1.chg (Cuts.refl hA.good) hA.dep h2)) (fun ch hF => hF.elim) (fun u_ hu_ => ?_); refine o_not rfl rfl ?_; refine triL_nilN ?_; refine tri_cond rfl (fun h0 => ?_) (fun h0 => ?_)
  · skip
    have h0 := not_true h0
    refine tri_slots [(0, _)] (.cons rfl (.nil _)) ?_; refine tri_region ?_; refine o_move rfl rfl ?_
    refine o_callN (first := []) (cap := []) [pb] (by repeat (first | exact Nth.z | apply Nth.s)) rfl rfl rfl Tryz.call47 lend_box lend_box' (fun w1 h1 h2 => failK 190 pb a k0 T _ _ w1 (hA.sub h1.chg (Cuts.refl hA.good) hA.dep h2)) (fun ch hF => fin_panic ⟨h0, hF⟩) (fun j hj => hj.elim)
  · skip
    have h0 := not_false h0
    have hg := hA.good.name h0
    have hl2 := hg.ne
    rw [List.length_drop] at hl2
    refine tri_skip ?_; refine thenQ_normal ?_; refine tri_seq ?_; refine tri_slots [(0, _)] (.cons rfl (.nil _)) ?_; refine tri_region ?_; refine o_move rfl rfl ?_; refine o_nilCheck rfl rfl ?_; refine o_field fo96_0 rfl rfl ?_; refine o_load agg58 (by repeat (first | exact Nth.z | apply Nth.s)) rfl rfl rfl ?_; refine o_idxS Tryz.underlying58 sz62 rfl rfl rfl (hR _ _ rfl rfl) (by omega) (by omega) (toksV_length _) (by decide) ?_; refine o_fieldAt fo62_1 rfl rfl (hR _ _ rfl rfl) (hd_k hA.good) ?_; refine o_loadR agg9 rfl rfl (hR _ _ rfl rfl) (hd_t hA.good) ?_; refine o_assignN rfl rfl ?_; refine tri_seq ?_; refine tri_slots [(3, _), (0, _)] (.cons rfl (.cons rfl (.nil _))) ?_; refine tri_region ?_; refine o_move rfl rfl ?_; refine o_move rfl rfl ?_; refine o_nilCheck rfl rfl ?_; refine o_field fo96_0 rfl rfl ?_; refine o_load agg58 (by repeat (first | exact Nth.z | apply Nth.s)) rfl rfl rfl ?_; refine o_sliceSl Tryz.underlying58 sz62 rfl rfl rfl (by omega) (by omega) (by omega) ?_; refine triL_num (v' := pSl a k0 T (ts.drop 1)) (cut_pS a k0 hA.suf hA.env.len (by omega)) ?_; refine o_nilCheck rfl rfl ?_; refine o_field fo96_0 rfl rfl ?_; refine o_store sz58 (by repeat (first | exact Nth.z | apply Nth.s)) rfl rfl rfl rfl rfl (Nat.le_of_ble_eq_true rfl) rfl ?_; refine triL_nilN ?_; refine tri_seq ?_; refine tri_slots [(3, _)] (.cons rfl (.nil _)) ?_; refine tri_region ?_; refine o_move rfl rfl ?_; refine o_assignN rfl rfl ?_; refine tri_ret ?_; refine end1 rfl rfl ?_
    exact fin_pturn () (rfl) (h0) (fun w2 hw2 => hw2.sel [0] (by decide))
theorem deeperP (t : Tok) (pb : Nat) (a : Addr) (k0 : Nat) (T ts : List Tok) (d : Nat) (w : World) (hA : At w pb a k0 T ts d) : Calls Tryz.prog 167 #[.pointer (some ⟨pb, 0, none⟩), aggT t] w (PTurn w [pb] (fun _ : Unit => .tuple #[]) (fun _ => [pC pb a k0 T (ts) (d + 1)]) (fun _ => d + 1 ≤ 24) (fun ch => 24 < d + 1 ∧ ch = stopCh (191, t.a))) := by
  refine calls_tri (args := [.pointer (some ⟨pb, 0, none⟩), aggT t]) (lent := [pb]) (H := [pC pb a k0 T ts d]) Tryz.func167 rfl Tryz.ntmps167 rfl hA.sat.cx ?_; refine (show Tri _ [(0, _), (1, _)] _ _ _ from ?_)
  have hto := hd_ok hA.env hA.suf hA.good
  have hR := hA.env.rds ts hA.suf
  have hl := hA.good.ne
  have hle := hA.suf.length_le
  have hlk := hA.env.len
  have hbn := hA.env.bnd
  have hdp := hA.dep
  refine tri_seq (tri_region ?_); refine o_box (Tok.cs _) rfl rfl rfl (fun b3 => ?_); refine triL_nilN ?_; refine tri_seq (tri_region ?_); refine o_move rfl rfl ?_; refine o_nilCheck rfl rfl ?_; refine o_field fo96_1 rfl rfl ?_; refine o_load agg3 (by repeat (first | exact Nth.z | apply Nth.s)) rfl rfl rfl ?_; refine o_addN rfl rfl rfl (by omega) ?_; refine o_nilCheck rfl rfl ?_; refine o_field fo96_1 rfl rfl ?_; refine o_store sz3 (by repeat (first | exact Nth.z | apply Nth.s)) rfl rfl rfl rfl rfl (Nat.le_of_ble_eq_true rfl) rfl ?_; refine triL_nilN ?_; refine tri_seq ?_; refine tri_slots [(3, _), (0, _)] (.cons rfl (.cons rfl (.nil _))) ?_; refine tri_region ?_; refine o_move rfl rfl ?_; refine o_nilCheck rfl rfl ?_; refine o_field fo96_1 rfl rfl ?_; refine o_load agg3 (by repeat (first | exact Nth.z | apply Nth.s)) rfl rfl rfl ?_; refine o_gtr rfl rfl rfl ?_; refine triL_nilN ?_; refine tri_if rfl (fun h0 => ?_) (fun h0 => ?_)
  · skip
    refine tri_slots [(3, _)] (.cons rfl (.nil _)) ?_; refine tri_region ?_; refine o_field fo62_2 rfl rfl ?_; refine o_load agg3 (by repeat (first | exact Nth.z | apply Nth.s)) rfl rfl rfl ?_; refine o_build (built55_0_1 _ _) rfl rfl ?_; refine o_build (built92_0 _ _) rfl rfl ?_; refine o_iface Tryz.underlying92 rfl rfl rfl ?_; refine o_panic rfl rfl ?_
    exact fin_panic ⟨by omega, rfl⟩
  · skip
    refine tri_skip ?_; refine end0n rfl ?_
    exact fin_pturn () (rfl) (by omega) (fun w2 hw2 => hw2.sel [1] (by decide))
end Go.Proofs.YtjbpkcbefmpfgaaGreatDoor
namespace Go.Proofs.YtjbpkcbefmpfgaaGreatDoor
open Go.WK Go.RowKit 
theorem zero30 : (Tryz.prog.info? 30).map (·.zero) = some (some (.agg #[.int .i64 0, .int .i64 0, .int .i64 0, .string .empty, .string .empty, .string .empty, .int .i64 0, .slice none 0 0])) := by kernel_rfl
theorem agg27 : aggB Tryz.prog 27 = some true := by kernel_rfl
theorem sz27 : szB Tryz.prog 27 = some 3 := by kernel_rfl
theorem built30_0_1 (x0 : Int) (x1 : Val) : Tryz.prog.built 30 [(0, .int .i64 x0), (1, .agg (Val.cs x1).toArray)] = some ([.int .i64 x0, .int .i64 x1.k, .int .i64 x1.n, .string (B x1.s), .string .empty, .string .empty, .int .i64 0, .slice none 0 0] : List Value).toArray := by kernel_rfl
theorem sz30 : szB Tryz.prog 30 = some 8 := by kernel_rfl
theorem agg30 : aggB Tryz.prog 30 = some true := by kernel_rfl
theorem built198a : ∀ (x0 x1 x2 : Tok), Tryz.prog.built 198 [(0, .agg (Tok.cs x0).toArray), (1, .agg (Tok.cs x1).toArray), (2, .agg (Tok.cs x2).toArray)] = some (toksV [x0, x1, x2]).toArray := by intros; kernel_rfl
theorem zero198 : (Tryz.prog.info? 198).map (·.zero) = some (some (.agg #[.int .i64 0, .string .empty, .int .i64 0, .int .i64 0, .string .empty, .int .i64 0, .int .i64 0, .string .empty, .int .i64 0])) := by kernel_rfl
theorem bval176_0_1_2 (x : Int) (y : List UInt8) (z : Int) : Tryz.prog.built 176 [(0, .int .i64 x), (1, .string (B y)), (2, .int .i64 z)] = some (Tok.cs ⟨x, y, z⟩).toArray := by kernel_rfl
theorem sz198 : szB Tryz.prog 198 = some 9 := by kernel_rfl
theorem agg198 : aggB Tryz.prog 198 = some true := by kernel_rfl
theorem built196a : ∀ (x0 x1 x2 x3 x4 x5 : Tok), Tryz.prog.built 196 [(0, .agg (Tok.cs x0).toArray), (1, .agg (Tok.cs x1).toArray), (2, .agg (Tok.cs x2).toArray), (3, .agg (Tok.cs x3).toArray), (4, .agg (Tok.cs x4).toArray), (5, .agg (Tok.cs x5).toArray)] = some (toksV [x0, x1, x2, x3, x4, x5]).toArray := by intros; kernel_rfl
theorem zero196 : (Tryz.prog.info? 196).map (·.zero) = some (some (.agg #[.int .i64 0, .string .empty, .int .i64 0, .int .i64 0, .string .empty, .int .i64 0, .int .i64 0, .string .empty, .int .i64 0, .int .i64 0, .string .empty, .int .i64 0, .int .i64 0, .string .empty, .int .i64 0, .int .i64 0, .string .empty, .int .i64 0])) := by kernel_rfl
theorem sz196 : szB Tryz.prog 196 = some 18 := by kernel_rfl
theorem agg196 : aggB Tryz.prog 196 = some true := by kernel_rfl
theorem zs30 : (Tryz.prog.info? 30).map (fun i => (i.zero, i.size)) = some (some (.agg #[.int .i64 0, .int .i64 0, .int .i64 0, .string .empty, .string .empty, .string .empty, .int .i64 0, .slice none 0 0]), 8) := by kernel_rfl
theorem sz176 : szB Tryz.prog 176 = some 3 := by kernel_rfl
theorem agg176 : aggB Tryz.prog 176 = some true := by kernel_rfl
theorem zero176 : (Tryz.prog.info? 176).map (·.zero) = some (some (.agg #[.int .i64 0, .string .empty, .int .i64 0])) := by kernel_rfl
theorem fo176_0 : fieldB Tryz.prog 176 0 = some 0 := by kernel_rfl
theorem fo176_1 : fieldB Tryz.prog 176 1 = some 1 := by kernel_rfl
theorem fo176_2 : fieldB Tryz.prog 176 2 = some 2 := by kernel_rfl
theorem built30_0_5 (x0 : Int) (A5 : Option Addr) (n5 c5 : Nat) : Tryz.prog.built 30 [(0, .int .i64 x0), (5, .slice A5 n5 c5)] = some ([.int .i64 x0, .int .i64 0, .int .i64 0, .string .empty, .string .empty, .string .empty, .int .i64 0, .slice A5 n5 c5] : List Value).toArray := by kernel_rfl
theorem wordsP (t : List UInt8) (X : Option Addr) (c : Nat) (pb : Nat) (a : Addr) (k0 : Nat) (T ts : List Tok) (d : Nat) (w : World) (hA : At w pb a k0 T ts d) (hx : Rd w X [.string (B t)]) (hxb : ∀ a, X = some a → a.block ≠ pb) : Calls Tryz.prog 93 #[.pointer (some ⟨pb, 0, none⟩), .slice X 1 c] w (PTurn w [pb] (fun _ : Unit => .tuple #[]) (fun _ => [pC pb a k0 T (ts.drop 1) (d)]) (fun _ => atT 1 t ts = true) (fun ch => atT 1 t ts = false ∧ ch = stopCh (190, (hd ts).a))) := by
  refine calls_tri (args := [.pointer (some ⟨pb, 0, none⟩), .slice X 1 c]) (lent := [pb]) (H := [pC pb a k0 T ts d]) Tryz.func93 rfl Tryz.ntmps93 rfl hA.sat.cx ?_; refine (show Tri _ [(0, _), (1, _)] _ _ _ from ?_)
  have hto := hd_ok hA.env hA.suf hA.good
  have hR := hA.env.rds ts hA.suf
  have hl := hA.good.ne
  have hle := hA.suf.length_le
  have hlk := hA.env.len
  have hbn := hA.env.bnd
  have hdp := hA.dep
  have hX : ∀ cx H, cx.w0 = w → cx.lent = [pb] → RdS cx H X [.string (B t)] := fun cx H q1 q2 => RdS.lent (by rw [q1]; exact hx) (fun b hb => by rw [q2]; simpa using hxb b hb)
  refine tri_seq (tri_region ?_); refine o_move rfl rfl ?_; refine o_lenS Tryz.underlying23 rfl rfl ?_; refine o_move rfl rfl ?_; refine triL_nilN ?_; refine tri_block ?_; refine tri_loop (ι := Nat) (F := fun i => [(0, .pointer (some ⟨pb, 0, none⟩)), (6, .slice X 1 c), (7, .int .i64 1), (8, .int .i64 (i : Int))]) (HH := fun i => [pC pb a k0 T (if i = 0 then ts else ts.drop 1) d]) (Pu := fun i => i ≤ 1 ∧ (i = 1 → atT 1 t ts = true)) (μ := fun i => 1 - i) (0) (.cons rfl (.cons rfl (.cons rfl (.cons rfl (.nil _))))) (fun _ h => h) (⟨by omega, by intro h; cases h⟩) (fun i hi => ?_); refine tri_seq (tri_region ?_); refine o_lss rfl rfl rfl ?_; refine triL_nilN ?_; refine tri_seq ?_; refine tri_if rfl (fun h0 => ?_) (fun h0 => ?_)
  · skip
    refine tri_skip ?_; refine thenQ_normal ?_; refine tri_seq ?_; refine tri_block ?_; refine tri_seq ?_
    obtain rfl : i = 0 := by omega
    rw [if_pos rfl]
    refine tri_region ?_; refine o_idxS Tryz.underlying23 sz9 rfl rfl rfl (hX _ _ rfl rfl) (by omega) (by omega) rfl (by decide) ?_; refine o_loadR agg9 rfl rfl (hX _ _ rfl rfl) rfl ?_; refine o_assignN rfl rfl ?_; refine tri_seq (tri_region ?_); refine o_move rfl rfl ?_; refine o_move rfl rfl ?_; refine o_callN (first := []) (cap := []) [pb] (by repeat (first | exact Nth.z | apply Nth.s)) rfl rfl rfl Tryz.call90 lend_box lend_box' (fun w1 h1 h2 => wordP t pb a k0 T ts d w1 (hA.sub h1.chg (Cuts.refl hA.good) hA.dep h2)) (fun ch hF => hF.elim) (fun u_ hu_ => ?_); refine o_not rfl rfl ?_; refine triL_nilN ?_; refine tri_cond rfl (fun h1 => ?_) (fun h1 => ?_)
    · skip
      have h1 := not_true h1
      refine tri_slots [(0, _), (6, _), (7, _), (8, _)] (.cons rfl (.cons rfl (.cons rfl (.cons rfl (.nil _))))) ?_
      rw [if_neg (by rw [h1]; decide)]
      refine tri_region ?_; refine o_move rfl rfl ?_
      refine o_callN (first := []) (cap := []) [pb] (by repeat (first | exact Nth.z | apply Nth.s)) rfl rfl rfl Tryz.call47 lend_box lend_box' (fun w1 h1 h2 => failK 190 pb a k0 T _ _ w1 (hA.sub h1.chg (Cuts.refl hA.good) hA.dep h2)) (fun ch hF => fin_panic ⟨h1, hF⟩) (fun j hj => hj.elim)
    · skip
      have h1 := not_false h1
      refine tri_skip ?_; refine blockQ_normal ?_; refine thenQ_normal ?_; refine tri_slots [(0, _), (6, _), (7, _), (8, _)] (.cons rfl (.cons rfl (.cons rfl (.cons rfl (.nil _))))) ?_; refine tri_region ?_; refine o_addN rfl rfl rfl (by omega) ?_; refine o_move rfl rfl ?_; refine triL_nilN ?_
      exact ⟨1, (.cons rfl (.cons rfl (.cons rfl (.cons rfl (.nil _))))), (fun w2 hw2 => by rw [if_pos h1] at hw2; rw [if_neg (by decide)]; exact hw2), ⟨Nat.le_refl _, fun _ => h1⟩, by omega⟩
  · skip
    refine tri_exit ?_; refine thenQ_exit ?_; refine thenQ_exit ?_; refine blockQ_here ?_; refine end0n rfl ?_
    exact fin_pturn () (rfl) (hi.2 (by omega)) (fun w2 hw2 => by rw [if_neg (by omega)] at hw2; exact hw2.sel [0] (by decide))
theorem constP (v : Val) (w : World)  : Calls Tryz.prog 211 #[aggV v] w (Pure w (.agg ([.int .i64 1, .int .i64 (v).k, .int .i64 (v).n, .string (B (v).s), .string (B []), .string (B []), .int .i64 0, .slice none 0 0] : List Value).toArray)) := by
  refine calls_tri (args := [aggV v]) (lent := []) (H := []) Tryz.func211 rfl Tryz.ntmps211 rfl (Sat.start _ _ _ _) ?_; refine (show Tri _ [(0, _)] _ _ _ from ?_); refine tri_seq (tri_region ?_); refine o_box (Val.cs _) rfl rfl rfl (fun b1 => ?_); refine o_alloc _ rfl zero30 rfl (fun b2 => ?_); refine triL_nilN ?_; refine tri_seq (tri_region ?_); refine o_loadBV agg27 sz27 (by repeat (first | exact Nth.z | apply Nth.s)) rfl rfl ?_; refine o_build (built30_0_1 _ _) rfl rfl ?_; refine o_store sz30 (by repeat (first | exact Nth.z | apply Nth.s)) rfl rfl rfl rfl rfl (Nat.le_of_ble_eq_true rfl) rfl ?_; refine triL_nilN ?_; refine tri_ret ?_; refine endC1 rfl agg30 sz30 (by repeat (first | exact Nth.z | apply Nth.s)) rfl rfl ?_
  exact fun w1 hw1 => ⟨rfl, hw1.chg⟩
theorem sumsP  (w : World)  : Calls Tryz.prog 151 #[] w (Pure w (.agg (toksV sumO).toArray)) := by
  refine calls_tri (args := []) (lent := []) (H := []) Tryz.func151 rfl Tryz.ntmps151 rfl (Sat.start _ _ _ _) ?_; refine (show Tri _ [] _ _ _ from ?_); refine tri_seq (tri_region ?_); refine o_alloc _ rfl zero198 rfl (fun b0 => ?_); refine triL_nilN ?_; refine tri_seq (tri_region ?_); refine o_build (bval176_0_1_2 _ _ _) rfl rfl ?_; refine o_build (bval176_0_1_2 _ _ _) rfl rfl ?_; refine o_build (bval176_0_1_2 _ _ _) rfl rfl ?_; refine o_build (built198a _ _ _) rfl rfl ?_; refine o_store sz198 (by repeat (first | exact Nth.z | apply Nth.s)) rfl rfl rfl rfl rfl (Nat.le_of_ble_eq_true rfl) rfl ?_; refine triL_nilN ?_; refine tri_ret ?_; refine endC1 rfl agg198 sz198 (by repeat (first | exact Nth.z | apply Nth.s)) rfl rfl ?_
  exact fun w1 hw1 => ⟨rfl, hw1.chg⟩
theorem productsP  (w : World)  : Calls Tryz.prog 152 #[] w (Pure w (.agg (toksV mulO).toArray)) := by
  refine calls_tri (args := []) (lent := []) (H := []) Tryz.func152 rfl Tryz.ntmps152 rfl (Sat.start _ _ _ _) ?_; refine (show Tri _ [] _ _ _ from ?_); refine tri_seq (tri_region ?_); refine o_alloc _ rfl zero198 rfl (fun b0 => ?_); refine triL_nilN ?_; refine tri_seq (tri_region ?_); refine o_build (bval176_0_1_2 _ _ _) rfl rfl ?_; refine o_build (bval176_0_1_2 _ _ _) rfl rfl ?_; refine o_build (bval176_0_1_2 _ _ _) rfl rfl ?_; refine o_build (built198a _ _ _) rfl rfl ?_; refine o_store sz198 (by repeat (first | exact Nth.z | apply Nth.s)) rfl rfl rfl rfl rfl (Nat.le_of_ble_eq_true rfl) rfl ?_; refine triL_nilN ?_; refine tri_ret ?_; refine endC1 rfl agg198 sz198 (by repeat (first | exact Nth.z | apply Nth.s)) rfl rfl ?_
  exact fun w1 hw1 => ⟨rfl, hw1.chg⟩
theorem comparisonsP  (w : World)  : Calls Tryz.prog 150 #[] w (Pure w (.agg (toksV cmpO).toArray)) := by
  refine calls_tri (args := []) (lent := []) (H := []) Tryz.func150 rfl Tryz.ntmps150 rfl (Sat.start _ _ _ _) ?_; refine (show Tri _ [] _ _ _ from ?_); refine tri_seq (tri_region ?_); refine o_alloc _ rfl zero196 rfl (fun b0 => ?_); refine triL_nilN ?_; refine tri_seq (tri_region ?_); refine o_build (bval176_0_1_2 _ _ _) rfl rfl ?_; refine o_build (bval176_0_1_2 _ _ _) rfl rfl ?_; refine o_build (bval176_0_1_2 _ _ _) rfl rfl ?_; refine o_build (bval176_0_1_2 _ _ _) rfl rfl ?_; refine o_build (bval176_0_1_2 _ _ _) rfl rfl ?_; refine o_build (bval176_0_1_2 _ _ _) rfl rfl ?_; refine o_build (built196a _ _ _ _ _ _) rfl rfl ?_; refine o_store sz196 (by repeat (first | exact Nth.z | apply Nth.s)) rfl rfl rfl rfl rfl (Nat.le_of_ble_eq_true rfl) rfl ?_; refine triL_nilN ?_; refine tri_ret ?_; refine endC1 rfl agg196 sz196 (by repeat (first | exact Nth.z | apply Nth.s)) rfl rfl ?_
  exact fun w1 hw1 => ⟨rfl, hw1.chg⟩
theorem rowK (fst cap : List Value) (q : Nat) (one : List Tok → PX Ex) (l : List Opr) (X : Option Addr) (c : Nat) (pb : Nat) (a : Addr) (k0 : Nat) (T ts : List Tok) (d : Nat) (w : World) (hA : At w pb a k0 T ts d) (hcf : ∀ args w, (callFunc q args).run Tryz.prog w = .ok (.enter q args) w) (hone : ∀ us w', Cuts ts us → At w' pb a k0 T us d → Chg [pb] w w' → Calls Tryz.prog q (fst ++ [] ++ cap).toArray w' (XT w' pb a k0 T d (one us))) (htk : ∀ us, WK.Good us → Takes us (one us)) (hx : Rd w X (toksV l)) (hxb : ∀ a, X = some a → a.block ≠ pb) (hl5 : ∀ o ∈ l, o.k ≠ 5) (hl6 : l.length ≤ 6) : Calls Tryz.prog 139 #[.pointer (some ⟨pb, 0, none⟩), .slice X l.length c, .func (.func q) fst.toArray cap.toArray] w (XT w pb a k0 T d (rowP one l ts)) := by
  refine calls_tri (args := [.pointer (some ⟨pb, 0, none⟩), .slice X l.length c, .func (.func q) fst.toArray cap.toArray]) (lent := [pb]) (H := [pC pb a k0 T ts d]) Tryz.func139 rfl Tryz.ntmps139 rfl hA.sat.cx ?_; refine (show Tri _ [(0, _), (1, _), (2, _)] _ _ _ from ?_)
  have hto := hd_ok hA.env hA.suf hA.good
  have hR := hA.env.rds ts hA.suf
  have hl0 := hA.good.ne
  have hle := hA.suf.length_le
  have hlk := hA.env.len
  have hbn := hA.env.bnd
  have hdp := hA.dep
  have hX : ∀ cx H, cx.w0 = w → cx.lent = [pb] → RdS cx H X (toksV l) := fun cx H q1 q2 => RdS.lent (by rw [q1]; exact hx) (fun b hb => by rw [q2]; simpa using hxb b hb)
  refine tri_seq (tri_region ?_); refine o_alloc _ rfl zero30 rfl (fun b6 => ?_); refine triL_nilN ?_; refine tri_scopeL 0 (ι := XR × Nat) (fun j => [(0, .pointer (some ⟨pb, 0, none⟩)), (1, .slice X l.length c), (2, .func (.func q) fst.toArray cap.toArray), (6, .pointer (some ⟨b6, 0, none⟩)), (7, .pointer (some ⟨j.2, 0, none⟩))]) (fun j => [box j.2 30 j.1.cs, pC pb a k0 T j.1.us d, treeC j.1.bl j.1.e j.1.cs, box b6 30 [.int .i64 0, .int .i64 0, .int .i64 0, .string .empty, .string .empty, .string .empty, .int .i64 0, .slice none 0 0]]) (fun j => rowP one l ts = rowL one l j.1.us.length j.1.e j.1.us ∧ Cuts ts j.1.us ∧ XC j.1.cs) (fun j => j.1.us.length) rfl ?_ (fun j hj => ?_)
  · skip
    refine tri_region ?_; refine o_move rfl rfl ?_; refine o_callN (first := fst) (cap := cap) [pb] (by repeat (first | exact Nth.z | apply Nth.s)) rfl rfl rfl hcf lend_box lend_box' (fun w1 h1 h2 => hone ts w1 (Cuts.refl hA.good) (hA.sub h1.chg (Cuts.refl hA.good) hA.dep h2) h1.chg) (fun ch ⟨x, hx1, hx2⟩ => fin_panic ⟨x, by rw [rowP, hx1], hx2⟩) (fun j hj => ?_); refine o_alloc _ rfl zero30 rfl (fun b7 => ?_); refine o_storeX rfl hj.2 sz30 (by repeat (first | exact Nth.z | apply Nth.s)) rfl rfl rfl ?_; refine triL_nilN ?_
    exact ⟨(j, b7), (.cons rfl (.cons rfl (.cons rfl (.cons rfl (.cons rfl (.nil _)))))), (fun w2 hw2 => hw2.sel [0, 3, 1, 2] (by decide)), ⟨by rw [rowP, hj.1], ((htk ts hA.good) _ _ hj.1).1, hj.2⟩⟩
  · skip
    obtain ⟨hj1, hj2, hj3⟩ := hj
    refine tri_seq ?_; refine tri_seq (tri_region ?_); refine o_move rfl rfl ?_; refine o_lenS Tryz.underlying177 rfl rfl ?_; refine o_move rfl rfl ?_; refine triL_nilN ?_; refine tri_block ?_; refine tri_loop (ι := Nat) (F := fun i => [(0, .pointer (some ⟨pb, 0, none⟩)), (1, .slice X l.length c), (2, .func (.func q) fst.toArray cap.toArray), (6, .pointer (some ⟨b6, 0, none⟩)), (7, .pointer (some ⟨j.2, 0, none⟩)), (13, .slice X l.length c), (14, .int .i64 (l.length : Int)), (15, .int .i64 (i : Int))]) (HH := fun i => [box j.2 30 j.1.cs, pC pb a k0 T j.1.us d, treeC j.1.bl j.1.e j.1.cs, box b6 30 [.int .i64 0, .int .i64 0, .int .i64 0, .string .empty, .string .empty, .string .empty, .int .i64 0, .slice none 0 0]]) (Pu := fun i => i ≤ l.length ∧ findO l j.1.us = findO (l.drop i) j.1.us) (μ := fun i => l.length - i) (0) (.cons rfl (.cons rfl (.cons rfl (.cons rfl (.cons rfl (.cons rfl (.cons rfl (.cons rfl (.nil _))))))))) (fun _ h => h) (⟨by omega, rfl⟩) (fun i hi => ?_); refine tri_seq (tri_region ?_); refine o_lss rfl rfl rfl ?_; refine triL_nilN ?_; refine tri_seq ?_; refine tri_if rfl (fun h1 => ?_) (fun h1 => ?_)
    · skip
      have hil : i < l.length := by omega
      refine tri_skip ?_; refine thenQ_normal ?_; refine tri_seq ?_; refine tri_block ?_; refine tri_seq (tri_region ?_); refine o_idxS Tryz.underlying177 sz176 rfl rfl rfl (hX _ _ rfl rfl) (by omega) (by omega) (toksV_length _) (by decide) ?_; refine o_loadTk i agg176 sz176 rfl rfl (hX _ _ rfl rfl) (by omega) (by omega) ?_; refine o_alloc (Tok.cs Tok.zero) rfl zero176 rfl (fun b9 => ?_); refine o_storeBTk sz176 (by repeat (first | exact Nth.z | apply Nth.s)) rfl rfl rfl ?_; refine triL_nilN ?_; refine tri_seq (tri_region ?_); refine o_move rfl rfl ?_; refine o_field fo176_0 rfl rfl ?_; refine o_load agg3 (by repeat (first | exact Nth.z | apply Nth.s)) rfl rfl rfl ?_; refine o_field fo176_1 rfl rfl ?_; refine o_load agg9 (by repeat (first | exact Nth.z | apply Nth.s)) rfl rfl rfl ?_; refine o_callN (first := []) (cap := []) [pb] (by repeat (first | exact Nth.z | apply Nth.s)) rfl rfl rfl Tryz.call103 lend_box lend_box' (fun w1 h1 h2 => nextK (l.getD i Tok.zero).k (l.getD i Tok.zero).t pb a k0 T j.1.us d w1 (hA.sub h1.chg hj2 hA.dep h2) (hl5 _ (getD_memT l i hil))) (fun ch hF => hF.elim) (fun u_ hu_ => ?_); refine triL_nilN ?_; refine tri_cond rfl (fun h2 => ?_) (fun h2 => ?_)
      · skip
        have hit := findO_hit hil hi.2 h2
        have hcu : Cuts ts (j.1.us.drop 1) := hj2.trans ⟨List.drop_suffix 1 _, findO_good hl5 hj2.2 hit⟩
        refine tri_seq ?_; refine tri_slots [(9, _), (0, _), (1, _), (2, _), (6, _), (7, _)] (.cons rfl (.cons rfl (.cons rfl (.cons rfl (.cons rfl (.cons rfl (.nil _))))))) ?_
        rw [if_pos h2]
        refine tri_region ?_; refine o_move rfl rfl ?_; refine o_callN (first := fst) (cap := cap) [pb] (by repeat (first | exact Nth.z | apply Nth.s)) rfl rfl rfl hcf lend_box lend_box' (fun w1 h1 h2 => hone (j.1.us.drop 1) w1 hcu (hA.sub h1.chg hcu hA.dep h2) h1.chg) (fun ch ⟨x, hx1, hx2⟩ => fin_panic ⟨x, by rw [hj1]; exact rowL_err hj2.2 hit hx1, hx2⟩) (fun g hg => ?_); refine o_alloc _ rfl zero30 rfl (fun b10 => ?_); refine o_storeX rfl hg.2 sz30 (by repeat (first | exact Nth.z | apply Nth.s)) rfl rfl rfl ?_; refine triL_nilN ?_; refine tri_seq (tri_region ?_); refine o_field fo176_2 rfl rfl ?_; refine o_load agg3 (by repeat (first | exact Nth.z | apply Nth.s)) rfl rfl rfl ?_; refine o_loadX hj3 agg30 sz30 (by repeat (first | exact Nth.z | apply Nth.s)) rfl rfl ?_; refine o_loadX hg.2 agg30 sz30 (by repeat (first | exact Nth.z | apply Nth.s)) rfl rfl ?_; refine o_litX2 hj3 hg.2 Tryz.underlying28 zs30 rfl rfl rfl (fun b31 => ?_); refine o_build (built30_0_5 _ _ _ _) rfl rfl ?_; refine o_storeX hj3.len ⟨rfl, rfl⟩ sz30 (by repeat (first | exact Nth.z | apply Nth.s)) rfl rfl rfl ?_; refine triL_nilN ?_; refine tri_goto ?_; refine blockQ_goto ?_; refine thenQ_goto ?_; refine thenQ_goto ?_; refine blockQ_goto ?_; refine thenQ_goto ?_; refine scopeJ_here ?_
        have htq := htk _ hcu.2 g.e g.us hg.1
        have hlt2 := hj2.2.lt
        exact ⟨(⟨bin (l.getD i Tok.zero).a j.1.e g.e, g.us, _, _⟩, j.2), (.cons rfl (.cons rfl (.cons rfl (.cons rfl (.cons rfl (.nil _)))))), (fun w2 hw2 => (Sat.node2 _ (hw2.sel [0, 6, 2, 4, 5, 7] (by decide)) (Nat.le_refl 2)).sel [1, 2, 0, 3] (by decide)), ⟨by rw [hj1]; exact rowL_some hl5 htk hj2.2 hit hg.1, hcu.trans htq.1, ⟨rfl, rfl⟩⟩, (by simp only; omega)⟩
      · skip
        refine tri_skip ?_; refine blockQ_normal ?_; refine thenQ_normal ?_; refine tri_slots [(0, _), (1, _), (2, _), (6, _), (7, _), (13, _), (14, _), (15, _)] (.cons rfl (.cons rfl (.cons rfl (.cons rfl (.cons rfl (.cons rfl (.cons rfl (.cons rfl (.nil _))))))))) ?_; refine tri_region ?_; refine o_addN rfl rfl rfl (by omega) ?_; refine o_move rfl rfl ?_; refine triL_nilN ?_
        exact ⟨i + 1, (.cons rfl (.cons rfl (.cons rfl (.cons rfl (.cons rfl (.cons rfl (.cons rfl (.cons rfl (.nil _))))))))), (fun w2 hw2 => by rw [if_neg (by rw [h2]; decide)] at hw2; exact hw2.tail), ⟨by omega, findO_miss hil hi.2 h2⟩, by omega⟩
    · skip
      have hnone := findO_end (l := l) (i := i) (by omega) hi.2
      refine tri_exit ?_; refine thenQ_exit ?_; refine thenQ_exit ?_; refine blockQ_here ?_; refine thenQ_normal ?_; refine tri_seq ?_; refine tri_slots [(6, _), (7, _)] (.cons rfl (.cons rfl (.nil _))) ?_; refine tri_region ?_; refine o_loadX hj3 agg30 sz30 (by repeat (first | exact Nth.z | apply Nth.s)) rfl rfl ?_; refine o_storeX rfl hj3 sz30 (by repeat (first | exact Nth.z | apply Nth.s)) rfl rfl rfl ?_; refine triL_nilN ?_; refine tri_ret ?_; refine scopeJ_ret ?_; refine endC1 rfl agg30 sz30 (by repeat (first | exact Nth.z | apply Nth.s)) rfl hj3.len ?_
      exact fin_pturn (J := XR) j.1 rfl ⟨by rw [hj1]; exact rowL_none hnone, hj3⟩ (fun w2 hw2 => hw2.sel [1, 2] (by decide))
end Go.Proofs.YtjbpkcbefmpfgaaGreatDoor
namespace Go.Proofs.YtjbpkcbefmpfgaaGreatDoor
open Go.WK Go.RowKit 
theorem agg94 : aggB Tryz.prog 94 = some false := by kernel_rfl
theorem zs176 : (Tryz.prog.info? 176).map (fun i => (i.zero, i.size)) = some (some (.agg #[.int .i64 0, .string .empty, .int .i64 0]), 3) := by kernel_rfl
theorem bval27_0_1 (x : Int) (y : Int) : Tryz.prog.built 27 [(0, .int .i64 x), (1, .int .i64 y)] = some (Val.cs ⟨x, y, []⟩).toArray := by kernel_rfl
theorem bval27_0_2 (x : Int) (z : List UInt8) : Tryz.prog.built 27 [(0, .int .i64 x), (2, .string (B z))] = some (Val.cs ⟨x, 0, z⟩).toArray := by kernel_rfl
theorem bval27  : Tryz.prog.built 27 [] = some (Val.cs ⟨0, 0, []⟩).toArray := by kernel_rfl
theorem bval27_0 (x : Int) : Tryz.prog.built 27 [(0, .int .i64 x)] = some (Val.cs ⟨x, 0, []⟩).toArray := by kernel_rfl
theorem built30_0_3 (x0 : Int) (x3 : ByteArray) : Tryz.prog.built 30 [(0, .int .i64 x0), (3, .string x3)] = some ([.int .i64 x0, .int .i64 0, .int .i64 0, .string .empty, .string .empty, .string x3, .int .i64 0, .slice none 0 0] : List Value).toArray := by kernel_rfl
theorem fo30_3 : fieldB Tryz.prog 30 3 = some 5 := by kernel_rfl
theorem fo30_2 : fieldB Tryz.prog 30 2 = some 4 := by kernel_rfl
theorem orK (f : Nat) (ih : XAll Tryz.prog f) (pb : Nat) (a : Addr) (k0 : Nat) (T ts : List Tok) (d : Nat) (w : World) (hA : At w pb a k0 T ts d) (hf : 8 * ts.length + 8 ≤ f + 1) : Calls Tryz.prog 100 #[.pointer (some ⟨pb, 0, none⟩)] w (XT w pb a k0 T d (exP (f + 1) 1 d ts)) := by
  refine calls_tri (args := [.pointer (some ⟨pb, 0, none⟩)]) (lent := [pb]) (H := [pC pb a k0 T ts d]) Tryz.func100 rfl Tryz.ntmps100 rfl hA.sat.cx ?_; refine (show Tri _ [(0, _)] _ _ _ from ?_)
  have hto := hd_ok hA.env hA.suf hA.good
  have hR := hA.env.rds ts hA.suf
  have hl := hA.good.ne
  have hle := hA.suf.length_le
  have hlk := hA.env.len
  have hbn := hA.env.bnd
  have hdp := hA.dep
  rw [exP1]
  refine tri_seq (tri_region ?_); refine o_box _ rfl rfl rfl (fun b1 => ?_); refine o_alloc _ rfl zero30 rfl (fun b2 => ?_); refine triL_nilN ?_; refine tri_seq (tri_region ?_); refine o_load agg94 (by repeat (first | exact Nth.z | apply Nth.s)) rfl rfl rfl ?_; refine o_build (bval176_0_1_2 _ _ _) rfl rfl ?_; refine o_lit1 Tryz.underlying177 zs176 rfl rfl rfl rfl rfl (by decide) (by decide) (fun b5 => ?_); refine o_makeFunc rfl rfl rfl ?_; refine o_callN (first := []) (cap := []) [pb] (by repeat (first | exact Nth.z | apply Nth.s)) rfl rfl rfl Tryz.call139 lend_box lend_box' (fun w1 h1 h2 => rowK [] [.pointer (some ⟨b1, 0, none⟩)] 140 (exP f 2 d) orO (some ⟨b5, 0, none⟩) 1 pb a k0 T ts d w1 (hA.sub h1.chg (Cuts.refl hA.good) hA.dep h2) Tryz.call140 (fun us w' hcu hat hch => ih.l2 b1 pb a k0 T us d w' hat ((RdS.box (.s (.s .z)) w1 h1).chg hch (by intro a' ha; cases ha; simp only [List.mem_singleton]; exact h1.neB (.s (.s .z)) (.s (.s (.s .z))) (by decide) rfl)) (h1.neB (.s (.s .z)) (.s (.s (.s .z))) (by decide) rfl) (by have := hcu.1.length_le; omega)) (fun us hu => exP_takes f 2 d us hu) (RdS.row .z w1 h1) (by intro a' ha; cases ha; exact h1.neB .z (.s (.s (.s .z))) (by decide) rfl) (opr_ok _ (by simp)) (by decide)) (fun ch ⟨x, hx1, hx2⟩ => fin_panic ⟨x, hx1, hx2⟩) (fun j hj => ?_); refine o_storeX rfl hj.2 sz30 (by repeat (first | exact Nth.z | apply Nth.s)) rfl rfl rfl ?_; refine triL_nilN ?_; refine tri_ret ?_; refine endC1 rfl agg30 sz30 (by repeat (first | exact Nth.z | apply Nth.s)) rfl hj.2.len ?_
  exact fin_pturn (J := XR) j rfl ⟨hj.1, hj.2⟩ (fun w2 hw2 => hw2.sel [4, 0] (by decide))
theorem or1K (f : Nat) (ih : XAll Tryz.prog f) (bc : Nat) (pb : Nat) (a : Addr) (k0 : Nat) (T ts : List Tok) (d : Nat) (w : World) (hA : At w pb a k0 T ts d) (hbc : Rd w (some ⟨bc, 0, none⟩) [.pointer (some ⟨pb, 0, none⟩)]) (hbcn : bc ≠ pb) (hf : 8 * ts.length + 7 ≤ f + 1) : Calls Tryz.prog 140 #[.pointer (some ⟨bc, 0, none⟩)] w (XT w pb a k0 T d (exP (f + 1) 2 d ts)) := by
  refine calls_tri (args := [.pointer (some ⟨bc, 0, none⟩)]) (lent := [pb]) (H := [pC pb a k0 T ts d]) Tryz.func140 rfl Tryz.ntmps140 rfl hA.sat.cx ?_; refine (show Tri _ [(0, _)] _ _ _ from ?_)
  have hto := hd_ok hA.env hA.suf hA.good
  have hR := hA.env.rds ts hA.suf
  have hl := hA.good.ne
  have hle := hA.suf.length_le
  have hlk := hA.env.len
  have hbn := hA.env.bnd
  have hdp := hA.dep
  have hB : ∀ cx H, cx.w0 = w → cx.lent = [pb] → RdS cx H (some ⟨bc, 0, none⟩) [.pointer (some ⟨pb, 0, none⟩)] := fun cx H q1 q2 => RdS.lent (by rw [q1]; exact hbc) (fun b hb => by cases hb; rw [q2]; simpa using hbcn)
  rw [exP2]
  refine tri_seq (tri_region ?_); refine o_alloc _ rfl zero30 rfl (fun b1 => ?_); refine triL_nilN ?_; refine tri_seq (tri_region ?_); refine o_loadR (A := some ⟨bc, 0, none⟩) (kk := 0) agg94 rfl rfl (hB _ _ rfl rfl) rfl ?_; refine o_build (bval176_0_1_2 _ _ _) rfl rfl ?_; refine o_lit1 Tryz.underlying177 zs176 rfl rfl rfl rfl rfl (by decide) (by decide) (fun b4 => ?_); refine o_loadR (A := some ⟨bc, 0, none⟩) (kk := 0) agg94 rfl rfl (hB _ _ rfl rfl) rfl ?_; refine o_makeFunc rfl rfl rfl ?_; refine o_callN (first := []) (cap := []) [pb] (by repeat (first | exact Nth.z | apply Nth.s)) rfl rfl rfl Tryz.call139 lend_box lend_box' (fun w1 h1 h2 => rowK [.pointer (some ⟨pb, 0, none⟩)] [] 141 (exP f 3 d) andO (some ⟨b4, 0, none⟩) 1 pb a k0 T ts d w1 (hA.sub h1.chg (Cuts.refl hA.good) hA.dep h2) Tryz.call141 (fun us w' hcu hat hch => ih.l3 pb a k0 T us d w' hat (by have := hcu.1.length_le; omega)) (fun us hu => exP_takes f 3 d us hu) (RdS.row .z w1 h1) (by intro a' ha; cases ha; exact h1.neB .z (.s (.s .z)) (by decide) rfl) (opr_ok _ (by simp)) (by decide)) (fun ch ⟨x, hx1, hx2⟩ => fin_panic ⟨x, hx1, hx2⟩) (fun j hj => ?_); refine o_storeX rfl hj.2 sz30 (by repeat (first | exact Nth.z | apply Nth.s)) rfl rfl rfl ?_; refine triL_nilN ?_; refine tri_ret ?_; refine endC1 rfl agg30 sz30 (by repeat (first | exact Nth.z | apply Nth.s)) rfl hj.2.len ?_
  exact fin_pturn (J := XR) j rfl ⟨hj.1, hj.2⟩ (fun w2 hw2 => hw2.sel [3, 0] (by decide))
theorem sumK (f : Nat) (ih : XAll Tryz.prog f) (pb : Nat) (a : Addr) (k0 : Nat) (T ts : List Tok) (d : Nat) (w : World) (hA : At w pb a k0 T ts d) (hf : 8 * ts.length + 4 ≤ f + 1) : Calls Tryz.prog 186 #[.pointer (some ⟨pb, 0, none⟩)] w (XT w pb a k0 T d (exP (f + 1) 5 d ts)) := by
  refine calls_tri (args := [.pointer (some ⟨pb, 0, none⟩)]) (lent := [pb]) (H := [pC pb a k0 T ts d]) Tryz.func186 rfl Tryz.ntmps186 rfl hA.sat.cx ?_; refine (show Tri _ [(0, _)] _ _ _ from ?_)
  have hto := hd_ok hA.env hA.suf hA.good
  have hR := hA.env.rds ts hA.suf
  have hl := hA.good.ne
  have hle := hA.suf.length_le
  have hlk := hA.env.len
  have hbn := hA.env.bnd
  have hdp := hA.dep
  rw [exP5]
  refine tri_seq (tri_region ?_); refine o_box _ rfl rfl rfl (fun b1 => ?_); refine o_alloc _ rfl zero30 rfl (fun b2 => ?_); refine triL_nilN ?_; refine tri_seq (tri_region ?_); refine o_callP (first := []) (cap := []) rfl rfl rfl Tryz.call151 (fun w1 h1 => sumsP w1) ?_; refine o_alloc _ rfl zero198 rfl (fun b3 => ?_); refine o_store sz198 (by repeat (first | exact Nth.z | apply Nth.s)) rfl rfl rfl rfl rfl (Nat.le_of_ble_eq_true rfl) rfl ?_; refine triL_nilN ?_; refine tri_seq ?_; refine MP.tri_mix (_) [(0, true), (1, true), (2, true), (3, false), (4, false)] [3, 4] (by kernel_rfl) (by kernel_rfl) (fun _ h => h) ?_; refine MP.mix_fix rfl ?_; refine o_load agg94 (by repeat (first | exact Nth.z | apply Nth.s)) rfl rfl rfl ?_; refine triL_nil ⟨rfl, ?_⟩; refine MP.mix_fix rfl ?_; refine o_sliceArrZ Tryz.underlying198 sz176 rfl rfl ?_; refine triL_nil ⟨rfl, ?_⟩; refine MP.mix_fix rfl ?_; refine o_makeFunc rfl rfl rfl ?_; refine triL_nil ⟨rfl, ?_⟩; refine MP.mix_op rfl ?_; refine o_callN (first := []) (cap := []) [pb] (by repeat (first | exact Nth.z | apply Nth.s)) rfl rfl rfl Tryz.call139 lend_box lend_box' (fun w1 h1 h2 => rowK [] [.pointer (some ⟨b1, 0, none⟩)] 202 (exP f 6 d) sumO (some ⟨b3, 0, none⟩) 3 pb a k0 T ts d w1 (hA.sub h1.chg (Cuts.refl hA.good) hA.dep h2) Tryz.call202 (fun us w' hcu hat hch => ih.l6 b1 pb a k0 T us d w' hat ((RdS.box (.s (.s .z)) w1 h1).chg hch (by intro a' ha; cases ha; simp only [List.mem_singleton]; exact h1.neB (.s (.s .z)) (.s (.s (.s .z))) (by decide) rfl)) (h1.neB (.s (.s .z)) (.s (.s (.s .z))) (by decide) rfl) (by have := hcu.1.length_le; omega)) (fun us hu => exP_takes f 6 d us hu) (RdS.box .z w1 h1) (by intro a' ha; cases ha; exact h1.neB .z (.s (.s (.s .z))) (by decide) rfl) (opr_ok _ (by simp)) (by decide)) (fun ch ⟨x, hx1, hx2⟩ => fin_panic ⟨x, hx1, hx2⟩) (fun j hj => ?_); refine triL_nil (show _ ∧ _ from ⟨fun hh => absurd hh (by decide), ?_⟩); refine MP.mix_op rfl ?_; refine o_storeX rfl hj.2 sz30 (by repeat (first | exact Nth.z | apply Nth.s)) rfl rfl rfl ?_; refine triL_nil (show _ ∧ _ from ⟨fun hh => absurd hh (by decide), ?_⟩); refine MP.mix_nil ?_; refine thenQ_normal ?_; refine tri_ret ?_; refine endC1 rfl agg30 sz30 (by repeat (first | exact Nth.z | apply Nth.s)) rfl hj.2.len ?_
  exact fin_pturn (J := XR) j rfl ⟨hj.1, hj.2⟩ (fun w2 hw2 => hw2.sel [4, 0] (by decide))
theorem sum1K (f : Nat) (ih : XAll Tryz.prog f) (bc : Nat) (pb : Nat) (a : Addr) (k0 : Nat) (T ts : List Tok) (d : Nat) (w : World) (hA : At w pb a k0 T ts d) (hbc : Rd w (some ⟨bc, 0, none⟩) [.pointer (some ⟨pb, 0, none⟩)]) (hbcn : bc ≠ pb) (hf : 8 * ts.length + 3 ≤ f + 1) : Calls Tryz.prog 202 #[.pointer (some ⟨bc, 0, none⟩)] w (XT w pb a k0 T d (exP (f + 1) 6 d ts)) := by
  refine calls_tri (args := [.pointer (some ⟨bc, 0, none⟩)]) (lent := [pb]) (H := [pC pb a k0 T ts d]) Tryz.func202 rfl Tryz.ntmps202 rfl hA.sat.cx ?_; refine (show Tri _ [(0, _)] _ _ _ from ?_)
  have hto := hd_ok hA.env hA.suf hA.good
  have hR := hA.env.rds ts hA.suf
  have hl := hA.good.ne
  have hle := hA.suf.length_le
  have hlk := hA.env.len
  have hbn := hA.env.bnd
  have hdp := hA.dep
  have hB : ∀ cx H, cx.w0 = w → cx.lent = [pb] → RdS cx H (some ⟨bc, 0, none⟩) [.pointer (some ⟨pb, 0, none⟩)] := fun cx H q1 q2 => RdS.lent (by rw [q1]; exact hbc) (fun b hb => by cases hb; rw [q2]; simpa using hbcn)
  rw [exP6]
  refine tri_seq (tri_region ?_); refine o_alloc _ rfl zero30 rfl (fun b1 => ?_); refine triL_nilN ?_; refine tri_seq (tri_region ?_); refine o_callP (first := []) (cap := []) rfl rfl rfl Tryz.call152 (fun w1 h1 => productsP w1) ?_; refine o_alloc _ rfl zero198 rfl (fun b2 => ?_); refine o_store sz198 (by repeat (first | exact Nth.z | apply Nth.s)) rfl rfl rfl rfl rfl (Nat.le_of_ble_eq_true rfl) rfl ?_; refine triL_nilN ?_; refine tri_seq ?_; refine MP.tri_mix (_) [(0, true), (1, true), (2, true), (3, true), (4, false), (5, false)] [4, 5] (by kernel_rfl) (by kernel_rfl) (fun _ h => h) ?_; refine MP.mix_fix rfl ?_; refine o_loadR (A := some ⟨bc, 0, none⟩) (kk := 0) agg94 rfl rfl (hB _ _ rfl rfl) rfl ?_; refine triL_nil ⟨rfl, ?_⟩; refine MP.mix_fix rfl ?_; refine o_sliceArrZ Tryz.underlying198 sz176 rfl rfl ?_; refine triL_nil ⟨rfl, ?_⟩; refine MP.mix_fix rfl ?_; refine o_loadR (A := some ⟨bc, 0, none⟩) (kk := 0) agg94 rfl rfl (hB _ _ rfl rfl) rfl ?_; refine triL_nil ⟨rfl, ?_⟩; refine MP.mix_fix rfl ?_; refine o_makeFunc rfl rfl rfl ?_; refine triL_nil ⟨rfl, ?_⟩; refine MP.mix_op rfl ?_; refine o_callN (first := []) (cap := []) [pb] (by repeat (first | exact Nth.z | apply Nth.s)) rfl rfl rfl Tryz.call139 lend_box lend_box' (fun w1 h1 h2 => rowK [.pointer (some ⟨pb, 0, none⟩)] [] 203 (exP f 7 d) mulO (some ⟨b2, 0, none⟩) 3 pb a k0 T ts d w1 (hA.sub h1.chg (Cuts.refl hA.good) hA.dep h2) Tryz.call203 (fun us w' hcu hat hch => ih.l7 pb a k0 T us d w' hat (by have := hcu.1.length_le; omega)) (fun us hu => exP_takes f 7 d us hu) (RdS.box .z w1 h1) (by intro a' ha; cases ha; exact h1.neB .z (.s (.s .z)) (by decide) rfl) (opr_ok _ (by simp)) (by decide)) (fun ch ⟨x, hx1, hx2⟩ => fin_panic ⟨x, hx1, hx2⟩) (fun j hj => ?_); refine triL_nil (show _ ∧ _ from ⟨fun hh => absurd hh (by decide), ?_⟩); refine MP.mix_op rfl ?_; refine o_storeX rfl hj.2 sz30 (by repeat (first | exact Nth.z | apply Nth.s)) rfl rfl rfl ?_; refine triL_nil (show _ ∧ _ from ⟨fun hh => absurd hh (by decide), ?_⟩); refine MP.mix_nil ?_; refine thenQ_normal ?_; refine tri_ret ?_; refine endC1 rfl agg30 sz30 (by repeat (first | exact Nth.z | apply Nth.s)) rfl hj.2.len ?_
  exact fin_pturn (J := XR) j rfl ⟨hj.1, hj.2⟩ (fun w2 hw2 => hw2.sel [3, 0] (by decide))
theorem notK (f : Nat) (ih : XAll Tryz.prog f) (pb : Nat) (a : Addr) (k0 : Nat) (T ts : List Tok) (d : Nat) (w : World) (hA : At w pb a k0 T ts d) (hf : 8 * ts.length + 6 ≤ f + 1) : Calls Tryz.prog 141 #[.pointer (some ⟨pb, 0, none⟩)] w (XT w pb a k0 T d (exP (f + 1) 3 d ts)) := by
  refine calls_tri (args := [.pointer (some ⟨pb, 0, none⟩)]) (lent := [pb]) (H := [pC pb a k0 T ts d]) Tryz.func141 rfl Tryz.ntmps141 rfl hA.sat.cx ?_; refine (show Tri _ [(0, _)] _ _ _ from ?_)
  have hto := hd_ok hA.env hA.suf hA.good
  have hR := hA.env.rds ts hA.suf
  have hl := hA.good.ne
  have hle := hA.suf.length_le
  have hlk := hA.env.len
  have hbn := hA.env.bnd
  have hdp := hA.dep
  rw [exP3]
  refine tri_seq (tri_region ?_); refine o_alloc _ rfl zero30 rfl (fun b2 => ?_); refine triL_nilN ?_; refine tri_seq (tri_region ?_); refine o_move rfl rfl ?_; refine o_nilCheck rfl rfl ?_; refine o_field fo96_0 rfl rfl ?_; refine o_load agg58 (by repeat (first | exact Nth.z | apply Nth.s)) rfl rfl rfl ?_; refine o_idxS Tryz.underlying58 sz62 rfl rfl rfl (hR _ _ rfl rfl) (by omega) (by omega) (toksV_length _) (by decide) ?_; refine o_loadTk 0 agg62 sz62 rfl rfl (hR _ _ rfl rfl) (by omega) (by omega) ?_; refine o_alloc (Tok.cs Tok.zero) rfl zero62 rfl (fun b3 => ?_); refine o_storeBTk sz62 (by repeat (first | exact Nth.z | apply Nth.s)) rfl rfl rfl ?_; refine triL_nilN ?_; refine tri_seq ?_; refine tri_seq ?_; refine tri_slots [(3, _), (2, _), (0, _)] (.cons rfl (.cons rfl (.cons rfl (.nil _)))) ?_; refine tri_region ?_; refine o_move rfl rfl ?_; refine o_callN (first := []) (cap := []) [pb] (by repeat (first | exact Nth.z | apply Nth.s)) rfl rfl rfl Tryz.call90 lend_box lend_box' (fun w1 h1 h2 => wordP notB pb a k0 T ts d w1 (hA.sub h1.chg (Cuts.refl hA.good) hA.dep h2)) (fun ch hF => hF.elim) (fun u_ hu_ => ?_); refine o_not rfl rfl ?_; refine triL_nilN ?_; refine tri_cond rfl (fun h0 => ?_) (fun h0 => ?_)
  · skip
    have h0 := not_true h0
    refine tri_seq ?_; refine tri_slots [(2, _), (0, _)] (.cons rfl (.cons rfl (.nil _))) ?_
    rw [if_neg (by rw [h0]; decide)]
    refine tri_region ?_; refine o_move rfl rfl ?_; refine o_callN (first := []) (cap := []) [pb] (by repeat (first | exact Nth.z | apply Nth.s)) rfl rfl rfl Tryz.call166 lend_box lend_box' (fun w1 h1 h2 => ih.l4 pb a k0 T ts d w1 (hA.sub h1.chg (Cuts.refl hA.good) hA.dep h2) (by omega)) (fun ch ⟨x, hx1, hx2⟩ => fin_panic ⟨x, by rw [if_neg (by rw [h0]; decide)]; exact hx1, hx2⟩) (fun j hj => ?_); refine o_storeX rfl hj.2 sz30 (by repeat (first | exact Nth.z | apply Nth.s)) rfl rfl rfl ?_; refine triL_nilN ?_; refine tri_ret ?_; refine thenQ_ret ?_; refine endC1 rfl agg30 sz30 (by repeat (first | exact Nth.z | apply Nth.s)) rfl hj.2.len ?_
    exact fin_pturn (J := XR) j rfl ⟨by rw [if_neg (by rw [h0]; decide)]; exact hj.1, hj.2⟩ (fun w2 hw2 => hw2.sel [3, 0] (by decide))
  · skip
    have h0 := not_false h0
    have hcu : Cuts ts (ts.drop 1) := ⟨List.drop_suffix 1 ts, hA.good.next (by decide) h0⟩
    have hlt := hA.good.lt
    refine tri_skip ?_; refine thenQ_normal ?_; refine tri_seq ?_
    rw [if_pos h0]
    refine tri_region ?_; refine o_move rfl rfl ?_; refine o_loadBTk agg62 sz62 (by repeat (first | exact Nth.z | apply Nth.s)) rfl rfl ?_; refine o_callN (first := []) (cap := []) [pb] (by repeat (first | exact Nth.z | apply Nth.s)) rfl rfl rfl Tryz.call167 lend_box lend_box' (fun w1 h1 h2 => deeperP (hd ts) pb a k0 T (ts.drop 1) d w1 (hA.sub h1.chg hcu hA.dep h2)) (fun ch ⟨hd1, hd2⟩ => fin_panic ⟨(191, (hd ts).a), by rw [if_pos h0, if_pos hd1], hd2⟩) (fun u_ hd1 => ?_); refine triL_nilN ?_; refine tri_seq ?_; refine tri_slots [(2, _), (0, _)] (.cons rfl (.cons rfl (.nil _))) ?_; refine tri_region ?_; refine o_move rfl rfl ?_; refine o_callN (first := []) (cap := []) [pb] (by repeat (first | exact Nth.z | apply Nth.s)) rfl rfl rfl Tryz.call141 lend_box lend_box' (fun w1 h1 h2 => ih.l3 pb a k0 T (ts.drop 1) (d + 1) w1 (hA.sub h1.chg hcu hd1 h2) (by omega)) (fun ch ⟨x, hx1, hx2⟩ => fin_panic ⟨x, by rw [if_pos h0, if_neg (by omega), hx1]; rfl, hx2⟩) (fun j hj => ?_); refine o_alloc _ rfl zero30 rfl (fun b4 => ?_); refine o_storeX rfl hj.2 sz30 (by repeat (first | exact Nth.z | apply Nth.s)) rfl rfl rfl ?_; refine triL_nilN ?_; refine tri_seq (tri_region ?_); refine o_move rfl rfl ?_; refine o_nilCheck rfl rfl ?_; refine o_field fo96_1 rfl rfl ?_; refine o_load agg3 (by repeat (first | exact Nth.z | apply Nth.s)) rfl rfl rfl ?_; refine o_subN rfl rfl rfl (by omega) ?_; refine triL_num (v' := .int .i64 (d : Int)) (congrArg (Value.int .i64) (by omega)) ?_; refine o_nilCheck rfl rfl ?_; refine o_field fo96_1 rfl rfl ?_; refine o_store sz3 (by repeat (first | exact Nth.z | apply Nth.s)) rfl rfl rfl rfl rfl (Nat.le_of_ble_eq_true rfl) rfl ?_; refine triL_nilN ?_; refine tri_seq ?_; refine tri_slots [(4, _), (2, _)] (.cons rfl (.cons rfl (.nil _))) ?_; refine tri_region ?_; refine o_loadX hj.2 agg30 sz30 (by repeat (first | exact Nth.z | apply Nth.s)) rfl rfl ?_; refine o_lit1 (vs := j.cs) Tryz.underlying28 zs30 rfl rfl rfl rfl hj.2.len (by decide) (by decide) (fun b29 => ?_); refine o_build (built30_0_5 _ _ _ _) rfl rfl ?_; refine o_storeX rfl ⟨rfl, rfl⟩ sz30 (by repeat (first | exact Nth.z | apply Nth.s)) rfl rfl rfl ?_; refine triL_nilN ?_; refine tri_ret ?_; refine endC1 rfl agg30 sz30 (by repeat (first | exact Nth.z | apply Nth.s)) rfl rfl ?_
    exact fin_pturn (J := XR) ⟨un 5 j.e, j.us, _, _⟩ rfl ⟨by rw [if_pos h0, if_neg (by omega), hj.1]; rfl, ⟨rfl, rfl⟩⟩ (fun w2 hw2 => (Sat.node1 _ (hw2.sel [0, 2, 5] (by decide)) (Nat.le_refl 1)).sel [1, 0] (by decide))
theorem minusK (f : Nat) (ih : XAll Tryz.prog f) (pb : Nat) (a : Addr) (k0 : Nat) (T ts : List Tok) (d : Nat) (w : World) (hA : At w pb a k0 T ts d) (hf : 8 * ts.length + 2 ≤ f + 1) : Calls Tryz.prog 203 #[.pointer (some ⟨pb, 0, none⟩)] w (XT w pb a k0 T d (exP (f + 1) 7 d ts)) := by
  refine calls_tri (args := [.pointer (some ⟨pb, 0, none⟩)]) (lent := [pb]) (H := [pC pb a k0 T ts d]) Tryz.func203 rfl Tryz.ntmps203 rfl hA.sat.cx ?_; refine (show Tri _ [(0, _)] _ _ _ from ?_)
  have hto := hd_ok hA.env hA.suf hA.good
  have hR := hA.env.rds ts hA.suf
  have hl := hA.good.ne
  have hle := hA.suf.length_le
  have hlk := hA.env.len
  have hbn := hA.env.bnd
  have hdp := hA.dep
  rw [exP7]
  refine tri_seq (tri_region ?_); refine o_alloc _ rfl zero30 rfl (fun b2 => ?_); refine triL_nilN ?_; refine tri_seq (tri_region ?_); refine o_move rfl rfl ?_; refine o_nilCheck rfl rfl ?_; refine o_field fo96_0 rfl rfl ?_; refine o_load agg58 (by repeat (first | exact Nth.z | apply Nth.s)) rfl rfl rfl ?_; refine o_idxS Tryz.underlying58 sz62 rfl rfl rfl (hR _ _ rfl rfl) (by omega) (by omega) (toksV_length _) (by decide) ?_; refine o_loadTk 0 agg62 sz62 rfl rfl (hR _ _ rfl rfl) (by omega) (by omega) ?_; refine o_alloc (Tok.cs Tok.zero) rfl zero62 rfl (fun b3 => ?_); refine o_storeBTk sz62 (by repeat (first | exact Nth.z | apply Nth.s)) rfl rfl rfl ?_; refine triL_nilN ?_; refine tri_seq ?_; refine tri_seq ?_; refine tri_slots [(3, _), (2, _), (0, _)] (.cons rfl (.cons rfl (.cons rfl (.nil _)))) ?_; refine tri_region ?_; refine o_move rfl rfl ?_; refine o_callN (first := []) (cap := []) [pb] (by repeat (first | exact Nth.z | apply Nth.s)) rfl rfl rfl Tryz.call46 lend_box lend_box' (fun w1 h1 h2 => signP [45] pb a k0 T ts d w1 (hA.sub h1.chg (Cuts.refl hA.good) hA.dep h2)) (fun ch hF => hF.elim) (fun u_ hu_ => ?_); refine o_not rfl rfl ?_; refine triL_nilN ?_; refine tri_cond rfl (fun h0 => ?_) (fun h0 => ?_)
  · skip
    have h0 := not_true h0
    refine tri_seq ?_; refine tri_slots [(2, _), (0, _)] (.cons rfl (.cons rfl (.nil _))) ?_
    rw [if_neg (by rw [h0]; decide)]
    refine tri_region ?_; refine o_move rfl rfl ?_; refine o_callN (first := []) (cap := []) [pb] (by repeat (first | exact Nth.z | apply Nth.s)) rfl rfl rfl Tryz.call209 lend_box lend_box' (fun w1 h1 h2 => ih.l8 pb a k0 T ts d w1 (hA.sub h1.chg (Cuts.refl hA.good) hA.dep h2) (by omega)) (fun ch ⟨x, hx1, hx2⟩ => fin_panic ⟨x, by rw [if_neg (by rw [h0]; decide)]; exact hx1, hx2⟩) (fun j hj => ?_); refine o_storeX rfl hj.2 sz30 (by repeat (first | exact Nth.z | apply Nth.s)) rfl rfl rfl ?_; refine triL_nilN ?_; refine tri_ret ?_; refine thenQ_ret ?_; refine endC1 rfl agg30 sz30 (by repeat (first | exact Nth.z | apply Nth.s)) rfl hj.2.len ?_
    exact fin_pturn (J := XR) j rfl ⟨by rw [if_neg (by rw [h0]; decide)]; exact hj.1, hj.2⟩ (fun w2 hw2 => hw2.sel [3, 0] (by decide))
  · skip
    have h0 := not_false h0
    have hcu : Cuts ts (ts.drop 1) := ⟨List.drop_suffix 1 ts, hA.good.next (by decide) h0⟩
    have hlt := hA.good.lt
    refine tri_skip ?_; refine thenQ_normal ?_; refine tri_seq ?_
    rw [if_pos h0]
    refine tri_region ?_; refine o_move rfl rfl ?_; refine o_loadBTk agg62 sz62 (by repeat (first | exact Nth.z | apply Nth.s)) rfl rfl ?_; refine o_callN (first := []) (cap := []) [pb] (by repeat (first | exact Nth.z | apply Nth.s)) rfl rfl rfl Tryz.call167 lend_box lend_box' (fun w1 h1 h2 => deeperP (hd ts) pb a k0 T (ts.drop 1) d w1 (hA.sub h1.chg hcu hA.dep h2)) (fun ch ⟨hd1, hd2⟩ => fin_panic ⟨(191, (hd ts).a), by rw [if_pos h0, if_pos hd1], hd2⟩) (fun u_ hd1 => ?_); refine triL_nilN ?_; refine tri_seq ?_; refine tri_slots [(2, _), (0, _)] (.cons rfl (.cons rfl (.nil _))) ?_; refine tri_region ?_; refine o_move rfl rfl ?_; refine o_callN (first := []) (cap := []) [pb] (by repeat (first | exact Nth.z | apply Nth.s)) rfl rfl rfl Tryz.call203 lend_box lend_box' (fun w1 h1 h2 => ih.l7 pb a k0 T (ts.drop 1) (d + 1) w1 (hA.sub h1.chg hcu hd1 h2) (by omega)) (fun ch ⟨x, hx1, hx2⟩ => fin_panic ⟨x, by rw [if_pos h0, if_neg (by omega), hx1]; rfl, hx2⟩) (fun j hj => ?_); refine o_alloc _ rfl zero30 rfl (fun b4 => ?_); refine o_storeX rfl hj.2 sz30 (by repeat (first | exact Nth.z | apply Nth.s)) rfl rfl rfl ?_; refine triL_nilN ?_; refine tri_seq (tri_region ?_); refine o_move rfl rfl ?_; refine o_nilCheck rfl rfl ?_; refine o_field fo96_1 rfl rfl ?_; refine o_load agg3 (by repeat (first | exact Nth.z | apply Nth.s)) rfl rfl rfl ?_; refine o_subN rfl rfl rfl (by omega) ?_; refine triL_num (v' := .int .i64 (d : Int)) (congrArg (Value.int .i64) (by omega)) ?_; refine o_nilCheck rfl rfl ?_; refine o_field fo96_1 rfl rfl ?_; refine o_store sz3 (by repeat (first | exact Nth.z | apply Nth.s)) rfl rfl rfl rfl rfl (Nat.le_of_ble_eq_true rfl) rfl ?_; refine triL_nilN ?_; refine tri_seq ?_; refine tri_slots [(4, _), (2, _)] (.cons rfl (.cons rfl (.nil _))) ?_; refine tri_region ?_; refine o_loadX hj.2 agg30 sz30 (by repeat (first | exact Nth.z | apply Nth.s)) rfl rfl ?_; refine o_lit1 (vs := j.cs) Tryz.underlying28 zs30 rfl rfl rfl rfl hj.2.len (by decide) (by decide) (fun b29 => ?_); refine o_build (built30_0_5 _ _ _ _) rfl rfl ?_; refine o_storeX rfl ⟨rfl, rfl⟩ sz30 (by repeat (first | exact Nth.z | apply Nth.s)) rfl rfl rfl ?_; refine triL_nilN ?_; refine tri_ret ?_; refine endC1 rfl agg30 sz30 (by repeat (first | exact Nth.z | apply Nth.s)) rfl rfl ?_
    exact fin_pturn (J := XR) ⟨un 4 j.e, j.us, _, _⟩ rfl ⟨by rw [if_pos h0, if_neg (by omega), hj.1]; rfl, ⟨rfl, rfl⟩⟩ (fun w2 hw2 => (Sat.node1 _ (hw2.sel [0, 2, 5] (by decide)) (Nat.le_refl 1)).sel [1, 0] (by decide))
theorem cmpK (f : Nat) (ih : XAll Tryz.prog f) (pb : Nat) (a : Addr) (k0 : Nat) (T ts : List Tok) (d : Nat) (w : World) (hA : At w pb a k0 T ts d) (hf : 8 * ts.length + 5 ≤ f + 1) : Calls Tryz.prog 166 #[.pointer (some ⟨pb, 0, none⟩)] w (XT w pb a k0 T d (exP (f + 1) 4 d ts)) := by
  refine calls_tri (args := [.pointer (some ⟨pb, 0, none⟩)]) (lent := [pb]) (H := [pC pb a k0 T ts d]) Tryz.func166 rfl Tryz.ntmps166 rfl hA.sat.cx ?_; refine (show Tri _ [(0, _)] _ _ _ from ?_)
  have hto := hd_ok hA.env hA.suf hA.good
  have hR := hA.env.rds ts hA.suf
  have hl := hA.good.ne
  have hle := hA.suf.length_le
  have hlk := hA.env.len
  have hbn := hA.env.bnd
  have hdp := hA.dep
  rw [exP4]
  refine tri_seq (tri_region ?_); refine o_alloc _ rfl zero30 rfl (fun b2 => ?_); refine triL_nilN ?_; refine tri_seq (tri_region ?_); refine o_move rfl rfl ?_; refine o_callN (first := []) (cap := []) [pb] (by repeat (first | exact Nth.z | apply Nth.s)) rfl rfl rfl Tryz.call186 lend_box lend_box' (fun w1 h1 h2 => ih.l5 pb a k0 T ts d w1 (hA.sub h1.chg (Cuts.refl hA.good) hA.dep h2) (by omega)) (fun ch ⟨x, hx1, hx2⟩ => fin_panic ⟨x, by rw [hx1], hx2⟩) (fun j hj => ?_); refine o_alloc _ rfl zero30 rfl (fun b3 => ?_); refine o_storeX rfl hj.2 sz30 (by repeat (first | exact Nth.z | apply Nth.s)) rfl rfl rfl ?_; refine triL_nilN ?_; refine tri_seq ?_; refine tri_seq ?_
  have htj := exP_takes f 5 d ts hA.good j.e j.us hj.1
  refine tri_region ?_; refine o_callP (first := []) (cap := []) rfl rfl rfl Tryz.call150 (fun w1 h1 => comparisonsP w1) ?_; refine o_move rfl rfl ?_; refine triL_nilN ?_; refine tri_block ?_; refine tri_loop (ι := Nat) (F := fun i => [(0, .pointer (some ⟨pb, 0, none⟩)), (2, .pointer (some ⟨b2, 0, none⟩)), (3, .pointer (some ⟨b3, 0, none⟩)), (10, .agg (toksV cmpO).toArray), (11, .int .i64 (i : Int))]) (HH := fun i => [box b3 30 j.cs, treeC j.bl j.e j.cs, box b2 30 [.int .i64 0, .int .i64 0, .int .i64 0, .string .empty, .string .empty, .string .empty, .int .i64 0, .slice none 0 0], pC pb a k0 T j.us d]) (Pu := fun i => i ≤ 6 ∧ findO cmpO j.us = findO (cmpO.drop i) j.us) (μ := fun i => 6 - i) (0) (.cons rfl (.cons rfl (.cons rfl (.cons rfl (.cons rfl (.nil _)))))) (fun _ h => h) (⟨by omega, rfl⟩) (fun i hi => ?_); refine tri_seq (tri_region ?_); refine o_lss rfl rfl rfl ?_; refine triL_nilN ?_; refine tri_seq ?_; refine tri_if rfl (fun h1 => ?_) (fun h1 => ?_)
  · skip
    have hil : i < cmpO.length := by show i < 6; omega
    refine tri_skip ?_; refine thenQ_normal ?_; refine tri_seq ?_; refine tri_block ?_; refine tri_seq (tri_region ?_); refine o_idxArr Tryz.underlying196 agg176 sz176 rfl rfl rfl (by omega) (by omega) (by rw [toksV_length]; rfl) (toksV_at' cmpO i hil) ?_; refine o_alloc (Tok.cs Tok.zero) rfl zero176 rfl (fun b5 => ?_); refine o_storeBTk sz176 (by repeat (first | exact Nth.z | apply Nth.s)) rfl rfl rfl ?_; refine triL_nilN ?_; refine tri_seq (tri_region ?_); refine o_move rfl rfl ?_; refine o_field fo176_0 rfl rfl ?_; refine o_load agg3 (by repeat (first | exact Nth.z | apply Nth.s)) rfl rfl rfl ?_; refine o_field fo176_1 rfl rfl ?_; refine o_load agg9 (by repeat (first | exact Nth.z | apply Nth.s)) rfl rfl rfl ?_; refine o_callN (first := []) (cap := []) [pb] (by repeat (first | exact Nth.z | apply Nth.s)) rfl rfl rfl Tryz.call103 lend_box lend_box' (fun w1 h1 h2 => nextK (cmpO.getD i Tok.zero).k (cmpO.getD i Tok.zero).t pb a k0 T j.us d w1 (hA.sub h1.chg htj.1 hA.dep h2) (opr_ok cmpO (by simp) _ (getD_memT cmpO i hil))) (fun ch hF => hF.elim) (fun u_ hu_ => ?_); refine triL_nilN ?_; refine tri_cond rfl (fun h2 => ?_) (fun h2 => ?_)
    · skip
      have hit := findO_hit hil hi.2 h2
      have hcu : Cuts ts (j.us.drop 1) := htj.1.trans ⟨List.drop_suffix 1 _, findO_good (opr_ok cmpO (by simp)) htj.1.2 hit⟩
      refine tri_seq ?_; refine tri_slots [(5, _), (0, _), (2, _), (3, _)] (.cons rfl (.cons rfl (.cons rfl (.cons rfl (.nil _))))) ?_
      rw [if_pos h2]
      refine tri_region ?_; refine o_move rfl rfl ?_; refine o_callN (first := []) (cap := []) [pb] (by repeat (first | exact Nth.z | apply Nth.s)) rfl rfl rfl Tryz.call186 lend_box lend_box' (fun w1 h1 h2 => ih.l5 pb a k0 T (j.us.drop 1) d w1 (hA.sub h1.chg hcu hA.dep h2) (by have := htj.2; have := htj.1.2.lt; omega)) (fun ch ⟨x, hx1, hx2⟩ => fin_panic ⟨x, by rw [hj.1]; exact cmp_err hit hx1, hx2⟩) (fun g hg => ?_); refine o_alloc _ rfl zero30 rfl (fun b6 => ?_); refine o_storeX rfl hg.2 sz30 (by repeat (first | exact Nth.z | apply Nth.s)) rfl rfl rfl ?_; refine triL_nilN ?_; refine tri_seq (tri_region ?_); refine o_field fo176_2 rfl rfl ?_; refine o_load agg3 (by repeat (first | exact Nth.z | apply Nth.s)) rfl rfl rfl ?_; refine o_loadX hj.2 agg30 sz30 (by repeat (first | exact Nth.z | apply Nth.s)) rfl rfl ?_; refine o_loadX hg.2 agg30 sz30 (by repeat (first | exact Nth.z | apply Nth.s)) rfl rfl ?_; refine o_litX2 hj.2 hg.2 Tryz.underlying28 zs30 rfl rfl rfl (fun b31 => ?_); refine o_build (built30_0_5 _ _ _ _) rfl rfl ?_; refine o_storeX rfl ⟨rfl, rfl⟩ sz30 (by repeat (first | exact Nth.z | apply Nth.s)) rfl rfl rfl ?_; refine triL_nilN ?_; refine tri_ret ?_; refine blockQ_ret ?_; refine thenQ_ret ?_; refine thenQ_ret ?_; refine blockQ_ret ?_; refine thenQ_ret ?_; refine endC1 rfl agg30 sz30 (by repeat (first | exact Nth.z | apply Nth.s)) rfl rfl ?_
      exact fin_pturn (J := XR) ⟨bin _ j.e g.e, g.us, _, _⟩ rfl ⟨by rw [hj.1]; exact cmp_hit hit hg.1, ⟨rfl, rfl⟩⟩ (fun w2 hw2 => (Sat.node2 _ (hw2.sel [0, 5, 2, 7] (by decide)) (Nat.le_refl 2)).sel [1, 0] (by decide))
    · skip
      refine tri_skip ?_; refine blockQ_normal ?_; refine thenQ_normal ?_; refine tri_slots [(0, _), (2, _), (3, _), (10, _), (11, _)] (.cons rfl (.cons rfl (.cons rfl (.cons rfl (.cons rfl (.nil _)))))) ?_; refine tri_region ?_; refine o_addN rfl rfl rfl (by omega) ?_; refine o_move rfl rfl ?_; refine triL_nilN ?_
      exact ⟨i + 1, (.cons rfl (.cons rfl (.cons rfl (.cons rfl (.cons rfl (.nil _)))))), (fun w2 hw2 => by rw [if_neg (by rw [h2]; decide)] at hw2; exact hw2.tail), ⟨by omega, findO_miss hil hi.2 h2⟩, by omega⟩
  · skip
    have hnone := findO_end (l := cmpO) (i := i) (by show ¬ i < 6; omega) hi.2
    refine tri_exit ?_; refine thenQ_exit ?_; refine thenQ_exit ?_; refine blockQ_here ?_; refine thenQ_normal ?_; refine tri_seq ?_; refine tri_seq (tri_region ?_); refine o_move rfl rfl ?_; refine o_callN (first := []) (cap := []) [pb] (by repeat (first | exact Nth.z | apply Nth.s)) rfl rfl rfl Tryz.call90 lend_box lend_box' (fun w1 h1 h2 => wordP isB pb a k0 T j.us d w1 (hA.sub h1.chg htj.1 hA.dep h2)) (fun ch hF => hF.elim) (fun u_ hu_ => ?_); refine triL_nilN ?_; refine tri_cond rfl (fun h3 => ?_) (fun h3 => ?_)
    · skip
      have hc3 := cuts_one htj.1 (by decide) h3
      refine tri_seq ?_; refine tri_slots [(0, _), (2, _), (3, _)] (.cons rfl (.cons rfl (.cons rfl (.nil _)))) ?_; refine tri_region ?_; refine o_assignN rfl rfl ?_; refine tri_seq ?_; refine tri_seq ?_
      rw [if_pos h3]
      refine tri_region ?_; refine o_move rfl rfl ?_; refine o_callN (first := []) (cap := []) [pb] (by repeat (first | exact Nth.z | apply Nth.s)) rfl rfl rfl Tryz.call90 lend_box lend_box' (fun w1 h1 h2 => wordP notB pb a k0 T (j.us.drop 1) d w1 (hA.sub h1.chg hc3 hA.dep h2)) (fun ch hF => hF.elim) (fun u_ hu_ => ?_); refine triL_nilN ?_; refine tri_cond rfl (fun h4 => ?_) (fun h4 => ?_)
      · skip
        rw [if_pos h4]
        have hcv := cuts_one hc3 (by decide) h4
        have hbg := cmp_bad7 (one := exP f 5 d) (e := j.e) hnone h3 h4
        refine tri_region ?_; refine o_assignN rfl rfl ?_; refine tri_seq (tri_region ?_); refine o_move rfl rfl ?_; refine o_lit1 Tryz.underlying23 zs9 rfl rfl rfl rfl rfl (by decide) (by decide) (fun b34 => ?_); refine o_callN (first := []) (cap := []) [pb] (by repeat (first | exact Nth.z | apply Nth.s)) rfl rfl rfl Tryz.call93 lend_box lend_box' (fun w1 h1 h2 => wordsP nullB (some ⟨b34, 0, none⟩) 1 pb a k0 T _ d w1 (hA.sub h1.chg hcv hA.dep h2) (RdS.row .z w1 h1) (by intro a' ha; cases ha; exact h1.neB .z (.s (.s (.s (.s .z)))) (by decide) rfl)) (fun ch ⟨hb1, hb2⟩ => fin_panic ⟨_, by rw [hj.1]; exact hbg.1 hb1, hb2⟩) (fun u_ hok => ?_); refine triL_nilN ?_; refine tri_seq ?_; refine tri_slots [(7, _), (2, _), (3, _)] (.cons rfl (.cons rfl (.cons rfl (.nil _)))) ?_; refine tri_region ?_; refine o_move rfl rfl ?_; refine o_loadX hj.2 agg30 sz30 (by repeat (first | exact Nth.z | apply Nth.s)) rfl rfl ?_; refine o_lit1 (vs := j.cs) Tryz.underlying28 zs30 rfl rfl rfl rfl hj.2.len (by decide) (by decide) (fun b38 => ?_); refine o_build (built30_0_5 _ _ _ _) rfl rfl ?_; refine o_storeX rfl ⟨rfl, rfl⟩ sz30 (by repeat (first | exact Nth.z | apply Nth.s)) rfl rfl rfl ?_; refine triL_nilN ?_; refine tri_ret ?_; refine thenQ_ret ?_; refine endC1 rfl agg30 sz30 (by repeat (first | exact Nth.z | apply Nth.s)) rfl rfl ?_
        exact fin_pturn (J := XR) ⟨un 7 j.e, _, _, _⟩ rfl ⟨by rw [hj.1]; exact hbg.2 hok, ⟨rfl, rfl⟩⟩ (fun w2 hw2 => (Sat.node1 _ (hw2.sel [0, 3, 5] (by decide)) (Nat.le_refl 1)).sel [1, 0] (by decide))
      · skip
        rw [if_neg (by rw [h4]; decide)]
        have hcv := hc3
        have hbg := cmp_bad6 (one := exP f 5 d) (e := j.e) hnone h3 h4
        refine tri_skip ?_; refine thenQ_normal ?_; refine tri_seq (tri_region ?_); refine o_move rfl rfl ?_; refine o_lit1 Tryz.underlying23 zs9 rfl rfl rfl rfl rfl (by decide) (by decide) (fun b34 => ?_); refine o_callN (first := []) (cap := []) [pb] (by repeat (first | exact Nth.z | apply Nth.s)) rfl rfl rfl Tryz.call93 lend_box lend_box' (fun w1 h1 h2 => wordsP nullB (some ⟨b34, 0, none⟩) 1 pb a k0 T _ d w1 (hA.sub h1.chg hcv hA.dep h2) (RdS.row .z w1 h1) (by intro a' ha; cases ha; exact h1.neB .z (.s (.s (.s (.s .z)))) (by decide) rfl)) (fun ch ⟨hb1, hb2⟩ => fin_panic ⟨_, by rw [hj.1]; exact hbg.1 hb1, hb2⟩) (fun u_ hok => ?_); refine triL_nilN ?_; refine tri_seq ?_; refine tri_slots [(7, _), (2, _), (3, _)] (.cons rfl (.cons rfl (.cons rfl (.nil _)))) ?_; refine tri_region ?_; refine o_move rfl rfl ?_; refine o_loadX hj.2 agg30 sz30 (by repeat (first | exact Nth.z | apply Nth.s)) rfl rfl ?_; refine o_lit1 (vs := j.cs) Tryz.underlying28 zs30 rfl rfl rfl rfl hj.2.len (by decide) (by decide) (fun b38 => ?_); refine o_build (built30_0_5 _ _ _ _) rfl rfl ?_; refine o_storeX rfl ⟨rfl, rfl⟩ sz30 (by repeat (first | exact Nth.z | apply Nth.s)) rfl rfl rfl ?_; refine triL_nilN ?_; refine tri_ret ?_; refine thenQ_ret ?_; refine endC1 rfl agg30 sz30 (by repeat (first | exact Nth.z | apply Nth.s)) rfl rfl ?_
        exact fin_pturn (J := XR) ⟨un 6 j.e, _, _, _⟩ rfl ⟨by rw [hj.1]; exact hbg.2 hok, ⟨rfl, rfl⟩⟩ (fun w2 hw2 => (Sat.node1 _ (hw2.sel [0, 3, 5] (by decide)) (Nat.le_refl 1)).sel [1, 0] (by decide))
    · skip
      rw [if_neg (by rw [h3]; decide)]
      refine tri_skip ?_; refine thenQ_normal ?_; refine tri_seq ?_; refine tri_slots [(2, _), (3, _)] (.cons rfl (.cons rfl (.nil _))) ?_; refine tri_region ?_; refine o_loadX hj.2 agg30 sz30 (by repeat (first | exact Nth.z | apply Nth.s)) rfl rfl ?_; refine o_storeX rfl hj.2 sz30 (by repeat (first | exact Nth.z | apply Nth.s)) rfl rfl rfl ?_; refine triL_nilN ?_; refine tri_ret ?_; refine endC1 rfl agg30 sz30 (by repeat (first | exact Nth.z | apply Nth.s)) rfl hj.2.len ?_
      exact fin_pturn (J := XR) j rfl ⟨by rw [hj.1]; exact cmp_none hnone h3, hj.2⟩ (fun w2 hw2 => hw2.sel [3, 1] (by decide))
theorem lib_num_ok {t : Tok} (h : TokOk t) (hk : t.k = 2) (w : World) : Calls Tryz.prog 133 #[.string (B t.t), .int .i64 10, .int .i64 64] w (Pure w (.tuple #[.int .i64 (decZ t.t), .nilIface])) :=
  lib_parse t.t (decZ t.t) w (by have := h.len; omega) (h.num hk)
theorem thingK (f : Nat) (ih : XAll Tryz.prog f) (pb : Nat) (a : Addr) (k0 : Nat) (T ts : List Tok) (d : Nat) (w : World) (hA : At w pb a k0 T ts d) (hf : 8 * ts.length + 1 ≤ f + 1) : Calls Tryz.prog 209 #[.pointer (some ⟨pb, 0, none⟩)] w (XT w pb a k0 T d (exP (f + 1) 8 d ts)) := by
  refine calls_tri (args := [.pointer (some ⟨pb, 0, none⟩)]) (lent := [pb]) (H := [pC pb a k0 T ts d]) Tryz.func209 rfl Tryz.ntmps209 rfl hA.sat.cx ?_; refine (show Tri _ [(0, _)] _ _ _ from ?_)
  have hto := hd_ok hA.env hA.suf hA.good
  have hR := hA.env.rds ts hA.suf
  have hl := hA.good.ne
  have hle := hA.suf.length_le
  have hlk := hA.env.len
  have hbn := hA.env.bnd
  have hdp := hA.dep
  rw [exP8]
  refine tri_seq (tri_region ?_); refine o_alloc _ rfl zero30 rfl (fun b2 => ?_); refine triL_nilN ?_; refine tri_seq (tri_region ?_); refine o_move rfl rfl ?_; refine o_nilCheck rfl rfl ?_; refine o_field fo96_0 rfl rfl ?_; refine o_load agg58 (by repeat (first | exact Nth.z | apply Nth.s)) rfl rfl rfl ?_; refine o_idxS Tryz.underlying58 sz62 rfl rfl rfl (hR _ _ rfl rfl) (by omega) (by omega) (toksV_length _) (by decide) ?_; refine o_loadTk 0 agg62 sz62 rfl rfl (hR _ _ rfl rfl) (by omega) (by omega) ?_; refine o_alloc (Tok.cs Tok.zero) rfl zero62 rfl (fun b3 => ?_); refine o_storeBTk sz62 (by repeat (first | exact Nth.z | apply Nth.s)) rfl rfl rfl ?_; refine triL_nilN ?_; refine tri_seq ?_; refine tri_block ?_; refine tri_seq ?_; refine tri_slots [(3, _), (2, _), (0, _)] (.cons rfl (.cons rfl (.cons rfl (.nil _)))) ?_; refine tri_region ?_; refine o_field fo62_0 rfl rfl ?_; refine o_load agg3 (by repeat (first | exact Nth.z | apply Nth.s)) rfl rfl rfl ?_; refine o_eqlI rfl rfl rfl ?_; refine o_assignN rfl rfl ?_; refine tri_if rfl (fun h0 => ?_) (fun h0 => ?_)
  · skip
    have h0 : (hd ts).k = 2 := h0
    have hg := hA.good.drop (by rw [h0]; decide)
    have hl2 := hg.ne
    rw [List.length_drop] at hl2
    refine tri_seq ?_; refine tri_slots [(3, _), (2, _), (0, _)] (.cons rfl (.cons rfl (.cons rfl (.nil _)))) ?_; refine tri_region ?_; refine o_field fo62_1 rfl rfl ?_; refine o_load agg9 (by repeat (first | exact Nth.z | apply Nth.s)) rfl rfl rfl ?_; refine o_callP (first := []) (cap := []) rfl rfl rfl Tryz.call133 (fun w1 h1 => lib_num_ok hto h0 w1) ?_; refine o_move rfl rfl ?_; refine o_extract rfl rfl rfl ?_; refine o_extract rfl rfl rfl ?_; refine o_assign rfl rfl ?_; refine o_assignN rfl rfl ?_; refine tri_seq ?_; refine tri_slots [(4, _), (2, _), (0, _)] (.cons rfl (.cons rfl (.cons rfl (.nil _)))) ?_; refine tri_region ?_; refine o_move rfl rfl ?_; refine o_move rfl rfl ?_; refine o_nilCheck rfl rfl ?_; refine o_field fo96_0 rfl rfl ?_; refine o_load agg58 (by repeat (first | exact Nth.z | apply Nth.s)) rfl rfl rfl ?_; refine o_sliceSl Tryz.underlying58 sz62 rfl rfl rfl (by omega) (by omega) (by omega) ?_; refine triL_num (v' := pSl a k0 T (ts.drop 1)) (cut_pS a k0 hA.suf hA.env.len (by omega)) ?_; refine o_nilCheck rfl rfl ?_; refine o_field fo96_0 rfl rfl ?_; refine o_store sz58 (by repeat (first | exact Nth.z | apply Nth.s)) rfl rfl rfl rfl rfl (Nat.le_of_ble_eq_true rfl) rfl ?_; refine triL_nilN ?_; refine tri_seq ?_; refine tri_slots [(4, _), (2, _)] (.cons rfl (.cons rfl (.nil _))) ?_; refine tri_region ?_; refine o_move rfl rfl ?_; refine o_build (bval27_0_1 _ _) rfl rfl ?_; refine o_callP (first := []) (cap := []) rfl rfl rfl Tryz.call211 (fun w1 h1 => constP ⟨1, decZ (hd ts).t, []⟩ w1) ?_; refine o_storeX rfl ⟨rfl, rfl⟩ sz30 (by repeat (first | exact Nth.z | apply Nth.s)) rfl rfl rfl ?_; refine triL_nilN ?_; refine tri_ret ?_; refine blockQ_ret ?_; refine thenQ_ret ?_; refine endC1 rfl agg30 sz30 (by repeat (first | exact Nth.z | apply Nth.s)) rfl rfl ?_
    exact fin_pturn (J := XR) ⟨.mk 1 ⟨1, decZ (hd ts).t, []⟩ [] [] 0 [], ts.drop 1, [], _⟩ rfl ⟨by unfold thingP; rw [if_pos h0]; rfl, ⟨rfl, rfl⟩⟩ (fun w2 hw2 => (hw2.leaf 1 ⟨1, decZ (hd ts).t, []⟩ [] [] 0).sel [3, 0] (by decide))
  · skip
    have h0 : ¬ (hd ts).k = 2 := h0
    refine tri_seq ?_; refine tri_slots [(3, _), (2, _), (0, _)] (.cons rfl (.cons rfl (.cons rfl (.nil _)))) ?_; refine tri_region ?_; refine o_field fo62_0 rfl rfl ?_; refine o_load agg3 (by repeat (first | exact Nth.z | apply Nth.s)) rfl rfl rfl ?_; refine o_eqlI rfl rfl rfl ?_; refine o_assignN rfl rfl ?_; refine tri_if rfl (fun h1 => ?_) (fun h1 => ?_)
    · skip
      have h1 : (hd ts).k = 3 := h1
      have hg := hA.good.drop (by rw [h1]; decide)
      have hl2 := hg.ne
      rw [List.length_drop] at hl2
      refine tri_seq ?_; refine tri_slots [(3, _), (2, _), (0, _)] (.cons rfl (.cons rfl (.cons rfl (.nil _)))) ?_; refine tri_region ?_; refine o_move rfl rfl ?_; refine o_move rfl rfl ?_; refine o_nilCheck rfl rfl ?_; refine o_field fo96_0 rfl rfl ?_; refine o_load agg58 (by repeat (first | exact Nth.z | apply Nth.s)) rfl rfl rfl ?_; refine o_sliceSl Tryz.underlying58 sz62 rfl rfl rfl (by omega) (by omega) (by omega) ?_; refine triL_num (v' := pSl a k0 T (ts.drop 1)) (cut_pS a k0 hA.suf hA.env.len (by omega)) ?_; refine o_nilCheck rfl rfl ?_; refine o_field fo96_0 rfl rfl ?_; refine o_store sz58 (by repeat (first | exact Nth.z | apply Nth.s)) rfl rfl rfl rfl rfl (Nat.le_of_ble_eq_true rfl) rfl ?_; refine triL_nilN ?_; refine tri_seq ?_; refine tri_slots [(3, _), (2, _)] (.cons rfl (.cons rfl (.nil _))) ?_; refine tri_region ?_; refine o_field fo62_1 rfl rfl ?_; refine o_load agg9 (by repeat (first | exact Nth.z | apply Nth.s)) rfl rfl rfl ?_; refine o_build (bval27_0_2 _ _) rfl rfl ?_; refine o_callP (first := []) (cap := []) rfl rfl rfl Tryz.call211 (fun w1 h1 => constP ⟨2, 0, (hd ts).t⟩ w1) ?_; refine o_storeX rfl ⟨rfl, rfl⟩ sz30 (by repeat (first | exact Nth.z | apply Nth.s)) rfl rfl rfl ?_; refine triL_nilN ?_; refine tri_ret ?_; refine blockQ_ret ?_; refine thenQ_ret ?_; refine endC1 rfl agg30 sz30 (by repeat (first | exact Nth.z | apply Nth.s)) rfl rfl ?_
      exact fin_pturn (J := XR) ⟨.mk 1 ⟨2, 0, (hd ts).t⟩ [] [] 0 [], ts.drop 1, [], _⟩ rfl ⟨by unfold thingP; rw [if_neg h0, if_pos h1]; rfl, ⟨rfl, rfl⟩⟩ (fun w2 hw2 => (hw2.leaf 1 ⟨2, 0, (hd ts).t⟩ [] [] 0).sel [3, 0] (by decide))
    · skip
      have h1 : ¬ (hd ts).k = 3 := h1
      refine tri_seq ?_; refine tri_slots [(3, _), (2, _), (0, _)] (.cons rfl (.cons rfl (.cons rfl (.nil _)))) ?_; refine tri_region ?_; refine o_move rfl rfl ?_; refine o_callN (first := []) (cap := []) [pb] (by repeat (first | exact Nth.z | apply Nth.s)) rfl rfl rfl Tryz.call90 lend_box lend_box' (fun w1 h1 h2 => wordP nullB pb a k0 T ts d w1 (hA.sub h1.chg (Cuts.refl hA.good) hA.dep h2)) (fun ch hF => hF.elim) (fun u_ hu_ => ?_); refine o_assignN rfl rfl ?_; refine tri_cond rfl (fun h2 => ?_) (fun h2 => ?_)
      · skip
        refine tri_seq ?_; refine tri_slots [(2, _)] (.cons rfl (.nil _)) ?_
        rw [if_pos h2]
        refine tri_region ?_; refine o_build bval27 rfl rfl ?_; refine o_callP (first := []) (cap := []) rfl rfl rfl Tryz.call211 (fun w1 h1 => constP Val.zero w1) ?_; refine o_storeX rfl ⟨rfl, rfl⟩ sz30 (by repeat (first | exact Nth.z | apply Nth.s)) rfl rfl rfl ?_; refine triL_nilN ?_; refine tri_ret ?_; refine blockQ_ret ?_; refine thenQ_ret ?_; refine endC1 rfl agg30 sz30 (by repeat (first | exact Nth.z | apply Nth.s)) rfl rfl ?_
        exact fin_pturn (J := XR) ⟨.mk 1 Val.zero [] [] 0 [], ts.drop 1, [], _⟩ rfl ⟨by unfold thingP; rw [if_neg h0, if_neg h1, if_pos h2]; rfl, ⟨rfl, rfl⟩⟩ (fun w2 hw2 => (hw2.leaf 1 Val.zero [] [] 0).sel [3, 0] (by decide))
      · skip
        refine tri_seq ?_
        rw [if_neg (ne_t h2)]
        refine tri_region ?_; refine o_move rfl rfl ?_; refine o_callN (first := []) (cap := []) [pb] (by repeat (first | exact Nth.z | apply Nth.s)) rfl rfl rfl Tryz.call90 lend_box lend_box' (fun w1 h1 h2 => wordP trueB pb a k0 T ts d w1 (hA.sub h1.chg (Cuts.refl hA.good) hA.dep h2)) (fun ch hF => hF.elim) (fun u_ hu_ => ?_); refine o_assignN rfl rfl ?_; refine tri_cond rfl (fun h3 => ?_) (fun h3 => ?_)
        · skip
          refine tri_seq ?_; refine tri_slots [(2, _)] (.cons rfl (.nil _)) ?_
          rw [if_pos h3]
          refine tri_region ?_; refine o_build (bval27_0_1 _ _) rfl rfl ?_; refine o_callP (first := []) (cap := []) rfl rfl rfl Tryz.call211 (fun w1 h1 => constP ⟨3, 1, []⟩ w1) ?_; refine o_storeX rfl ⟨rfl, rfl⟩ sz30 (by repeat (first | exact Nth.z | apply Nth.s)) rfl rfl rfl ?_; refine triL_nilN ?_; refine tri_ret ?_; refine blockQ_ret ?_; refine thenQ_ret ?_; refine endC1 rfl agg30 sz30 (by repeat (first | exact Nth.z | apply Nth.s)) rfl rfl ?_
          exact fin_pturn (J := XR) ⟨.mk 1 ⟨3, 1, []⟩ [] [] 0 [], ts.drop 1, [], _⟩ rfl ⟨by unfold thingP; rw [if_neg h0, if_neg h1, if_neg (by rw [h2]; decide), if_pos h3]; rfl, ⟨rfl, rfl⟩⟩ (fun w2 hw2 => (hw2.leaf 1 ⟨3, 1, []⟩ [] [] 0).sel [3, 0] (by decide))
        · skip
          refine tri_seq ?_; refine tri_slots [(3, _), (2, _), (0, _)] (.cons rfl (.cons rfl (.cons rfl (.nil _)))) ?_
          rw [if_neg (ne_t h3)]
          refine tri_region ?_; refine o_move rfl rfl ?_; refine o_callN (first := []) (cap := []) [pb] (by repeat (first | exact Nth.z | apply Nth.s)) rfl rfl rfl Tryz.call90 lend_box lend_box' (fun w1 h1 h2 => wordP falseB pb a k0 T ts d w1 (hA.sub h1.chg (Cuts.refl hA.good) hA.dep h2)) (fun ch hF => hF.elim) (fun u_ hu_ => ?_); refine o_assignN rfl rfl ?_; refine tri_cond rfl (fun h4 => ?_) (fun h4 => ?_)
          · skip
            refine tri_seq ?_; refine tri_slots [(2, _)] (.cons rfl (.nil _)) ?_
            rw [if_pos h4]
            refine tri_region ?_; refine o_build (bval27_0 _) rfl rfl ?_; refine o_callP (first := []) (cap := []) rfl rfl rfl Tryz.call211 (fun w1 h1 => constP ⟨3, 0, []⟩ w1) ?_; refine o_storeX rfl ⟨rfl, rfl⟩ sz30 (by repeat (first | exact Nth.z | apply Nth.s)) rfl rfl rfl ?_; refine triL_nilN ?_; refine tri_ret ?_; refine blockQ_ret ?_; refine thenQ_ret ?_; refine endC1 rfl agg30 sz30 (by repeat (first | exact Nth.z | apply Nth.s)) rfl rfl ?_
            exact fin_pturn (J := XR) ⟨.mk 1 ⟨3, 0, []⟩ [] [] 0 [], ts.drop 1, [], _⟩ rfl ⟨by unfold thingP; rw [if_neg h0, if_neg h1, if_neg (by rw [h2]; decide), if_neg (by rw [h3]; decide), if_pos h4]; rfl, ⟨rfl, rfl⟩⟩ (fun w2 hw2 => (hw2.leaf 1 ⟨3, 0, []⟩ [] [] 0).sel [3, 0] (by decide))
          · skip
            refine tri_seq ?_
            rw [if_neg (ne_t h4)]
            refine tri_region ?_; refine o_move rfl rfl ?_; refine o_callN (first := []) (cap := []) [pb] (by repeat (first | exact Nth.z | apply Nth.s)) rfl rfl rfl Tryz.call46 lend_box lend_box' (fun w1 h1 h2 => signP [40] pb a k0 T ts d w1 (hA.sub h1.chg (Cuts.refl hA.good) hA.dep h2)) (fun ch hF => hF.elim) (fun u_ hu_ => ?_); refine o_assignN rfl rfl ?_; refine tri_cond rfl (fun h5 => ?_) (fun h5 => ?_)
            · skip
              have hcu := cuts_one (Cuts.refl hA.good) (by decide) h5
              have hlt := hA.good.lt
              refine tri_seq ?_; refine tri_slots [(3, _), (2, _), (0, _)] (.cons rfl (.cons rfl (.cons rfl (.nil _)))) ?_
              rw [if_pos h5]
              refine tri_region ?_; refine o_move rfl rfl ?_; refine o_loadBTk agg62 sz62 (by repeat (first | exact Nth.z | apply Nth.s)) rfl rfl ?_; refine o_callN (first := []) (cap := []) [pb] (by repeat (first | exact Nth.z | apply Nth.s)) rfl rfl rfl Tryz.call167 lend_box lend_box' (fun w1 h1 h2 => deeperP (hd ts) pb a k0 T (ts.drop 1) d w1 (hA.sub h1.chg hcu hA.dep h2)) (fun ch ⟨hd1, hd2⟩ => fin_panic ⟨(191, (hd ts).a), by unfold thingP; rw [if_neg h0, if_neg h1, if_neg (by rw [h2]; decide), if_neg (by rw [h3]; decide), if_neg (by rw [h4]; decide), if_pos h5, if_pos hd1], hd2⟩) (fun u_ hd1 => ?_); refine triL_nilN ?_; refine tri_seq ?_; refine tri_slots [(2, _), (0, _)] (.cons rfl (.cons rfl (.nil _))) ?_; refine tri_region ?_; refine o_move rfl rfl ?_; refine o_callN (first := []) (cap := []) [pb] (by repeat (first | exact Nth.z | apply Nth.s)) rfl rfl rfl Tryz.call100 lend_box lend_box' (fun w1 h1 h2 => ih.l1 pb a k0 T (ts.drop 1) (d + 1) w1 (hA.sub h1.chg hcu hd1 h2) (by omega)) (fun ch ⟨x, hx1, hx2⟩ => fin_panic ⟨x, by unfold thingP; rw [if_neg h0, if_neg h1, if_neg (by rw [h2]; decide), if_neg (by rw [h3]; decide), if_neg (by rw [h4]; decide), if_pos h5, if_neg (by omega), hx1]; rfl, hx2⟩) (fun j hj => ?_); refine o_alloc _ rfl zero30 rfl (fun b6 => ?_); refine o_storeX rfl hj.2 sz30 (by repeat (first | exact Nth.z | apply Nth.s)) rfl rfl rfl ?_; refine triL_nilN ?_; refine tri_seq ?_
              have htj := exP_takes f 1 (d + 1) _ hcu.2 j.e j.us hj.1
              refine tri_region ?_; refine o_move rfl rfl ?_; refine o_callN (first := []) (cap := []) [pb] (by repeat (first | exact Nth.z | apply Nth.s)) rfl rfl rfl Tryz.call99 lend_box lend_box' (fun w1 h1 h2 => mustP [41] pb a k0 T j.us (d + 1) w1 (hA.sub h1.chg (hcu.trans htj.1) hd1 h2)) (fun ch ⟨hm1, hm2⟩ => fin_panic ⟨_, by unfold thingP; rw [if_neg h0, if_neg h1, if_neg (by rw [h2]; decide), if_neg (by rw [h3]; decide), if_neg (by rw [h4]; decide), if_pos h5, if_neg (by omega), hj.1]; exact if_neg (by rw [hm1]; decide), hm2⟩) (fun u_ hm => ?_); refine triL_nilN ?_; refine tri_seq ?_; refine tri_slots [(6, _), (2, _), (0, _)] (.cons rfl (.cons rfl (.cons rfl (.nil _)))) ?_; refine tri_region ?_; refine o_move rfl rfl ?_; refine o_nilCheck rfl rfl ?_; refine o_field fo96_1 rfl rfl ?_; refine o_load agg3 (by repeat (first | exact Nth.z | apply Nth.s)) rfl rfl rfl ?_; refine o_subN rfl rfl rfl (by omega) ?_; refine triL_num (v' := .int .i64 (d : Int)) (congrArg (Value.int .i64) (by omega)) ?_; refine o_nilCheck rfl rfl ?_; refine o_field fo96_1 rfl rfl ?_; refine o_store sz3 (by repeat (first | exact Nth.z | apply Nth.s)) rfl rfl rfl rfl rfl (Nat.le_of_ble_eq_true rfl) rfl ?_; refine triL_nilN ?_; refine tri_seq ?_; refine tri_slots [(6, _), (2, _)] (.cons rfl (.cons rfl (.nil _))) ?_; refine tri_region ?_; refine o_loadX hj.2 agg30 sz30 (by repeat (first | exact Nth.z | apply Nth.s)) rfl rfl ?_; refine o_storeX rfl hj.2 sz30 (by repeat (first | exact Nth.z | apply Nth.s)) rfl rfl rfl ?_; refine triL_nilN ?_; refine tri_ret ?_; refine blockQ_ret ?_; refine thenQ_ret ?_; refine endC1 rfl agg30 sz30 (by repeat (first | exact Nth.z | apply Nth.s)) rfl hj.2.len ?_
              exact fin_pturn (J := XR) ⟨j.e, j.us.drop 1, _, _⟩ rfl ⟨by unfold thingP; rw [if_neg h0, if_neg h1, if_neg (by rw [h2]; decide), if_neg (by rw [h3]; decide), if_neg (by rw [h4]; decide), if_pos h5, if_neg (by omega), hj.1]; exact if_pos hm, hj.2⟩ (fun w2 hw2 => hw2.sel [4, 1] (by decide))
            · skip
              refine tri_skip ?_; refine blockQ_normal ?_; refine thenQ_normal ?_; refine tri_seq ?_; refine tri_slots [(2, _), (0, _)] (.cons rfl (.cons rfl (.nil _))) ?_
              rw [if_neg (ne_t h5)]
              refine tri_region ?_; refine o_move rfl rfl ?_; refine o_callN (first := []) (cap := []) [pb] (by repeat (first | exact Nth.z | apply Nth.s)) rfl rfl rfl Tryz.call92 lend_box lend_box' (fun w1 h1 h2 => nameP_ pb a k0 T ts d w1 (hA.sub h1.chg (Cuts.refl hA.good) hA.dep h2)) (fun ch ⟨hn1, hn2⟩ => fin_panic ⟨_, by unfold thingP; rw [if_neg h0, if_neg h1, if_neg (by rw [h2]; decide), if_neg (by rw [h3]; decide), if_neg (by rw [h4]; decide), if_neg (by rw [h5]; decide)]; exact ref_bad1 hn1, hn2⟩) (fun u_ hn => ?_); refine o_build (built30_0_3 _ _) rfl rfl ?_; refine o_alloc _ rfl zero30 rfl (fun b7 => ?_); refine o_store sz30 (by repeat (first | exact Nth.z | apply Nth.s)) rfl rfl rfl rfl rfl (Nat.le_of_ble_eq_true rfl) rfl ?_; refine triL_nilN ?_; refine tri_seq ?_; refine tri_seq ?_
              have hcu : Cuts ts (ts.drop 1) := ⟨List.drop_suffix 1 ts, hA.good.name hn⟩
              refine tri_region ?_; refine o_move rfl rfl ?_; refine o_callN (first := []) (cap := []) [pb] (by repeat (first | exact Nth.z | apply Nth.s)) rfl rfl rfl Tryz.call46 lend_box lend_box' (fun w1 h1 h2 => signP [46] pb a k0 T (ts.drop 1) d w1 (hA.sub h1.chg hcu hA.dep h2)) (fun ch hF => hF.elim) (fun u_ hu_ => ?_); refine triL_nilN ?_; refine tri_cond rfl (fun h6 => ?_) (fun h6 => ?_)
              · skip
                refine tri_slots [(7, _), (2, _), (0, _)] (.cons rfl (.cons rfl (.cons rfl (.nil _)))) ?_
                rw [if_pos h6]
                refine MP.tri_mix ([box b7 30 [.int .i64 2, .int .i64 (Val.zero).k, .int .i64 (Val.zero).n, .string (B (Val.zero).s), .string (B []), .string (B (hd ts).t), .int .i64 0, .slice none 0 0]]) [(0, true), (1, true), (2, true), (4, true), (3, false), (5, false), (6, false), (7, false)] [5, 6, 7] (by kernel_rfl) (by kernel_rfl) (fun _ h => h.sel [0] (by decide)) ?_; refine MP.mix_fix rfl ?_; refine o_field fo30_3 rfl rfl ?_; refine triL_nil ⟨rfl, ?_⟩; refine MP.mix_fix rfl ?_; refine o_load agg9 (by repeat (first | exact Nth.z | apply Nth.s)) rfl rfl rfl ?_; refine triL_nil ⟨rfl, ?_⟩; refine MP.mix_fix rfl ?_; refine o_move rfl rfl ?_; refine triL_nil ⟨rfl, ?_⟩; refine MP.mix_fix rfl ?_; refine o_field fo30_2 rfl rfl ?_; refine triL_nil ⟨rfl, ?_⟩; refine MP.mix_op rfl ?_; refine o_callN (first := []) (cap := []) [pb] (by repeat (first | exact Nth.z | apply Nth.s)) rfl rfl rfl Tryz.call92 lend_box lend_box' (fun w1 h1 h2 => nameP_ pb a k0 T ((ts.drop 1).drop 1) d w1 (hA.sub h1.chg (cuts_one hcu (by decide) h6) hA.dep h2)) (fun ch ⟨hm1, hm2⟩ => fin_panic ⟨_, by unfold thingP; rw [if_neg h0, if_neg h1, if_neg (by rw [h2]; decide), if_neg (by rw [h3]; decide), if_neg (by rw [h4]; decide), if_neg (by rw [h5]; decide)]; exact ref_bad2 hn h6 hm1, hm2⟩) (fun u_ hm => ?_); refine triL_nil (show _ ∧ _ from ⟨fun _ _ h => h.sel [0] (by decide), ?_⟩); refine MP.mix_op rfl ?_; refine o_store sz9 (by repeat (first | exact Nth.z | apply Nth.s)) rfl rfl rfl rfl rfl (Nat.le_of_ble_eq_true rfl) rfl ?_; refine triL_nil (show _ ∧ _ from ⟨fun hh => absurd hh (by decide), ?_⟩); refine MP.mix_op rfl ?_; refine o_field fo30_3 rfl rfl ?_; refine triL_nil (show _ ∧ _ from ⟨fun hh => absurd hh (by decide), ?_⟩); refine MP.mix_op rfl ?_; refine o_store sz9 (by repeat (first | exact Nth.z | apply Nth.s)) rfl rfl rfl rfl rfl (Nat.le_of_ble_eq_true rfl) rfl ?_; refine triL_nil (show _ ∧ _ from ⟨fun hh => absurd hh (by decide), ?_⟩); refine MP.mix_nil ?_; refine thenQ_normal ?_; refine tri_seq ?_; refine tri_slots [(7, _), (2, _)] (.cons rfl (.cons rfl (.nil _))) ?_; refine tri_region ?_; refine o_loadX ⟨rfl, rfl⟩ agg30 sz30 (by repeat (first | exact Nth.z | apply Nth.s)) rfl rfl ?_; refine o_storeX rfl ⟨rfl, rfl⟩ sz30 (by repeat (first | exact Nth.z | apply Nth.s)) rfl rfl rfl ?_; refine triL_nilN ?_; refine tri_ret ?_; refine endC1 rfl agg30 sz30 (by repeat (first | exact Nth.z | apply Nth.s)) rfl rfl ?_
                exact fin_pturn (J := XR) ⟨.mk 2 Val.zero (hd ts).t (hd ((ts.drop 1).drop 1)).t 0 [], ((ts.drop 1).drop 1).drop 1, [], _⟩ rfl ⟨by unfold thingP; rw [if_neg h0, if_neg h1, if_neg (by rw [h2]; decide), if_neg (by rw [h3]; decide), if_neg (by rw [h4]; decide), if_neg (by rw [h5]; decide)]; exact ref_two hn h6 hm, ⟨rfl, rfl⟩⟩ (fun w2 hw2 => (hw2.leaf 2 Val.zero (hd ts).t (hd ((ts.drop 1).drop 1)).t 0).sel [4, 0] (by decide))
              · skip
                rw [if_neg (ne_t h6)]
                refine tri_skip ?_; refine thenQ_normal ?_; refine tri_seq ?_; refine tri_slots [(7, _), (2, _)] (.cons rfl (.cons rfl (.nil _))) ?_; refine tri_region ?_; refine o_loadX ⟨rfl, rfl⟩ agg30 sz30 (by repeat (first | exact Nth.z | apply Nth.s)) rfl rfl ?_; refine o_storeX rfl ⟨rfl, rfl⟩ sz30 (by repeat (first | exact Nth.z | apply Nth.s)) rfl rfl rfl ?_; refine triL_nilN ?_; refine tri_ret ?_; refine endC1 rfl agg30 sz30 (by repeat (first | exact Nth.z | apply Nth.s)) rfl rfl ?_
                exact fin_pturn (J := XR) ⟨.mk 2 Val.zero [] (hd ts).t 0 [], ts.drop 1, [], _⟩ rfl ⟨by unfold thingP; rw [if_neg h0, if_neg h1, if_neg (by rw [h2]; decide), if_neg (by rw [h3]; decide), if_neg (by rw [h4]; decide), if_neg (by rw [h5]; decide)]; exact ref_one hn h6, ⟨rfl, rfl⟩⟩ (fun w2 hw2 => (hw2.leaf 2 Val.zero [] (hd ts).t 0).sel [4, 0] (by decide))
theorem xall : ∀ f, XAll Tryz.prog f
  | 0 => ⟨fun _ _ _ _ _ _ _ _ h => absurd h (by omega), fun _ _ _ _ _ _ _ _ _ _ _ h => absurd h (by omega), fun _ _ _ _ _ _ _ _ h => absurd h (by omega), fun _ _ _ _ _ _ _ _ h => absurd h (by omega), fun _ _ _ _ _ _ _ _ h => absurd h (by omega), fun _ _ _ _ _ _ _ _ _ _ _ h => absurd h (by omega), fun _ _ _ _ _ _ _ _ h => absurd h (by omega), fun _ _ _ _ _ _ _ _ h => absurd h (by omega)⟩
  | f + 1 => ⟨orK f (xall f), or1K f (xall f), notK f (xall f), cmpK f (xall f), sumK f (xall f), sum1K f (xall f), minusK f (xall f), thingK f (xall f)⟩
end Go.Proofs.YtjbpkcbefmpfgaaGreatDoor
