/- A region whose order is drawn, and in which some operations change the world: one walk serves every order, where those that are fixed come as soon as they may, and each of the others is alone when it comes. Plain lemmas over any program. -/
import Derived.Test.YtdcdpegomncomaaGreatDoorWk5
namespace Go.WK
open Go.RowKit

section
variable {P : Program} {ops : Array Oper} {md : Region.Mode} {C : World → Prop} {kp : Nat → Bool}

abbrev noExit : Exit → Act → World → Prop := fun _ _ _ => False

/-- What may be new behind an operation that keeps the class; behind another one: nothing. -/
def adv (b : Bool) (w w' : World) : Prop := match b with | true => Chg [] w w' | false => w' = w
theorem adv_chg {b : Bool} {w w' : World} (h : adv b w w') : Chg [] w w' := by
  cases b with
  | true => exact h
  | false => rw [show w' = w from h]; exact Chg.refl _ _
theorem adv_refl (b : Bool) (w : World) : adv b w w := by
  cases b with
  | true => exact Chg.refl _ _
  | false => rfl

/-- Whatever order is picked from here on; those that keep the class say so, and what follows holds behind whatever is new. -/
def wpAnyM (P : Program) (md : Region.Mode) (ops : Array Oper) (C : World → Prop) (kp : Nat → Bool) (Q : Act → World → Prop) : Nat → Array Bool → Act → World → Prop
  | 0, listed, a, w => Region.ready md ops listed = [] ∧ Q a w
  | f + 1, listed, a, w =>
    (Region.ready md ops listed = [] → Q a w) ∧
    ∀ i ∈ Region.ready md ops listed, wpOp P ops noExit i (fun a' w' => (kp i = true → C w') ∧ ∀ w'', adv (kp i) w' w'' → wpAnyM P md ops C kp Q f (listed.setIfInBounds i true) a' w'') a w

theorem wpOp_exit {Q : Exit → Act → World → Prop} {i : Nat} {K : Act → World → Prop} {a : Act} {w : World} (h : wpOp P ops noExit i K a w) : wpOp P ops Q i K a w := by
  unfold wpOp at h ⊢
  split
  · rename_i ho; simp only [ho] at h; exact h
  · rename_i o ho
    simp only [ho] at h
    split
    · rename_i hw
      simp only [hw, if_true] at h
      rcases h with h | ⟨_, _, _, h⟩
      · exact .inl (upon_mono (fun _ _ h => h) (fun _ _ _ h => h.elim) (fun _ _ h => h.elim) _ h)
      · exact h.elim
    · rename_i hw; simp only [hw] at h; exact h

theorem wpAny_of_mix {Q : Exit → Act → World → Prop} : ∀ (f : Nat) (listed : Array Bool) (a : Act) (w : World), wpAnyM P md ops C kp (Q .normal) f listed a w → wpAny P md ops Q f listed a w
  | 0, _, _, _, h => h
  | f + 1, _, _, _, h => ⟨h.1, fun i hi => wpOp_mono (fun a' w' h' => wpAny_of_mix f _ a' w' (h'.2 w' (adv_refl _ _))) (wpOp_exit (h.2 i hi))⟩

/-- In this state the operation yields 'v' in every world of the class, and leaves what is there. -/
def YieldsF (P : Program) (ops : Array Oper) (C : World → Prop) (o : Oper) (v : Value) (a : Act) : Prop :=
  (Region.wanted o (yielded ops a.tmps) = true ∧ ∀ w, C w → o.quietAt P a (Chg [] w) w v) ∨ (Region.wanted o (yielded ops a.tmps) = false ∧ v = undef)

theorem YieldsF.of_same {o : Oper} {v : Value} {a a' : Act} (hy : YieldsF P ops C o v a) (he : execOp a'.eval o = execOp a.eval o)
    (hw : Region.wanted o (yielded ops a'.tmps) = Region.wanted o (yielded ops a.tmps)) : YieldsF P ops C o v a' := by
  unfold YieldsF Oper.quietAt at *
  rw [he, hw]
  exact hy

theorem YieldsF.wpOp {i : Nat} {o : Oper} {v : Value} {a : Act} {w : World} (hi : ops[i]? = some o) (hy : YieldsF P ops C o v a) (hC : C w) {K : Act → World → Prop} (h : ∀ w', Chg [] w w' → K (a.put o.dst v) w') : wpOp P ops noExit i K a w := by
  unfold Go.wpOp
  simp only [hi]
  rcases hy with ⟨hw, hv⟩ | ⟨hw, rfl⟩
  · simp only [hw, if_true]
    left
    have h3 := hv w hC
    unfold Oper.quietAt at h3
    unfold Oper.wp
    generalize (execOp a.eval o).run P w = r at *
    cases r with
    | ok n w' =>
      cases n <;> simp only [Oper.quietUpon] at h3 <;> simp only [Oper.upon]
      case value u => obtain ⟨e1, e2⟩ := h3; rw [e1, e2]; exact h _ (Chg.refl _ _)
      case skip => obtain ⟨e1, e2⟩ := h3; rw [e1, ← e2]; exact h _ (Chg.refl _ _)
      case enter f args => obtain ⟨e1, hc⟩ := h3; rw [e1]; exact hc.mono fun e w'' ⟨he, hw''⟩ => by subst he; exact h _ hw''
    | halt x w' => simp only [Oper.quietUpon] at h3
  · simp only [hw, Bool.false_eq_true, if_false]; exact h _ (Chg.refl _ _)

theorem put_defers (a : Act) (d : Deferred) (i : Option Tmp) (v : Value) : ({ (a.put i v) with defers := d :: (a.put i v).defers } : Act) = ({ a with defers := d :: a.defers } : Act).put i v := by
  cases i <;> rfl

theorem wpOp_put {j : Nat} {oi oj : Oper} {v : Value} {w : World} (hj : ops[j]? = some oj) (hap : oi.apart ops oj = true)
    (hsi : ∀ cs b, oi.op ≠ .select cs b) (hsj : ∀ cs b, oj.op ≠ .select cs b) {K : Act → World → Prop} {a : Act}
    (hy : YieldsF P ops C oi v a) (h : wpOp P ops noExit j K (a.put oi.dst v) w) :
    wpOp P ops noExit j (fun a' w' => YieldsF P ops C oi v a' ∧ K (a'.put oi.dst v) w') a w := by
  obtain ⟨h1, h2, h3⟩ := Oper.apart_spec hap
  have keep : ∀ (a : Act), YieldsF P ops C oi v a → ∀ u, YieldsF P ops C oi v (a.put oj.dst u) := fun a hy u =>
    hy.of_same (execOp_put oi hsi a oj.dst u h3) (wanted_put oi a oj.dst u h3)
  unfold wpOp at *
  simp only [hj] at *
  rw [wanted_put oj a oi.dst v h1] at h
  split
  · rename_i hw
    simp only [hw, if_true] at h
    rcases h with h | ⟨_, _, _, h⟩
    · left
      unfold Oper.wp at *
      rw [execOp_put oj hsj a oi.dst v h1] at h
      generalize (execOp a.eval oj).run P w = r at *
      cases r with
      | ok n w' =>
        cases n <;> simp only [Oper.upon] at h ⊢
        case value u => exact ⟨keep a hy u, by rw [← Act.put_comm a v u h2]; exact h⟩
        case skip => exact ⟨keep a hy _, by rw [← Act.put_comm a v undef h2]; exact h⟩
        case defer d =>
          rw [put_defers] at h
          exact ⟨keep { a with defers := d :: a.defers } (hy.of_same rfl rfl) undef, by rw [← Act.put_comm _ v undef h2]; exact h⟩
        case enter f args =>
          refine Calls.mono h fun e w'' he => ?_
          cases e with
          | returned u => exact ⟨keep a hy u, by rw [← Act.put_comm a v u h2]; exact he⟩
          | panicked ch => exact he
          | outgrown => exact he
        case row nm args => exact Rows.mono h fun u w'' he => ⟨keep a hy u, by rw [← Act.put_comm a v u h2]; exact he⟩
        all_goals exact h
      | halt x w' => cases x <;> simp only [Oper.upon] at h ⊢ <;> exact h
    · exact h.elim
  · rename_i hw
    simp only [hw] at h
    exact ⟨keep a hy _, by rw [← Act.put_comm a v undef h2]; exact h⟩

/-- What those that are listed wait for is listed. -/
def Shut (md : Region.Mode) (ops : Array Oper) (listed : Array Bool) : Prop := ∀ (j : Nat) (oj : Oper), ops[j]? = some oj → listed.getD j false = true → ∀ e ∈ oj.after, Region.binds md e = true → listed.getD e.on false = true
theorem Shut.set {listed : Array Bool} {i : Nat} (inv : Shut md ops listed) (hi : i ∈ Region.ready md ops listed) : Shut md ops (listed.setIfInBounds i true) := by
  obtain ⟨_, oi, hoi, hall⟩ := mem_ready.1 hi
  have up : ∀ k, listed.getD k false = true → (listed.setIfInBounds i true).getD k false = true := fun k hk => by
    by_cases hik : i = k
    · subst hik
      have hlt : i < listed.size := by
        rcases Nat.lt_or_ge i listed.size with h | h
        · exact h
        · simp [Array.getElem?_eq_none h] at hk
      simp [hlt]
    · rw [getD_set_ne false hik]; exact hk
  intro j oj hj hl e he hb
  by_cases hij : i = j
  · subst hij
    obtain rfl : oj = oi := Option.some.inj (hj.symm.trans hoi)
    exact up _ (hall e he hb)
  · rw [getD_set_ne false hij] at hl
    exact up _ (inv j oj hj hl e he hb)
theorem getD_replicate (m j : Nat) : (Array.replicate m false).getD j false = false := by
  rcases Nat.lt_or_ge j m with h | h
  · simp [h]
  · simp [h]
/-- Which ones can't come before 'i'. -/
def blkGo (md : Region.Mode) (i : Nat) : List Oper → Array Bool → Array Bool
  | [], acc => acc
  | o :: l, acc => blkGo md i l (acc.push (acc.size == i || o.after.any (fun e => Region.binds md e && acc.getD e.on false)))
theorem getD_push_lt {acc : Array Bool} {b : Bool} {k : Nat} (h : acc.getD k false = true) : (acc.push b).getD k false = true := by
  rcases Nat.lt_or_ge k acc.size with hk | hk
  · simp [hk] at h
    simp [Nat.lt_succ_of_lt hk, Array.getElem_push_lt hk, h]
  · simp [Array.getElem?_eq_none hk] at h
theorem blkGo_spec (i : Nat) : ∀ (l : List Oper) (acc : Array Bool), (∀ k o, l[k]? = some o → ops[acc.size + k]? = some o) →
    (∀ j, acc.getD j false = true → j = i ∨ ∃ oj, ops[j]? = some oj ∧ ∃ e ∈ oj.after, Region.binds md e = true ∧ e.on < j ∧ acc.getD e.on false = true) →
    ∀ j, (blkGo md i l acc).getD j false = true → j = i ∨ ∃ oj, ops[j]? = some oj ∧ ∃ e ∈ oj.after, Region.binds md e = true ∧ e.on < j ∧ (blkGo md i l acc).getD e.on false = true
  | [], acc, _, h => h
  | o :: l, acc, hl, h => by
    unfold blkGo
    refine blkGo_spec i l _ (fun k o' hk => ?_) (fun j hj => ?_)
    · have := hl (k + 1) o' (by simpa using hk)
      rw [Array.size_push, show acc.size + 1 + k = acc.size + (k + 1) by omega]
      exact this
    · rcases Nat.lt_or_ge j acc.size with hj' | hj'
      · have hj2 : acc.getD j false = true := by simp [hj', Array.getElem_push_lt, Nat.lt_succ_of_lt hj'] at hj ⊢; exact hj
        rcases h j hj2 with h1 | ⟨oj, h1, e, h2, h3, h4, h5⟩
        · exact .inl h1
        · exact .inr ⟨oj, h1, e, h2, h3, h4, getD_push_lt h5⟩
      · rcases Nat.lt_or_ge acc.size j with hj3 | hj3
        · rw [Array.getD_eq_getD_getElem?, Array.getElem?_eq_none (by rw [Array.size_push]; omega)] at hj; cases hj
        · obtain rfl : j = acc.size := by omega
          simp only [Array.getD_eq_getD_getElem?, Array.getElem?_push_size, Option.getD_some, Bool.or_eq_true, beq_iff_eq] at hj
          rcases hj with hj | hj
          · exact .inl hj
          · obtain ⟨e, he, hb⟩ := Array.any_eq_true'.1 hj
            simp only [Bool.and_eq_true] at hb
            have h5 : acc.getD e.on false = true := by rw [Array.getD_eq_getD_getElem?]; exact hb.2
            refine .inr ⟨o, by simpa using hl 0 o rfl, e, he, hb.1, ?_, getD_push_lt h5⟩
            rcases Nat.lt_or_ge e.on acc.size with h6 | h6
            · exact h6
            · rw [Array.getD_eq_getD_getElem?, Array.getElem?_eq_none h6] at h5; cases h5
theorem blk_ready {i j : Nat} {listed : Array Bool} (hs : Shut md ops listed) (hi : listed.getD i true = false) (hji : j ≠ i) (hb : (blkGo md i ops.toList #[]).getD j false = true) : j ∉ Region.ready md ops listed := by
  have spec := blkGo_spec (ops := ops) (md := md) i ops.toList #[] (fun k o hk => by simpa using hk) (fun j hj => by simp at hj)
  have low : ∀ j, (blkGo md i ops.toList #[]).getD j false = true → listed.getD j false = false := by
    intro j
    induction j using Nat.strongRecOn with
    | _ j ih =>
      intro hj
      rcases spec j hj with rfl | ⟨oj, h1, e, h2, h3, h4, h5⟩
      · rcases Nat.lt_or_ge j listed.size with h | h
        · simp [h] at hi ⊢; exact hi
        · simp [Array.getElem?_eq_none h] at hi
      · cases hl : listed.getD j false with
        | false => rfl
        | true => have := hs j oj h1 hl e h2 h3; rw [ih e.on h4 h5] at this; cases this
  intro hr
  obtain ⟨_, oj, hoj, hall⟩ := mem_ready.1 hr
  rcases spec j hb with h | ⟨o', h1, e, h2, h3, _, h5⟩
  · exact hji h
  · obtain rfl : o' = oj := Option.some.inj (h1.symm.trans hoj)
    have := hall e h2 h3
    rw [low _ h5] at this
    cases this

/-- A fixed operation that may come up now may be taken first. -/
theorem wpAnyM_first {Q : Act → World → Prop} {i : Nat} {oi : Oper} {v : Value} (hi : ops[i]? = some oi) (hsel : ∀ (j : Nat) (o : Oper) cs b, ops[j]? = some o → o.op ≠ .select cs b)
    (hext : ∀ w w', C w → Chg [] w w' → C w') (hkp : ∀ (listed : Array Bool) j, Shut md ops listed → listed.getD i true = false → j ≠ i → j ∈ Region.ready md ops listed → kp j = true) :
    ∀ (fuel : Nat) (listed : Array Bool) (a : Act) (w : World), Shut md ops listed →
      (∀ j oj, ops[j]? = some oj → j ≠ i → listed.getD j true = false → (∀ e ∈ oj.after, Region.binds md e = true → e.on ≠ i) → oi.apart ops oj = true) →
      i ∈ Region.ready md ops listed → YieldsF P ops C oi v a → C w →
      (∀ w', Chg [] w w' → wpAnyM P md ops C kp Q fuel (listed.setIfInBounds i true) (a.put oi.dst v) w') → wpAnyM P md ops C kp Q (fuel + 1) listed a w := by
  intro fuel
  induction fuel with
  | zero =>
    intro listed a w _ _ hr hy hC H
    refine ⟨fun h => (by rw [h] at hr; cases hr), fun j hj => ?_⟩
    by_cases hji : j = i
    · subst hji; exact hy.wpOp hi hC fun w' hw' => ⟨fun _ => hext _ _ hC hw', fun w'' h'' => H w'' (hw'.trans (adv_chg h''))⟩
    · have := ready_mono hj hji
      rw [(H w (Chg.refl _ _)).1] at this
      cases this
  | succ fuel ih =>
    intro listed a w hcl hfree hr hy hC H
    refine ⟨fun h => (by rw [h] at hr; cases hr), fun j hj => ?_⟩
    by_cases hji : j = i
    · subst hji; exact hy.wpOp hi hC fun w' hw' => ⟨fun _ => hext _ _ hC hw', fun w'' h'' => H w'' (hw'.trans (adv_chg h''))⟩
    · have h1 := (H w (Chg.refl _ _)).2 j (ready_mono hj hji)
      obtain ⟨hjun, oj, hoj, hall⟩ := mem_ready.1 hj
      have hnot : ∀ e ∈ oj.after, Region.binds md e = true → e.on ≠ i := fun e he hb heq => by
        have h1 := hall e he hb
        have h0 := (mem_ready.1 hr).1
        rw [heq] at h1
        rcases Nat.lt_or_ge i listed.size with h' | h'
        · simp [h'] at h0 h1; rw [h0] at h1; cases h1
        · simp [Array.getElem?_eq_none h'] at h1
      have hap := hfree j oj hoj hji hjun hnot
      have hkj := hkp listed j hcl (mem_ready.1 hr).1 hji hj
      have h2 := wpOp_put hoj hap (fun cs b => hsel i oi cs b hi) (fun cs b => hsel j oj cs b hoj) hy h1
      have hfree' : ∀ k ok, ops[k]? = some ok → k ≠ i → (listed.setIfInBounds j true).getD k true = false →
          (∀ e ∈ ok.after, Region.binds md e = true → e.on ≠ i) → oi.apart ops ok = true := fun k ok hk hki hun hno => by
        refine hfree k ok hk hki ?_ hno
        by_cases hjk : j = k
        · subst hjk; exact hjun
        · rw [getD_set_ne true hjk] at hun; exact hun
      refine wpOp_mono (fun a' w' h3 => ⟨h3.2.1, fun w'' hw'' => ?_⟩) h2
      refine ih (listed.setIfInBounds j true) a' w'' (hcl.set hj) hfree' (ready_mono hr (Ne.symm hji)) h3.1 (hext _ _ (h3.2.1 hkj) (adv_chg hw'')) (fun w3 hw3 => ?_)
      have := h3.2.2 w3 (by rw [hkj] at hw'' ⊢; exact Chg.trans hw'' hw3)
      rw [Array.setIfInBounds_comm _ _ (Ne.symm hji)] at this
      exact this

/-- The order that is walked: 'true': fixed. -/
def mixFrom (md : Region.Mode) (ops : Array Oper) (loose : List Nat) : List (Nat × Bool) → Array Bool → Bool
  | [], listed => (Region.ready md ops listed).isEmpty
  | (i, true) :: l, listed => (Region.ready md ops listed).contains i && (Region.free md ops listed i && (loose.all (fun j => (blkGo md i ops.toList #[]).getD j false) && mixFrom md ops loose l (listed.setIfInBounds i true)))
  | (i, false) :: l, listed => Region.ready md ops listed == [i] && ((!loose.contains i || l.all (fun p => !p.2)) && mixFrom md ops loose l (listed.setIfInBounds i true))
def mixB (md : Region.Mode) (ops : Array Oper) (loose : List Nat) (l : List (Nat × Bool)) : Bool := Region.noSelect ops && ((l.length == ops.size) && mixFrom md ops loose l (Array.replicate ops.size false))

/-- The walk of that order. -/
def wpMix (P : Program) (ops : Array Oper) (C : World → Prop) (loose : List Nat) (Q : Act → World → Prop) : List (Nat × Bool) → Act → World → Prop
  | [], a, w => Q a w
  | (i, true) :: l, a, w => ∃ o v, ops[i]? = some o ∧ YieldsF P ops C o v a ∧ ∀ w', Chg [] w w' → wpMix P ops C loose Q l (a.put o.dst v) w'
  | (i, false) :: l, a, w => wpOp P ops noExit i (fun a' w' => ((!loose.contains i) = true → C w') ∧ ∀ w'', adv (!loose.contains i) w' w'' → wpMix P ops C loose Q l a' w'') a w

theorem wpAnyM_of_mix {Q : Act → World → Prop} {loose : List Nat} (hs : Region.noSelect ops = true) (hext : ∀ w w', C w → Chg [] w w' → C w') : ∀ (l : List (Nat × Bool)) (listed : Array Bool) (a : Act) (w : World),
    mixFrom md ops loose l listed = true → Shut md ops listed → ((∃ p ∈ l, p.2 = true) → C w) → wpMix P ops C loose Q l a w → wpAnyM P md ops C (fun j => !loose.contains j) Q l.length listed a w
  | [], _, _, _, hB, _, _, h => ⟨by simpa [mixFrom] using hB, h⟩
  | (i, true) :: l, listed, a, w, hB, hcl, hC, h => by
    obtain ⟨o, v, hi, hy, hk⟩ := h
    simp only [mixFrom, Bool.and_eq_true] at hB
    obtain ⟨hr, hf, hk', hB'⟩ := hB
    have hCw := hC ⟨_, List.mem_cons_self, rfl⟩
    refine wpAnyM_first hi (Region.noSelect_spec hs) hext (fun lst j hs' hi' hji hj => ?_) l.length listed a w hcl (Region.free_spec hi hf) (by simpa using hr) hy hCw
      (fun w' hw' => wpAnyM_of_mix hs hext l _ _ w' hB' (hcl.set (by simpa using hr)) (fun _ => hext _ _ hCw hw') (hk w' hw'))
    cases hc : loose.contains j with
    | false => rfl
    | true => exact absurd hj (blk_ready hs' hi' hji (List.all_eq_true.1 hk' j (by simpa using hc)))
  | (i, false) :: l, listed, a, w, hB, hcl, hC, h => by
    simp only [mixFrom, Bool.and_eq_true, beq_iff_eq] at hB
    obtain ⟨hr, hl, hB'⟩ := hB
    show wpAnyM P md ops C _ Q (l.length + 1) listed a w
    refine ⟨fun h0 => (by rw [hr] at h0; cases h0), fun j hj => ?_⟩
    rw [hr] at hj
    obtain rfl : j = i := by simpa using hj
    refine wpOp_mono (fun a' w' h' => ⟨h'.1, fun w'' hw'' => wpAnyM_of_mix hs hext l _ a' w'' hB' (hcl.set (by rw [hr]; exact List.mem_cons_self)) ?_ (h'.2 w'' hw'')⟩) h
    rintro ⟨p, hp, hpt⟩
    simp only [Bool.or_eq_true] at hl
    rcases hl with hl | hl
    · exact hext _ _ (h'.1 hl) (adv_chg hw'')
    · have := List.all_eq_true.1 hl p hp
      rw [hpt] at this
      cases this

end

section
variable {cx : Cx} {fs : Slots} {H C : List Chunk} {Q : Post} {ops : Array Oper} {loose : List Nat} {ord : List (Nat × Bool)}

def TriM (cx : Cx) (C : List Chunk) (ops : Array Oper) (loose : List Nat) (fs : Slots) (H : List Chunk) (ord : List (Nat × Bool)) (Q : Post) : Prop :=
  ∀ a w, Has cx.n cx.ds fs a → Sat cx H w → wpMix cx.P ops (Sat cx C) loose (fun a w => lift cx Q .normal a w) ord a w

/-- A region that draws its order, walked in the order 'ord'. -/
theorem tri_mix {id : Nat} {l : List Oper} (C : List Chunk) (ord : List (Nat × Bool)) (loose : List Nat) (hm : cx.P.follows .mixedOrders = true) (hB : mixB .any l.toArray loose ord = true) (hC : ∀ w, Sat cx H w → Sat cx C w)
    (h : TriM cx C l.toArray loose fs H ord Q) : Tri cx fs H (.region id l.toArray true) Q := fun a w ha hw => by
  simp only [mixB, Bool.and_eq_true, beq_iff_eq] at hB
  have h1 := wpAnyM_of_mix hB.1 (fun w w' h k => h.ext k) ord _ a _ hB.2.2 (fun j oj _ hj => by rw [getD_replicate] at hj; cases hj) (fun _ => hC _ hw.drew) (h a _ ha hw.drew)
  rw [hB.2.1] at h1
  exact wp_region_any hm (wpAny_of_mix _ _ _ _ h1)

theorem mix_nil (h : Q .normal fs H) : TriM cx C ops loose fs H [] Q := fun _ _ ha hw => ⟨fs, H, ha, hw, h⟩

theorem mix_fix {i : Nat} {o : Oper} (hi : ops[i]? = some o) (h : TriX true cx ops fs C [o] (fun e fs' _ => e = .normal ∧ TriM cx C ops loose fs' H ord Q)) : TriM cx C ops loose fs H ((i, true) :: ord) Q := fun a w ha hw => by
  have h1 := h a ha
  unfold wpFix at h1
  by_cases hw' : Region.wanted o (yielded ops a.tmps) = true
  · rw [if_pos hw'] at h1
    obtain ⟨v, h2, fs', h3, _, h4⟩ := h1
    exact ⟨o, v, hi, .inl ⟨hw', h2⟩, fun w' hc => h4 _ w' h3 (hw.ext hc)⟩
  · rw [if_neg hw'] at h1
    obtain ⟨fs', h3, _, h4⟩ := h1
    exact ⟨o, undef, hi, .inr ⟨by simpa using hw', rfl⟩, fun w' hc => h4 _ w' h3 (hw.ext hc)⟩

theorem mix_op {i : Nat} {o : Oper} (hi : ops[i]? = some o) (h : TriX false cx ops fs H [o] (fun e fs' H' => e = .normal ∧ ((!loose.contains i) = true → ∀ w, Sat cx H' w → Sat cx C w) ∧ TriM cx C ops loose fs' H' ord Q)) : TriM cx C ops loose fs H ((i, false) :: ord) Q := fun a w ha hw => by
  have h1 := h a w ha hw
  unfold wpList at h1
  unfold wpMix wpOp
  simp only [hi]
  have key : ∀ a' w', wpList cx.P ops (lift cx (fun e fs' H' => e = .normal ∧ ((!loose.contains i) = true → ∀ w, Sat cx H' w → Sat cx C w) ∧ TriM cx C ops loose fs' H' ord Q)) [] a' w' →
      ((!loose.contains i) = true → Sat cx C w') ∧ ∀ w'', adv (!loose.contains i) w' w'' → wpMix cx.P ops (Sat cx C) loose (fun a w => lift cx Q .normal a w) ord a' w'' := by
    rintro a' w' ⟨fs', H', h2, h3, _, h4, h5⟩
    exact ⟨fun hk => h4 hk _ h3, fun w'' hc => h5 _ _ h2 (h3.ext (adv_chg hc))⟩
  split
  · rename_i hw'
    rw [if_pos hw'] at h1
    rcases h1 with h1 | ⟨_, a', w', fs', H', _, _, h2, _⟩
    · exact .inl (upon_mono key (fun _ _ _ ⟨_, _, _, _, h, _⟩ => by cases h) (fun _ _ ⟨_, _, _, _, h, _⟩ => by cases h) _ h1)
    · cases h2
  · rename_i hw'
    rw [if_neg hw'] at h1
    exact key _ _ h1

theorem Sat.dropS {w : World} (k : Nat) (h : Sat cx H w) : Sat cx (H.drop k) w := h.sublist (List.drop_sublist k H)

/-- What is left, one after the other. -/
theorem mix_rest (is : List Nat) (l : List Oper) (hl : is.map (fun i => ops[i]?) = l.map some) (hi : (is.all fun i => loose.contains i) = true) (h : TriX false cx ops fs H l (fun e fs' H' => e = .normal ∧ Q .normal fs' H')) :
    TriM cx C ops loose fs H (is.map fun i => (i, false)) Q := by
  have key : ∀ (is : List Nat) (l : List Oper) (a : Act) (w : World), is.map (fun i => ops[i]?) = l.map some → (is.all fun i => loose.contains i) = true →
      wpList cx.P ops (lift cx (fun e fs' H' => e = .normal ∧ Q .normal fs' H')) l a w → wpMix cx.P ops (Sat cx C) loose (fun a w => lift cx Q .normal a w) (is.map fun i => (i, false)) a w := by
    intro is
    induction is with
    | nil =>
      intro l a w hl _ h
      cases l with
      | nil => obtain ⟨fs', H', h1, h2, _, h3⟩ := h; exact ⟨fs', H', h1, h2, h3⟩
      | cons o l => simp at hl
    | cons i is ih =>
      intro l a w hl hi h
      cases l with
      | nil => simp at hl
      | cons o l =>
        simp only [List.map_cons, List.cons.injEq] at hl
        simp only [List.all_cons, Bool.and_eq_true] at hi
        unfold wpList at h
        simp only [List.map_cons]
        unfold wpMix wpOp
        simp only [hl.1]
        have hk : ∀ a' w', wpList cx.P ops (lift cx (fun e fs' H' => e = .normal ∧ Q .normal fs' H')) l a' w' →
            ((!loose.contains i) = true → Sat cx C w') ∧ ∀ w'', adv (!loose.contains i) w' w'' → wpMix cx.P ops (Sat cx C) loose (fun a w => lift cx Q .normal a w) (is.map fun i => (i, false)) a' w'' := by
          intro a' w' h'
          rw [hi.1]
          exact ⟨fun hf => by simp at hf, fun w'' hc => by rw [show w'' = w' from hc]; exact ih l a' w' hl.2 hi.2 h'⟩
        split
        · rename_i hw'
          rw [if_pos hw'] at h
          rcases h with h | ⟨_, a', w', fs', H', _, _, h2, _⟩
          · exact .inl (upon_mono hk (fun _ _ _ ⟨_, _, _, _, h, _⟩ => by cases h) (fun _ _ ⟨_, _, _, _, h, _⟩ => by cases h) _ h)
          · cases h2
        · rename_i hw'
          rw [if_neg hw'] at h
          exact hk _ _ h
  exact fun a w ha hw => key is l a w hl hi (h a w ha hw)
end
end Go.WK
