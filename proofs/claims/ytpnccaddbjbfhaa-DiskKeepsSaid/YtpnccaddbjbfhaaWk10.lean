/- A region whose order is drawn, in which what is known changes from one operation to the next: as Wk8, but the class of worlds may become another one behind an operation that all others wait for. Plain lemmas over any program. -/
import Derived.Test.YtpnccaddbjbfhaaWk8
namespace Go.WK
open Go.RowKit

section
variable {P : Program} {ops : Array Oper} {md : Region.Mode} {C : World → Prop} {kp : Nat → Bool}

/-- Whatever is new, the class stays. -/
def Ext (C : World → Prop) : Prop := ∀ w w', C w → Chg [] w w' → C w'

/-- Whatever order is picked from here on. -/
def wpAnyN (P : Program) (md : Region.Mode) (ops : Array Oper) (kp : Nat → Bool) (B : World → Prop) (Q : Act → World → Prop) : Nat → (World → Prop) → Array Bool → Act → World → Prop
  | 0, _, listed, a, w => Region.ready md ops listed = [] ∧ Q a w
  | f + 1, C, listed, a, w =>
    (Region.ready md ops listed = [] → Q a w) ∧
    ∀ i ∈ Region.ready md ops listed, wpOp P ops noExit i (fun a' w' => (kp i = true ∧ C w' ∧ ∀ w'', Chg [] w' w'' → wpAnyN P md ops kp B Q f C (listed.setIfInBounds i true) a' w'') ∨
      (kp i = false ∧ ∃ C' : World → Prop, Ext C' ∧ (∀ w, C' w → B w) ∧ C' w' ∧ ∀ w'', Chg [] w' w'' → wpAnyN P md ops kp B Q f C' (listed.setIfInBounds i true) a' w'')) a w

variable {B : World → Prop}
theorem wpAny_of_mixN {Q : Exit → Act → World → Prop} : ∀ (f : Nat) (C : World → Prop) (listed : Array Bool) (a : Act) (w : World), wpAnyN P md ops kp B (Q .normal) f C listed a w → wpAny P md ops Q f listed a w
  | 0, _, _, _, _, h => h
  | f + 1, C, _, _, _, h => ⟨h.1, fun i hi => wpOp_mono (fun a' w' h' => by
      rcases h' with ⟨_, _, h'⟩ | ⟨_, C', _, _, _, h'⟩
      · exact wpAny_of_mixN f C _ a' w' (h' w' (Chg.refl _ _))
      · exact wpAny_of_mixN f C' _ a' w' (h' w' (Chg.refl _ _))) (wpOp_exit (h.2 i hi))⟩

/-- A fixed operation that may come up now may be taken first: fixed in the class (D is C, and no loose one comes), or in every world (D is B). -/
theorem wpAnyN_first {Q : Act → World → Prop} {D : World → Prop} {fr : Bool} {i : Nat} {oi : Oper} {v : Value} (hi : ops[i]? = some oi) (hsel : ∀ (j : Nat) (o : Oper) cs b, ops[j]? = some o → o.op ≠ .select cs b)
    (hki : kp i = true) (hkp : fr = false → ∀ (listed : Array Bool) j, Shut md ops listed → listed.getD i true = false → j ≠ i → j ∈ Region.ready md ops listed → (∀ k, kp k = false → listed.getD k false = true ∨ (blkGo md i ops.toList #[]).getD k false = true) → kp j = true) :
    ∀ (fuel : Nat) (C : World → Prop) (listed : Array Bool) (a : Act) (w : World), Ext C → (∀ w, C w → B w) → (fr = false → D = C) → (fr = true → D = B) → Shut md ops listed →
      (∀ j oj, ops[j]? = some oj → j ≠ i → listed.getD j true = false → (∀ e ∈ oj.after, Region.binds md e = true → e.on ≠ i) → oi.apart ops oj = true) →
      (fr = false → ∀ k, kp k = false → listed.getD k false = true ∨ (blkGo md i ops.toList #[]).getD k false = true) →
      i ∈ Region.ready md ops listed → YieldsF P ops D oi v a → C w →
      (∀ w', Chg [] w w' → wpAnyN P md ops kp B Q fuel C (listed.setIfInBounds i true) (a.put oi.dst v) w') → wpAnyN P md ops kp B Q (fuel + 1) C listed a w := by
  intro fuel
  induction fuel with
  | zero =>
    intro C listed a w hext hCB hD1 hD2 _ _ _ hr hy hC H
    have hDw : D w := by
      cases fr with
      | false => rw [hD1 rfl]; exact hC
      | true => rw [hD2 rfl]; exact hCB w hC
    refine ⟨fun h => (by rw [h] at hr; cases hr), fun j hj => ?_⟩
    by_cases hji : j = i
    · subst hji; exact hy.wpOp hi hDw fun w' hw' => .inl ⟨hki, hext _ _ hC hw', fun w'' h'' => H w'' (hw'.trans h'')⟩
    · have := ready_mono hj hji
      rw [(H w (Chg.refl _ _)).1] at this
      cases this
  | succ fuel ih =>
    intro C listed a w hext hCB hD1 hD2 hcl hfree hlo hr hy hC H
    have hDw : D w := by
      cases fr with
      | false => rw [hD1 rfl]; exact hC
      | true => rw [hD2 rfl]; exact hCB w hC
    refine ⟨fun h => (by rw [h] at hr; cases hr), fun j hj => ?_⟩
    by_cases hji : j = i
    · subst hji; exact hy.wpOp hi hDw fun w' hw' => .inl ⟨hki, hext _ _ hC hw', fun w'' h'' => H w'' (hw'.trans h'')⟩
    · have h1 := (H w (Chg.refl _ _)).2 j (ready_mono hj hji)
      obtain ⟨hjun, oj, hoj, hall⟩ := mem_ready.1 hj
      have hnot : ∀ e ∈ oj.after, Region.binds md e = true → e.on ≠ i := fun e he hb heq => by
        have h1 := hall e he hb
        have h0 := (mem_ready.1 hr).1
        rw [heq] at h1
        rcases Nat.lt_or_ge i listed.size with h' | h'
        · simp [h'] at h0 h1; rw [h0] at h1; cases h1
        · simp [Array.getElem?_eq_none h'] at h1
      have hap := hfree j oj hoj hji hjun hnot
      have h2 := wpOp_put hoj hap (fun cs b => hsel i oi cs b hi) (fun cs b => hsel j oj cs b hoj) hy h1
      have hfree' : ∀ k ok, ops[k]? = some ok → k ≠ i → (listed.setIfInBounds j true).getD k true = false →
          (∀ e ∈ ok.after, Region.binds md e = true → e.on ≠ i) → oi.apart ops ok = true := fun k ok hk hki hun hno => by
        refine hfree k ok hk hki ?_ hno
        by_cases hjk : j = k
        · subst hjk; exact hjun
        · rw [getD_set_ne true hjk] at hun; exact hun
      have hlo' : fr = false → ∀ k, kp k = false → (listed.setIfInBounds j true).getD k false = true ∨ (blkGo md i ops.toList #[]).getD k false = true := fun hf k hk => by
        have hkj := hkp hf listed j hcl (mem_ready.1 hr).1 hji hj (hlo hf)
        have hjk : j ≠ k := fun e => by subst e; rw [hkj] at hk; cases hk
        rw [getD_set_ne false hjk]
        exact hlo hf k hk
      refine wpOp_mono (fun a' w' h3 => ?_) h2
      obtain ⟨hy', h4⟩ := h3
      rcases h4 with ⟨hkj, hCw, h4⟩ | ⟨hkj, C', hext', hCB', hCw, h4⟩
      · refine .inl ⟨hkj, hCw, fun w'' hw'' => ?_⟩
        refine ih C (listed.setIfInBounds j true) a' w'' hext hCB hD1 hD2 (hcl.set hj) hfree' hlo' (ready_mono hr (Ne.symm hji)) hy' (hext _ _ hCw hw'') (fun w3 hw3 => ?_)
        have := h4 w3 (hw''.trans hw3)
        rw [Array.setIfInBounds_comm _ _ (Ne.symm hji)] at this
        exact this
      · cases hfr : fr with
        | false =>
          have := hkp hfr listed j hcl (mem_ready.1 hr).1 hji hj (hlo hfr)
          rw [this] at hkj; cases hkj
        | true =>
          refine .inr ⟨hkj, C', hext', hCB', hCw, fun w'' hw'' => ?_⟩
          refine ih C' (listed.setIfInBounds j true) a' w'' hext' hCB' (fun h => by rw [hfr] at h; cases h) hD2 (hcl.set hj) hfree' hlo' (ready_mono hr (Ne.symm hji)) hy' (hext' _ _ hCw hw'') (fun w3 hw3 => ?_)
          have := h4 w3 (hw''.trans hw3)
          rw [Array.setIfInBounds_comm _ _ (Ne.symm hji)] at this
          exact this

/-- The order that is walked: 1: fixed in the class; 2: fixed in every world; 0: neither. -/
def mixFromN (md : Region.Mode) (ops : Array Oper) (loose : List Nat) : List (Nat × Nat) → Array Bool → Bool
  | [], listed => (Region.ready md ops listed).isEmpty
  | (i, 0) :: l, listed => Region.ready md ops listed == [i] && mixFromN md ops loose l (listed.setIfInBounds i true)
  | (i, 1) :: l, listed => (Region.ready md ops listed).contains i && (Region.free md ops listed i && (!loose.contains i && (loose.all (fun j => listed.getD j false || (blkGo md i ops.toList #[]).getD j false) && mixFromN md ops loose l (listed.setIfInBounds i true))))
  | (i, _ + 2) :: l, listed => (Region.ready md ops listed).contains i && (Region.free md ops listed i && (!loose.contains i && mixFromN md ops loose l (listed.setIfInBounds i true)))
def mixBN (md : Region.Mode) (ops : Array Oper) (loose : List Nat) (l : List (Nat × Nat)) : Bool := Region.noSelect ops && ((l.length == ops.size) && mixFromN md ops loose l (Array.replicate ops.size false))

/-- The walk of that order. -/
def wpMixN (P : Program) (ops : Array Oper) (loose : List Nat) (B : World → Prop) (Q : Act → World → Prop) : List (Nat × Nat) → (World → Prop) → Act → World → Prop
  | [], _, a, w => Q a w
  | (i, 0) :: l, C, a, w => wpOp P ops noExit i (fun a' w' => (loose.contains i = false ∧ C w' ∧ ∀ w'', Chg [] w' w'' → wpMixN P ops loose B Q l C a' w'') ∨
      (loose.contains i = true ∧ ∃ C' : World → Prop, Ext C' ∧ (∀ w, C' w → B w) ∧ C' w' ∧ ∀ w'', Chg [] w' w'' → wpMixN P ops loose B Q l C' a' w'')) a w
  | (i, 1) :: l, C, a, w => ∃ o v, ops[i]? = some o ∧ YieldsF P ops C o v a ∧ ∀ w', Chg [] w w' → wpMixN P ops loose B Q l C (a.put o.dst v) w'
  | (i, _ + 2) :: l, C, a, w => ∃ o v, ops[i]? = some o ∧ YieldsF P ops B o v a ∧ ∀ w', Chg [] w w' → wpMixN P ops loose B Q l C (a.put o.dst v) w'

theorem wpAnyN_of_mix {Q : Act → World → Prop} {loose : List Nat} (hs : Region.noSelect ops = true) : ∀ (l : List (Nat × Nat)) (C : World → Prop) (listed : Array Bool) (a : Act) (w : World), Ext C → (∀ w, C w → B w) →
    mixFromN md ops loose l listed = true → Shut md ops listed → C w → wpMixN P ops loose B Q l C a w → wpAnyN P md ops (fun j => !loose.contains j) B Q l.length C listed a w
  | [], _, _, _, _, _, _, hB, _, _, h => ⟨by simpa [mixFromN] using hB, h⟩
  | (i, 1) :: l, C, listed, a, w, hext, hCB, hB, hcl, hC, h => by
    obtain ⟨o, v, hi, hy, hk⟩ := h
    simp only [mixFromN, Bool.and_eq_true] at hB
    obtain ⟨hr, hf, hni, hk', hB'⟩ := hB
    have hlo : ∀ k, (!loose.contains k) = false → listed.getD k false = true ∨ (blkGo md i ops.toList #[]).getD k false = true := fun k hk => by
      have := List.all_eq_true.1 hk' k (by simpa using hk)
      simpa using this
    refine wpAnyN_first (D := C) (fr := false) hi (Region.noSelect_spec hs) hni (fun _ lst j hs' hi' hji hj hlo' => ?_) l.length C listed a w hext hCB (fun _ => rfl) (fun h => by cases h) hcl (Region.free_spec hi hf) (fun _ => hlo) (by simpa using hr) hy hC
      (fun w' hw' => wpAnyN_of_mix hs l C _ _ w' hext hCB hB' (hcl.set (by simpa using hr)) (hext _ _ hC hw') (hk w' hw'))
    cases hc : loose.contains j with
    | false => rfl
    | true =>
      exfalso
      rcases hlo' j (by show (!loose.contains j) = false; rw [hc]; rfl) with h1 | h1
      · have h0 := (mem_ready.1 hj).1
        rcases Nat.lt_or_ge j lst.size with h' | h'
        · simp [h'] at h0 h1; rw [h0] at h1; cases h1
        · simp [Array.getElem?_eq_none h'] at h1
      · exact blk_ready hs' hi' hji h1 hj
  | (i, _ + 2) :: l, C, listed, a, w, hext, hCB, hB, hcl, hC, h => by
    obtain ⟨o, v, hi, hy, hk⟩ := h
    simp only [mixFromN, Bool.and_eq_true] at hB
    obtain ⟨hr, hf, hni, hB'⟩ := hB
    exact wpAnyN_first (D := B) (fr := true) hi (Region.noSelect_spec hs) hni (fun h => by cases h) l.length C listed a w hext hCB (fun h => by cases h) (fun _ => rfl) hcl (Region.free_spec hi hf) (fun h => by cases h) (by simpa using hr) hy hC
      (fun w' hw' => wpAnyN_of_mix hs l C _ _ w' hext hCB hB' (hcl.set (by simpa using hr)) (hext _ _ hC hw') (hk w' hw'))
  | (i, 0) :: l, C, listed, a, w, hext, hCB, hB, hcl, hC, h => by
    simp only [mixFromN, Bool.and_eq_true, beq_iff_eq] at hB
    obtain ⟨hr, hB'⟩ := hB
    show wpAnyN P md ops _ B Q (l.length + 1) C listed a w
    refine ⟨fun h0 => (by rw [hr] at h0; cases h0), fun j hj => ?_⟩
    rw [hr] at hj
    obtain rfl : j = i := by simpa using hj
    refine wpOp_mono (fun a' w' h' => ?_) h
    rcases h' with ⟨h1, h2, h3⟩ | ⟨h1, C', h2, h3, h4, h5⟩
    · exact .inl ⟨by show (!loose.contains j) = true; rw [h1]; rfl, h2, fun w'' hw'' => wpAnyN_of_mix hs l C _ a' w'' hext hCB hB' (hcl.set (by rw [hr]; exact List.mem_cons_self)) (hext _ _ h2 hw'') (h3 w'' hw'')⟩
    · exact .inr ⟨by show (!loose.contains j) = false; rw [h1]; rfl, C', h2, h3, h4, fun w'' hw'' => wpAnyN_of_mix hs l C' _ a' w'' h2 h3 hB' (hcl.set (by rw [hr]; exact List.mem_cons_self)) (h2 _ _ h4 hw'') (h5 w'' hw'')⟩
end

section
variable {cx : Cx} {fs : Slots} {H : List Chunk} {Q : Post} {ops : Array Oper} {loose : List Nat} {ord : List (Nat × Nat)} {C : List Chunk}

def TriN (cx : Cx) (C : List Chunk) (ops : Array Oper) (loose : List Nat) (fs : Slots) (H : List Chunk) (ord : List (Nat × Nat)) (Q : Post) : Prop :=
  ∀ a w, Has cx.n cx.ds fs a → Sat cx H w → wpMixN cx.P ops loose (Sat cx []) (fun a w => lift cx Q .normal a w) ord (Sat cx C) a w

theorem Sat.none {H : List Chunk} {w : World} (h : Sat cx H w) : Sat cx [] w := h.sublist (List.nil_sublist _)
theorem tri_mixN {id : Nat} {l : List Oper} (C : List Chunk) (ord : List (Nat × Nat)) (loose : List Nat) (hm : cx.P.follows .mixedOrders = true) (hB : mixBN .any l.toArray loose ord = true) (hC : ∀ w, Sat cx H w → Sat cx C w)
    (h : TriN cx C l.toArray loose fs H ord Q) : Tri cx fs H (.region id l.toArray true) Q := fun a w ha hw => by
  simp only [mixBN, Bool.and_eq_true, beq_iff_eq] at hB
  have h1 := wpAnyN_of_mix hB.1 ord (Sat cx C) _ a _ (fun w w' h k => h.ext k) (fun w h => h.none) hB.2.2 (fun j oj _ hj => by rw [getD_replicate] at hj; cases hj) (hC _ hw.drew) (h a _ ha hw.drew)
  rw [hB.2.1] at h1
  exact wp_region_any hm (wpAny_of_mixN _ _ _ _ _ h1)

theorem mixN_nil (h : Q .normal fs H) : TriN cx C ops loose fs H [] Q := fun _ _ ha hw => ⟨fs, H, ha, hw, h⟩

theorem mixN_fix {i : Nat} {o : Oper} (hi : ops[i]? = some o) (h : TriX true cx ops fs C [o] (fun e fs' _ => e = .normal ∧ TriN cx C ops loose fs' H ord Q)) : TriN cx C ops loose fs H ((i, 1) :: ord) Q := fun a w ha hw => by
  have h1 := h a ha
  unfold wpFix at h1
  by_cases hw' : Region.wanted o (yielded ops a.tmps) = true
  · rw [if_pos hw'] at h1
    obtain ⟨v, h2, fs', h3, _, h4⟩ := h1
    exact ⟨o, v, hi, .inl ⟨hw', h2⟩, fun w' hc => h4 _ w' h3 (hw.ext hc)⟩
  · rw [if_neg hw'] at h1
    obtain ⟨fs', h3, _, h4⟩ := h1
    exact ⟨o, undef, hi, .inr ⟨by simpa using hw', rfl⟩, fun w' hc => h4 _ w' h3 (hw.ext hc)⟩
theorem mixN_free {i : Nat} {o : Oper} (hi : ops[i]? = some o) (h : TriX true cx ops fs [] [o] (fun e fs' _ => e = .normal ∧ TriN cx C ops loose fs' H ord Q)) : TriN cx C ops loose fs H ((i, 2) :: ord) Q := fun a w ha hw => by
  have h1 := h a ha
  unfold wpFix at h1
  by_cases hw' : Region.wanted o (yielded ops a.tmps) = true
  · rw [if_pos hw'] at h1
    obtain ⟨v, h2, fs', h3, _, h4⟩ := h1
    exact ⟨o, v, hi, .inl ⟨hw', h2⟩, fun w' hc => h4 _ w' h3 (hw.ext hc)⟩
  · rw [if_neg hw'] at h1
    obtain ⟨fs', h3, _, h4⟩ := h1
    exact ⟨o, undef, hi, .inr ⟨by simpa using hw', rfl⟩, fun w' hc => h4 _ w' h3 (hw.ext hc)⟩

/-- An operation that is alone when it comes; what is known from here on. -/
theorem mixN_op {i : Nat} {o : Oper} (hi : ops[i]? = some o) (hl : loose.contains i = true) (h : TriX false cx ops fs H [o] (fun e fs' H' => e = .normal ∧ TriN cx H' ops loose fs' H' ord Q)) : TriN cx C ops loose fs H ((i, 0) :: ord) Q := fun a w ha hw => by
  have h1 := h a w ha hw
  unfold wpList at h1
  unfold wpMixN wpOp
  simp only [hi]
  have key : ∀ a' w', wpList cx.P ops (lift cx (fun e fs' H' => e = .normal ∧ TriN cx H' ops loose fs' H' ord Q)) [] a' w' →
      (loose.contains i = false ∧ Sat cx C w' ∧ ∀ w'', Chg [] w' w'' → wpMixN cx.P ops loose (Sat cx []) (fun a w => lift cx Q .normal a w) ord (Sat cx C) a' w'') ∨
      (loose.contains i = true ∧ ∃ C' : World → Prop, Ext C' ∧ (∀ w, C' w → Sat cx [] w) ∧ C' w' ∧ ∀ w'', Chg [] w' w'' → wpMixN cx.P ops loose (Sat cx []) (fun a w => lift cx Q .normal a w) ord C' a' w'') := by
    rintro a' w' ⟨fs', H', h2, h3, _, h4⟩
    exact .inr ⟨hl, Sat cx H', fun w w' h k => h.ext k, fun w h => h.none, h3, fun w'' hc => h4 _ _ h2 (h3.ext hc)⟩
  split
  · rename_i hw'
    rw [if_pos hw'] at h1
    rcases h1 with h1 | ⟨_, a', w', fs', H', _, _, h2, _⟩
    · exact .inl (upon_mono key (fun _ _ _ ⟨_, _, _, _, h, _⟩ => by cases h) (fun _ _ ⟨_, _, _, _, h, _⟩ => by cases h) _ h1)
    · cases h2
  · rename_i hw'
    rw [if_neg hw'] at h1
    exact key _ _ h1

/-- .. what was known stays so. -/
theorem mixN_keep {i : Nat} {o : Oper} (hi : ops[i]? = some o) (hl : loose.contains i = false) (h : TriX false cx ops fs H [o] (fun e fs' H' => e = .normal ∧ (∀ w, Sat cx H' w → Sat cx C w) ∧ TriN cx C ops loose fs' H' ord Q)) : TriN cx C ops loose fs H ((i, 0) :: ord) Q := fun a w ha hw => by
  have h1 := h a w ha hw
  unfold wpList at h1
  unfold wpMixN wpOp
  simp only [hi]
  have key : ∀ a' w', wpList cx.P ops (lift cx (fun e fs' H' => e = .normal ∧ (∀ w, Sat cx H' w → Sat cx C w) ∧ TriN cx C ops loose fs' H' ord Q)) [] a' w' →
      (loose.contains i = false ∧ Sat cx C w' ∧ ∀ w'', Chg [] w' w'' → wpMixN cx.P ops loose (Sat cx []) (fun a w => lift cx Q .normal a w) ord (Sat cx C) a' w'') ∨
      (loose.contains i = true ∧ ∃ C' : World → Prop, Ext C' ∧ (∀ w, C' w → Sat cx [] w) ∧ C' w' ∧ ∀ w'', Chg [] w' w'' → wpMixN cx.P ops loose (Sat cx []) (fun a w => lift cx Q .normal a w) ord C' a' w'') := by
    rintro a' w' ⟨fs', H', h2, h3, _, h4, h5⟩
    exact .inl ⟨hl, h4 _ h3, fun w'' hc => h5 _ _ h2 (h3.ext hc)⟩
  split
  · rename_i hw'
    rw [if_pos hw'] at h1
    rcases h1 with h1 | ⟨_, a', w', fs', H', _, _, h2, _⟩
    · exact .inl (upon_mono key (fun _ _ _ ⟨_, _, _, _, h, _⟩ => by cases h) (fun _ _ ⟨_, _, _, _, h, _⟩ => by cases h) _ h1)
    · cases h2
  · rename_i hw'
    rw [if_neg hw'] at h1
    exact key _ _ h1
end
end Go.WK
