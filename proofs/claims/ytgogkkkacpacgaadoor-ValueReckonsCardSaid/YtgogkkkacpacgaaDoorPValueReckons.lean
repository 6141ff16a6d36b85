/- The card 'ValueReckonsCardSaid', proved: whatever the input, ValueReckons returns true and each argument reads as it did, where the listed variables of Go's library hold what the program's text lays in them. -/
import Derived.Test.YtgogkkkacpacgaaDoorRows
import Derived.Test.YtgogkkkacpacgaaDoorCards
import Derived.Test.YtgogkkkacpacgaaDoorTie
import Derived.Test.YtgogkkkacpacgaaDoorLaws
import Derived.Test.YtgogkkkacpacgaaDoorVCard
import Derived.Test.YtgogkkkacpacgaaDoorVTab
namespace Go.Proofs.YtgogkkkacpacgaaDoor
open Go.WK Go.RowKit Go.ChangeShapes Go.WideShapes Go.ChangeAt Go.ChangeMaps

theorem own : ownKnob Tryd.prog.godebug = none := by kernel_rfl
theorem laidOut : laidOutB Tryd.prog = true := by kernel_rfl
theorem cells3 : Tryd.prog.cellsOf 3 = 1 := by kernel_rfl
theorem cells2 : Tryd.prog.cellsOf 2 = 1 := by kernel_rfl
theorem cells9 : Tryd.prog.cellsOf 9 = 1 := by kernel_rfl
theorem cells23 : Tryd.prog.cellsOf 23 = 3 := by kernel_rfl
theorem rok23 : Tryd.prog.readableRec 23 = true := by kernel_rfl
theorem rlt23 : 23 < Tryd.prog.types.size := of_decide_eq_true (by kernel_rfl)

set_option maxRecDepth 100000 in
theorem valueReckons_lifted (os : Os) (started : os.Started) (H : Type) (enc : TypeId × Value → H) :
    ReturnsInHanded {} Tryd.checked os 9 .any (fun w args => (Rows.valueReckonsSpec.pre enc Tryd.prog Tryd.f9 Rows.valueReckonsRow.domain false w args ∧ laidMetH Tryd.prog Rows.valueReckonsRow.laid w) ∧ sizedMet enc Tryd.prog Tryd.f9 (OpenSpec.ofChange Rows.valueReckonsSpec) false w args)
      (Rows.valueReckonsSpec.post enc Tryd.prog Tryd.f9 false true false false) := by
  refine returns_laid (C := Tryd.checked) (X := fun w _ => laidMetH Tryd.prog Rows.valueReckonsRow.laid w) (fun _ _ _ hh h => h.of_heap hh) own started (by kernel_rfl) Tryd.func9
    (ChangeSpec.witness_shaped (enc := enc) (C := Tryd.checked) (os := os) (X := fun w _ => laidMetH Tryd.prog Rows.valueReckonsRow.laid w) false (World.laidAll Tryd.prog os Rows.valueReckonsRow.laid) #[.agg #[.int .i64 0, .int .i64 0, .string ⟨#[]⟩], .agg #[.int .i64 0, .int .i64 0, .string ⟨#[]⟩]] 8 (World.laidAll_os _ _ _)
      (World.shaped_of_ZipB (by kernel_rfl) (by kernel_rfl)) (by kernel_rfl) (by kernel_rfl) (by kernel_rfl)
      (by rw [MakeChecks.laidMetH_plain _ _ _ (by kernel_rfl)]; exact laidMet_laidAll _ (by kernel_rfl) (by kernel_rfl))) ?_
  intro W base args ds gs before hval0 hW hsz0 hlaid hsh
  have hsz : (DataW.weightsEach Tryd.prog (Tryd.f9.params.toList ++ Rows.valueReckonsSpec.plain.varTypes Tryd.prog) (ds ++ gs)).all (· ≤ reachBytes) = true := hsz0
  have hval : ∀ (j : Nat) t v, Tryd.f9.params[j]? = some t → args[j]? = some v → Value.okWide Tryd.prog W .any base t v := hval0
  clear hsz0 hval0
  have hW' := hW
  obtain ⟨p, q, hA0, hV, rfl, _, _⟩ := hW
  have hA : DataW.TrodAll enc Tryd.prog W 0 (fun _ => true) true Tryd.f9.params.toList args.toList ds p := hA0
  clear hA0
  rw [Tryd.params9] at hA hval hsz
  obtain ⟨v0, vs0, d0, ds0, p0, q0, hargs, rfl, rfl, h0, r0⟩ := trodAll_cons hA
  obtain ⟨v1, vs1, d1, ds1, p1, q1, rfl, rfl, rfl, h1, r1⟩ := trodAll_cons r0
  obtain ⟨rfl, rfl, rfl⟩ := trodAll_nil r1
  obtain rfl : args = #[v0, v1] := by cases args; simp_all
  obtain ⟨rfl, rfl⟩ := trodVars_none hV
  obtain ⟨a, rfl, ea, oa, za⟩ := open_valA Tryd.underlying23 Tryd.underlying3 Tryd.underlying2 Tryd.underlying9 cells3 cells2 cells9 cells23 hsz (j := 0) rfl rfl (hval 0 23 v0 rfl rfl) h0
  have fa : fit a := ⟨oa, Nat.le_trans za (by decide)⟩
  obtain ⟨b, rfl, eb, ob, zb⟩ := open_valA Tryd.underlying23 Tryd.underlying3 Tryd.underlying2 Tryd.underlying9 cells3 cells2 cells9 cells23 hsz (j := 1) rfl rfl (hval 1 23 v1 rfl rfl) h1
  have fb : fit b := ⟨ob, Nat.le_trans zb (by decide)⟩
  rw [MakeChecks.laidMetH_plain _ _ _ (by kernel_rfl)] at hlaid
  have hL : LV W := ⟨Tryd.laysM155.s1_3 W hsh, Lib.tabIs_of_head gTab tyTab Tryd.underlying97 Tryd.underlying67 cellsU cellsTab hlaid.tail.tail⟩
  refine (valueReckons a b W fa fb hL).mono fun e W' ⟨he, hx⟩ => ⟨_, he, ?_⟩
  refine law_post laidOut (fun t ht => ?_) rfl Tryd.underlying4 rfl hW' rfl rfl rfl hx
  rw [Tryd.params9] at ht
  simp only [List.mem_cons, List.not_mem_nil, or_false] at ht
  rcases ht with rfl | rfl
  · exact ⟨rok23, rlt23⟩
  · exact ⟨rok23, rlt23⟩

theorem valueReckons_holds : Rows.ValueReckonsSaid :=
  OpenClaim.holds_of_wide 9 Tryd.f9 rfl rfl rfl rfl rfl rfl rfl ⟨rfl, rfl, rfl, rfl, rfl⟩ rfl rfl rfl rfl rfl (by kernel_rfl) Tryd.func9 (by kernel_rfl)
    (of_decide_eq_true (by kernel_rfl)) (by unfold Func.isWrapper; first | (rw [if_pos (by decide +kernel)]; kernel_rfl) | (rw [if_neg (by decide +kernel)]; exact ⟨rfl, rfl⟩))
    (fun os started H enc _ => valueReckons_lifted os started H enc)

set_option maxRecDepth 100000 in
theorem valueReckons_card : Rows.ValueReckonsCardSaid :=
  Claim7.holds_tied_plain_at .later [] [.data, .data, .data, .data, .pinned] true (true, "9e43d05993ba522d1c06ae7021066cd04534d9ccfde90ce877d3fb740519e372") true valueReckons_holds (fun _ h => by cases h) (by kernel_rfl) (fun _ h => by cases h) valueReckons_row_tie rfl ⟨rfl, rfl⟩ (by kernel_rfl) rfl
    (fun f fn hf hfn => by
      obtain rfl : f = 9 := Option.some.inj ((show Tryd.prog.funcNamed "cadastre/cadastrelaw03.ValueReckons" = some 9 by kernel_rfl).symm.trans hf) |>.symm
      obtain rfl : fn = Tryd.f9 := (Option.some.inj (Tryd.func9.symm.trans hfn)).symm
      exact ⟨by kernel_rfl, fun j t ht => by
        rw [Tryd.params9] at ht
        have hm : t ∈ [23, 23] := by simpa using Array.mem_of_getElem? ht
        have hall : ([23, 23].all fun u => !Tryd.prog.wantsStandIn u) = true := by kernel_rfl
        exact (show Tryd.prog.wantsStandIn t = false by simpa using List.all_eq_true.1 hall t hm)⟩)
    (by kernel_rfl)

end Go.Proofs.YtgogkkkacpacgaaDoor
