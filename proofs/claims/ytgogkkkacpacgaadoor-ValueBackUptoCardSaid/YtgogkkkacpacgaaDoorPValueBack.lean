/- The card 'ValueBackUptoCardSaid', proved: whatever the input of bulk at most 1048576, ValueBack returns true and each argument reads as it did, where the listed variables of Go's library hold what the program's text lays in them. -/
import Derived.Test.YtgogkkkacpacgaaDoorRows
import Derived.Test.YtgogkkkacpacgaaDoorCards
import Derived.Test.YtgogkkkacpacgaaDoorTie
import Derived.Test.YtgogkkkacpacgaaDoorLaws3
import Derived.Test.YtgogkkkacpacgaaDoorVUpto
import Derived.Test.YtgogkkkacpacgaaDoorVTab
import Derived.Test.YtgogkkkacpacgaaDoorVSent
namespace Go.Proofs.YtgogkkkacpacgaaDoor
open Go.WK Go.RowKit Go.ChangeShapes Go.WideShapes Go.ChangeAt Go.ChangeMaps

theorem own : ownKnob Tryd.prog.godebug = none := by kernel_rfl
theorem laidOut : laidOutB Tryd.prog = true := by kernel_rfl
theorem cells3 : Tryd.prog.cellsOf 3 = 1 := by kernel_rfl
theorem cells2 : Tryd.prog.cellsOf 2 = 1 := by kernel_rfl
theorem cells9 : Tryd.prog.cellsOf 9 = 1 := by kernel_rfl
theorem cells23 : Tryd.prog.cellsOf 23 = 3 := by kernel_rfl
theorem rok9 : Tryd.prog.readableRec 9 = true := by kernel_rfl
theorem rlt9 : 9 < Tryd.prog.types.size := of_decide_eq_true (by kernel_rfl)
theorem rok23 : Tryd.prog.readableRec 23 = true := by kernel_rfl
theorem rlt23 : 23 < Tryd.prog.types.size := of_decide_eq_true (by kernel_rfl)

set_option maxRecDepth 100000 in
theorem valueBackUpto_lifted (os : Os) (started : os.Started) (H : Type) (enc : TypeId × Value → H) (F : Stop.Interp) :
    ReturnsInHanded {} Tryd.checked os 11 .any ((Rows.OpenSpec.upto Rows.valueBackSpec).preRow enc Tryd.prog Tryd.f11 Rows.valueBackUptoRow.domain false Rows.valueBackUptoRow.laid)
      (((Rows.OpenSpec.upto Rows.valueBackSpec).at F).post enc Tryd.prog Tryd.f11 false true false false) := by
  refine returnsInHanded_of_row (C := Tryd.checked) (s := Rows.OpenSpec.upto Rows.valueBackSpec) own started (by kernel_rfl) Tryd.func11
    (witness_row_shaped (enc := enc) (C := Tryd.checked) (os := os) false (World.laidAll Tryd.prog os Rows.valueBackUptoRow.laid) #[.agg #[.int .i64 0, .int .i64 0, .string ⟨#[]⟩], .string ⟨#[]⟩] (World.laidAll_os _ _ _)
      (World.shaped_of_ZipB (by kernel_rfl) (by kernel_rfl)) (by kernel_rfl)
      (OpenSpec.preRow_of_cond 8 (x := ([.agg [.lit (.int .i64 0), .lit (.int .i64 0), .lit (.string [])], .lit (.string [])], [], [])) (by kernel_rfl) (by kernel_rfl) (fun k hk => by cases hk; kernel_rfl) (by kernel_rfl)
        (by rw [MakeChecks.laidMetH_plain _ _ _ (by kernel_rfl)]; exact laidMet_laidAll _ (by kernel_rfl) (by kernel_rfl)))) ?_
  intro W base args ds gs before hval0 hW _ hcond hsz0 hlaid hsh _
  have hk : uptoLe (ds ++ gs) := hcond _ rfl
  have hsz : (DataW.weightsEach Tryd.prog (Tryd.f11.params.toList ++ Rows.valueBackSpec.plain.varTypes Tryd.prog) (ds ++ gs)).all (· ≤ reachBytes) = true := hsz0
  have hval : ∀ (j : Nat) t v, Tryd.f11.params[j]? = some t → args[j]? = some v → Value.okWide Tryd.prog W .any base t v := hval0
  clear hsz0 hval0 hcond
  have hW' := hW
  obtain ⟨p, q, hA0, hV, rfl, _, _⟩ := hW
  have hA : DataW.TrodAll enc Tryd.prog W 0 (fun _ => true) true Tryd.f11.params.toList args.toList ds p := hA0
  clear hA0
  rw [Tryd.params11] at hA hval hsz
  obtain ⟨v0, vs0, d0, ds0, p0, q0, hargs, rfl, rfl, h0, r0⟩ := trodAll_cons hA
  obtain ⟨v1, vs1, d1, ds1, p1, q1, rfl, rfl, rfl, h1, r1⟩ := trodAll_cons r0
  obtain ⟨rfl, rfl, rfl⟩ := trodAll_nil r1
  obtain rfl : args = #[v0, v1] := by cases args; simp_all
  obtain ⟨rfl, rfl⟩ := trodVars_none hV
  obtain ⟨a, rfl, ea, oa, za⟩ := open_valA Tryd.underlying23 Tryd.underlying3 Tryd.underlying2 Tryd.underlying9 cells3 cells2 cells9 cells23 hsz (j := 0) rfl rfl (hval 0 23 v0 rfl rfl) h0
  have fa : fit a := ⟨oa, Nat.le_trans za (by decide)⟩
  obtain ⟨x1, rfl, rfl, rfl, _⟩ := open_string Tryd.underlying9 (hval 1 9 v1 rfl rfl) h1
  obtain ⟨s, rfl⟩ : ∃ l, x1 = B l := ⟨_, (B_eta x1).symm⟩
  have z1 : s.length ≤ 140737488351232 := by have := sized_string hsz (j := 1) rfl rfl; simpa [B, reachBytes] using this
  rw [MakeChecks.laidMetH_plain _ _ _ (by kernel_rfl)] at hlaid
  have hL : LV W := ⟨Tryd.laysM155.s1_3 W hsh, Lib.tabIs_of_head gTab tyTab Tryd.underlying97 Tryd.underlying67 cellsU cellsTab hlaid.tail.tail⟩
  have hs : s.length ≤ 4294967280 := by
    have h := uptoLe_iff.1 hk
    simp only [List.append_nil, Rows.uptoBulkAll, Rows.uptoBulk, B_list] at h
    omega
  have hE : LE W := ⟨synIs hlaid.tail.tail.tail.tail.tail, rngIs hlaid.tail.tail.tail.tail⟩
  refine (valueBack a s W fa hs hL hE).mono fun e W' ⟨he, hx⟩ => ⟨_, he, ?_⟩
  show Rows.valueBackSpec.post enc Tryd.prog Tryd.f11 false true false false W _ _ W'
  refine law_post laidOut (fun t ht => ?_) rfl Tryd.underlying4 rfl hW' rfl rfl rfl hx
  rw [Tryd.params11] at ht
  simp only [List.mem_cons, List.not_mem_nil, or_false] at ht
  rcases ht with rfl | rfl
  · exact ⟨rok23, rlt23⟩
  · exact ⟨rok9, rlt9⟩

theorem valueBackUpto_holds : Rows.ValueBackUptoSaid :=
  OpenClaim.holds_of_cond 11 Tryd.f11 rfl rfl rfl rfl rfl rfl rfl ⟨rfl, rfl, rfl, rfl, rfl⟩ rfl rfl rfl rfl rfl (by kernel_rfl) Tryd.func11 (by kernel_rfl)
    (of_decide_eq_true (by kernel_rfl)) (by unfold Func.isWrapper; first | (rw [if_pos (by decide +kernel)]; kernel_rfl) | (rw [if_neg (by decide +kernel)]; exact ⟨rfl, rfl⟩))
    (fun os started H enc _ F => by rw [OpenClaim.pre_eq_preRow]; exact valueBackUpto_lifted os started H enc F)

set_option maxRecDepth 100000 in
theorem valueBackUpto_card : Rows.ValueBackUptoCardSaid :=
  Claim7.holds_tied_plain_at .later [] [.data, .data, .data, .data, .sentinel, .sentinel, .pinned] true (true, "9e43d05993ba522d1c06ae7021066cd04534d9ccfde90ce877d3fb740519e372") true valueBackUpto_holds (fun _ h => by cases h) (by kernel_rfl) (fun _ h => by cases h) valueBackUpto_row_tie rfl ⟨rfl, rfl⟩ (by kernel_rfl) rfl
    (fun f fn hf hfn => by
      obtain rfl : f = 11 := Option.some.inj ((show Tryd.prog.funcNamed "cadastre/cadastrelaw03.ValueBack" = some 11 by kernel_rfl).symm.trans hf) |>.symm
      obtain rfl : fn = Tryd.f11 := (Option.some.inj (Tryd.func11.symm.trans hfn)).symm
      exact ⟨by kernel_rfl, fun j t ht => by
        rw [Tryd.params11] at ht
        have hm : t ∈ [23, 9] := by simpa using Array.mem_of_getElem? ht
        have hall : ([23, 9].all fun u => !Tryd.prog.wantsStandIn u) = true := by kernel_rfl
        exact (show Tryd.prog.wantsStandIn t = false by simpa using List.all_eq_true.1 hall t hm)⟩)
    (by kernel_rfl)

end Go.Proofs.YtgogkkkacpacgaaDoor
