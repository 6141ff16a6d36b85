/- The card 'ParseFaultsCardSaid', proved: whatever the input, ParseFaults returns true and each argument reads as it did, where the listed variables of Go's library hold what the program's text lays in them. -/
import Derived.Test.YtjbpkcbefmpfgaaGreatDoorW5
import Derived.Test.YtjbpkcbefmpfgaaGreatDoorRows
import Derived.Test.YtjbpkcbefmpfgaaGreatDoorCards
import Derived.Test.YtjbpkcbefmpfgaaGreatDoorTie
namespace Go.Proofs.YtjbpkcbefmpfgaaGreatDoor
open Go.WK Go.RowKit Go.ChangeShapes Go.WideShapes Go.ChangeAt Go.ChangeMaps
theorem own : ownKnob Tryz.prog.godebug = none := by kernel_rfl
theorem laidOut : laidOutB Tryz.prog = true := by kernel_rfl
theorem rok9 : Tryz.prog.readableRec 9 = true := by kernel_rfl
theorem rlt9 : 9 < Tryz.prog.types.size := of_decide_eq_true (by kernel_rfl)
set_option maxRecDepth 100000 in
theorem parseFaults_lifted (os : Os) (started : os.Started) (H : Type) (enc : TypeId × Value → H) :
    ReturnsInHanded {} Tryz.checked os 7 .any (fun w args => (Rows.parseFaultsSpec.pre enc Tryz.prog Tryz.f7 Rows.parseFaultsRow.domain false w args ∧ laidMetH Tryz.prog Rows.parseFaultsRow.laid w) ∧ sizedMet enc Tryz.prog Tryz.f7 (OpenSpec.ofChange Rows.parseFaultsSpec) false w args)
      (Rows.parseFaultsSpec.post enc Tryz.prog Tryz.f7 false true false false) := by
  refine pi (C := Tryz.checked) (X := fun w _ => laidMetH Tryz.prog Rows.parseFaultsRow.laid w) (fun _ _ _ hh h => h.of_heap hh) own started (by kernel_rfl) Tryz.func7
    (ChangeSpec.witness_shaped (enc := enc) (C := Tryz.checked) (os := os) (X := fun w _ => laidMetH Tryz.prog Rows.parseFaultsRow.laid w) false (laidW os) #[.string ⟨#[]⟩, .string ⟨#[]⟩] 8 (laidW_os _)
      (World.shaped_of_ZipB (by kernel_rfl) (by kernel_rfl)) (by kernel_rfl) (by kernel_rfl) (by kernel_rfl)
      (uU os _)) ?_
  intro W base args ds gs before hval0 hW hsz0 hlaid hsh
  have hsz : (DataW.weightsEach Tryz.prog (Tryz.f7.params.toList ++ Rows.parseFaultsSpec.plain.varTypes Tryz.prog) (ds ++ gs)).all (· ≤ reachBytes) = true := hsz0
  have hval : ∀ (j : Nat) t v, Tryz.f7.params[j]? = some t → args[j]? = some v → Value.okWide Tryz.prog W .any base t v := hval0
  clear hsz0 hval0
  have hW' := hW
  obtain ⟨p, q, hA0, hV, rfl, _, _⟩ := hW
  have hA : DataW.TrodAll enc Tryz.prog W 0 (fun _ => true) true Tryz.f7.params.toList args.toList ds p := hA0
  clear hA0
  rw [Tryz.params7] at hA hval hsz
  obtain ⟨v0, vs0, d0, ds0, p0, q0, hargs, rfl, rfl, h0, r0⟩ := trodAll_cons hA
  obtain ⟨v1, vs1, d1, ds1, p1, q1, rfl, rfl, rfl, h1, r1⟩ := trodAll_cons r0
  obtain ⟨rfl, rfl, rfl⟩ := trodAll_nil r1
  obtain rfl : args = #[v0, v1] := by cases args; simp_all
  obtain ⟨rfl, rfl⟩ := trodVars_none hV
  obtain ⟨x0, rfl, rfl, rfl, _⟩ := open_string Tryz.underlying9 (hval 0 9 v0 rfl rfl) h0
  obtain ⟨s, rfl⟩ : ∃ l, x0 = B l := ⟨_, (B_eta x0).symm⟩
  have z0 : s.length ≤ 140737488351232 := by have := sized_string hsz (j := 0) rfl rfl; simpa [B, reachBytes] using this
  obtain ⟨x1, rfl, rfl, rfl, _⟩ := open_string Tryz.underlying9 (hval 1 9 v1 rfl rfl) h1
  obtain ⟨t, rfl⟩ : ∃ l, x1 = B l := ⟨_, (B_eta x1).symm⟩
  have z1 : t.length ≤ 140737488351232 := by have := sized_string hsz (j := 1) rfl rfl; simpa [B, reachBytes] using this
  have K := known (W := W) hlaid hsh
  refine (qY s t W K.E K.X K.V K.g (by omega) (by omega)).mono fun e W' ⟨he, hx⟩ => ⟨_, he, ?_⟩
  refine law_post laidOut (fun t ht => ?_) rfl Tryz.underlying4 rfl hW' rfl rfl rfl hx
  rw [Tryz.params7] at ht
  simp only [List.mem_cons, List.not_mem_nil, or_false] at ht
  rcases ht with rfl | rfl
  · exact ⟨rok9, rlt9⟩
  · exact ⟨rok9, rlt9⟩
theorem parseFaults_holds : Rows.ParseFaultsSaid :=
  OpenClaim.holds_of_wide 7 Tryz.f7 rfl rfl rfl rfl rfl rfl rfl ⟨rfl, rfl, rfl, rfl, rfl⟩ rfl rfl rfl rfl rfl (by kernel_rfl) Tryz.func7 (by kernel_rfl)
    (of_decide_eq_true (by kernel_rfl)) (by unfold Func.isWrapper; first | (rw [if_pos (by decide +kernel)]; kernel_rfl) | (rw [if_neg (by decide +kernel)]; exact ⟨rfl, rfl⟩))
    (fun os started H enc _ => parseFaults_lifted os started H enc)
set_option maxRecDepth 100000 in
theorem parseFaults_card : Rows.ParseFaultsCardSaid :=
  Claim7.holds_tied_plain_at .later [] [.data, .data, .data, .data, .handle, .sentinel, .sentinel, .pinned, .pinned] true (true, "1cefe0b76b4a2d6f90accfb93ea8621c45fb71f22fd3e127a883eddaefd1b84a") true parseFaults_holds (fun _ h => by cases h) (by kernel_rfl) (fun _ h => by cases h) parseFaults_row_tie rfl ⟨rfl, rfl⟩ (by kernel_rfl) rfl
    (fun f fn hf hfn => by
      obtain rfl : f = 7 := Option.some.inj ((show Tryz.prog.funcNamed "cadastre/cadastrelaw19.ParseFaults" = some 7 by kernel_rfl).symm.trans hf) |>.symm
      obtain rfl : fn = Tryz.f7 := (Option.some.inj (Tryz.func7.symm.trans hfn)).symm
      exact ⟨by kernel_rfl, fun j t ht => by
        rw [Tryz.params7] at ht
        have hm : t ∈ [9, 9] := by simpa using Array.mem_of_getElem? ht
        have hall : ([9, 9].all fun u => !Tryz.prog.wantsStandIn u) = true := by kernel_rfl
        exact (show Tryz.prog.wantsStandIn t = false by simpa using List.all_eq_true.1 hall t hm)⟩)
    (by kernel_rfl)
end Go.Proofs.YtjbpkcbefmpfgaaGreatDoor
