/- The card 'ParseBracketsUptoCardSaid', proved: whatever the input of bulk at most 1048576, ParseBrackets returns true and each argument reads as it did, where the listed variables of Go's library hold what the program's text lays in them. -/
import Derived.Test.YtjbpkcbefmpfgaaGreatDoorZ5
import Derived.Test.YtjbpkcbefmpfgaaGreatDoorRows
import Derived.Test.YtjbpkcbefmpfgaaGreatDoorCards
import Derived.Test.YtjbpkcbefmpfgaaGreatDoorTie
namespace Go.Proofs.YtjbpkcbefmpfgaaGreatDoor
open Go.WK Go.RowKit Go.ChangeShapes Go.WideShapes Go.ChangeAt Go.ChangeMaps
theorem own : ownKnob Tryz.prog.godebug = none := by kernel_rfl
theorem laidOut : laidOutB Tryz.prog = true := by kernel_rfl
theorem cells3 : Tryz.prog.cellsOf 3 = 1 := by kernel_rfl
theorem cells2 : Tryz.prog.cellsOf 2 = 1 := by kernel_rfl
theorem cells9 : Tryz.prog.cellsOf 9 = 1 := by kernel_rfl
theorem cells27 : Tryz.prog.cellsOf 27 = 3 := by kernel_rfl
theorem cells28 : Tryz.prog.cellsOf 28 = 1 := by kernel_rfl
theorem cells30 : Tryz.prog.cellsOf 30 = 8 := by kernel_rfl
theorem rok3 : Tryz.prog.readableRec 3 = true := by kernel_rfl
theorem rlt3 : 3 < Tryz.prog.types.size := of_decide_eq_true (by kernel_rfl)
theorem rok30 : Tryz.prog.readableRec 30 = true := by kernel_rfl
theorem rlt30 : 30 < Tryz.prog.types.size := of_decide_eq_true (by kernel_rfl)
set_option maxRecDepth 100000 in
theorem parseBracketsUpto_lifted (os : Os) (started : os.Started) (H : Type) (enc : TypeId × Value → H) (F : Stop.Interp) :
    ReturnsInHanded {} Tryz.checked os 6 .any ((Rows.OpenSpec.upto Rows.parseBracketsSpec).preRow enc Tryz.prog Tryz.f6 Rows.parseBracketsUptoRow.domain false Rows.parseBracketsUptoRow.laid)
      (((Rows.OpenSpec.upto Rows.parseBracketsSpec).at F).post enc Tryz.prog Tryz.f6 false true false false) := by
  refine returnsInHanded_of_row (C := Tryz.checked) (s := Rows.OpenSpec.upto Rows.parseBracketsSpec) own started (by kernel_rfl) Tryz.func6
    (jh (enc := enc) (C := Tryz.checked) (os := os) false (laidW os) #[.agg #[.int .i64 0, .int .i64 0, .int .i64 0, .string ⟨#[]⟩, .string ⟨#[]⟩, .string ⟨#[]⟩, .int .i64 0, .slice none 0 0], .int .i64 0] (laidW_os _)
      (World.shaped_of_ZipB (by kernel_rfl) (by kernel_rfl)) (by kernel_rfl)
      (OpenSpec.preRow_of_cond 8 (x := ([.agg [.lit (.int .i64 0), .agg [.lit (.int .i64 0), .lit (.int .i64 0), .lit (.string [])], .lit (.string []), .lit (.string []), .lit (.int .i64 0), .nil], .lit (.int .i64 0)], [], [])) (by kernel_rfl) (by kernel_rfl) (fun k hk => by cases hk; kernel_rfl) (by kernel_rfl)
        (sJ os _))) ?_
  intro W base args ds gs before hval0 hW _ hcond hsz0 hlaid hsh _
  have hk : uptoLe (ds ++ gs) := hcond _ rfl
  have hsz : (DataW.weightsEach Tryz.prog (Tryz.f6.params.toList ++ Rows.parseBracketsSpec.plain.varTypes Tryz.prog) (ds ++ gs)).all (· ≤ reachBytes) = true := hsz0
  have hval : ∀ (j : Nat) t v, Tryz.f6.params[j]? = some t → args[j]? = some v → Value.okWide Tryz.prog W .any base t v := hval0
  clear hsz0 hval0 hcond
  have hW' := hW
  obtain ⟨p, q, hA0, hV, rfl, _, _⟩ := hW
  have hA : DataW.TrodAll enc Tryz.prog W 0 (fun _ => true) true Tryz.f6.params.toList args.toList ds p := hA0
  clear hA0
  rw [Tryz.params6] at hA hval hsz
  obtain ⟨v0, vs0, d0, ds0, p0, q0, hargs, rfl, rfl, h0, r0⟩ := trodAll_cons hA
  obtain ⟨v1, vs1, d1, ds1, p1, q1, rfl, rfl, rfl, h1, r1⟩ := trodAll_cons r0
  obtain ⟨rfl, rfl, rfl⟩ := trodAll_nil r1
  obtain rfl : args = #[v0, v1] := by cases args; simp_all
  obtain ⟨rfl, rfl⟩ := trodVars_none hV
  obtain ⟨e, ye, ble, rfl, ke, be, oe, le⟩ := open_exA Tryz.underlying30 Tryz.underlying27 Tryz.underlying3 Tryz.underlying9 Tryz.underlying28 Tryz.underlying3 Tryz.underlying2 Tryz.underlying9 cells3 cells9 cells28 cells27 cells3 cells2 cells9 cells30 (hval 0 30 v0 rfl rfl) h0
  obtain ⟨x1, rfl, rfl, rfl, w1⟩ := open_int Tryz.underlying3 (hval 1 3 v1 rfl rfl) h1
  have b1 := gu w1
  obtain ⟨more, rfl⟩ : ∃ y, y = x1 := ⟨_, rfl⟩
  have K := known (W := W) hlaid hsh
  have ze : e.size ≤ 1048576 := by
    have h1 := like_bulk e _ le
    have h2 := qH.1 hk
    simp only [List.append_nil, Rows.uptoBulkAll] at h2
    omega
  refine (mr e ye ble more W K.E K.X K.V K.g ⟨⟨fun k hk => ⟨be k hk, by simp⟩, fun k hk => ⟨by have := K.g; omega, by simp⟩⟩, K.V⟩ ke oe (by omega) (fun hm => by have := txt_len _ e (Nat.lt_succ_self _) hm oe 1; omega)).mono fun e W' ⟨he, hx⟩ => ⟨_, he, ?_⟩
  show Rows.parseBracketsSpec.post enc Tryz.prog Tryz.f6 false true false false W _ _ W'
  refine law_post laidOut (fun t ht => ?_) rfl Tryz.underlying4 rfl hW' rfl rfl rfl hx
  rw [Tryz.params6] at ht
  simp only [List.mem_cons, List.not_mem_nil, or_false] at ht
  rcases ht with rfl | rfl
  · exact ⟨rok30, rlt30⟩
  · exact ⟨rok3, rlt3⟩
theorem parseBracketsUpto_holds : Rows.ParseBracketsUptoSaid :=
  OpenClaim.holds_of_cond 6 Tryz.f6 rfl rfl rfl rfl rfl rfl rfl ⟨rfl, rfl, rfl, rfl, rfl⟩ rfl rfl rfl rfl rfl (by kernel_rfl) Tryz.func6 (by kernel_rfl)
    (of_decide_eq_true (by kernel_rfl)) (by unfold Func.isWrapper; first | (rw [if_pos (by decide +kernel)]; kernel_rfl) | (rw [if_neg (by decide +kernel)]; exact ⟨rfl, rfl⟩))
    (fun os started H enc _ F => by rw [OpenClaim.pre_eq_preRow]; exact parseBracketsUpto_lifted os started H enc F)
set_option maxRecDepth 100000 in
theorem parseBracketsUpto_card : Rows.ParseBracketsUptoCardSaid :=
  Claim7.holds_tied_plain_at .later [] [.data, .data, .data, .data, .handle, .sentinel, .sentinel, .pinned, .pinned] true (true, "1cefe0b76b4a2d6f90accfb93ea8621c45fb71f22fd3e127a883eddaefd1b84a") true parseBracketsUpto_holds (fun _ h => by cases h) (by kernel_rfl) (fun _ h => by cases h) parseBracketsUpto_row_tie rfl ⟨rfl, rfl⟩ (by kernel_rfl) rfl
    (fun f fn hf hfn => by
      obtain rfl : f = 6 := Option.some.inj ((show Tryz.prog.funcNamed "cadastre/cadastrelaw19.ParseBrackets" = some 6 by kernel_rfl).symm.trans hf) |>.symm
      obtain rfl : fn = Tryz.f6 := (Option.some.inj (Tryz.func6.symm.trans hfn)).symm
      exact ⟨by kernel_rfl, fun j t ht => by
        rw [Tryz.params6] at ht
        have hm : t ∈ [30, 3] := by simpa using Array.mem_of_getElem? ht
        have hall : ([30, 3].all fun u => !Tryz.prog.wantsStandIn u) = true := by kernel_rfl
        exact (show Tryz.prog.wantsStandIn t = false by simpa using List.all_eq_true.1 hall t hm)⟩)
    (by kernel_rfl)
end Go.Proofs.YtjbpkcbefmpfgaaGreatDoor
