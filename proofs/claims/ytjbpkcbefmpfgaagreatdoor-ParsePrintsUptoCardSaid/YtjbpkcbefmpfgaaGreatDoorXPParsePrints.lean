/- The card 'ParsePrintsUptoCardSaid', proved: whatever the input of bulk at most 1048576, ParsePrints returns true and each argument reads as it did, where the listed variables of Go's library hold what the program's text lays in them. -/
import Derived.Test.YtjbpkcbefmpfgaaGreatDoorX5
import Derived.Test.YtjbpkcbefmpfgaaGreatDoorRows
import Derived.Test.YtjbpkcbefmpfgaaGreatDoorCards
import Derived.Test.YtjbpkcbefmpfgaaGreatDoorTie
namespace Go.Proofs.YtjbpkcbefmpfgaaGreatDoor
open Go.WK Go.RowKit Go.ChangeShapes Go.WideShapes Go.ChangeAt Go.ChangeMaps
theorem own : ownKnob Tryz.prog.godebug = none := by kernel_rfl
theorem laidOut : laidOutB Tryz.prog = true := by kernel_rfl
theorem rok37 : Tryz.prog.readableRec 37 = true := by kernel_rfl
theorem rlt37 : 37 < Tryz.prog.types.size := of_decide_eq_true (by kernel_rfl)
set_option maxRecDepth 100000 in
theorem parsePrintsUpto_lifted (os : Os) (started : os.Started) (H : Type) (enc : TypeId × Value → H) (F : Stop.Interp) :
    ReturnsInHanded {} Tryz.checked os 3 .any ((Rows.OpenSpec.upto Rows.parsePrintsSpec).preRow enc Tryz.prog Tryz.f3 Rows.parsePrintsUptoRow.domain false Rows.parsePrintsUptoRow.laid)
      (((Rows.OpenSpec.upto Rows.parsePrintsSpec).at F).post enc Tryz.prog Tryz.f3 false true false false) := by
  refine returnsInHanded_of_row (C := Tryz.checked) (s := Rows.OpenSpec.upto Rows.parsePrintsSpec) own started (by kernel_rfl) Tryz.func3
    (ke (enc := enc) (C := Tryz.checked) (os := os) false (laidW os) #[.agg #[.int .i64 0, .string ⟨#[]⟩, .string ⟨#[]⟩, .slice none 0 0, .slice none 0 0, .bool false, .slice none 0 0, .slice none 0 0, .int .i64 0, .int .i64 0, .int .i64 0, .string ⟨#[]⟩, .string ⟨#[]⟩, .string ⟨#[]⟩, .int .i64 0, .slice none 0 0, .bool false, .bool false, .slice none 0 0, .slice none 0 0, .int .i64 0, .int .i64 0, .int .i64 0, .string ⟨#[]⟩, .string ⟨#[]⟩, .string ⟨#[]⟩, .int .i64 0, .slice none 0 0, .slice none 0 0, .bool false, .int .i64 0]] (laidW_os _)
      (World.shaped_of_ZipB (by kernel_rfl) (by kernel_rfl)) (by kernel_rfl)
      (OpenSpec.preRow_of_cond 8 (x := ([.agg [.lit (.int .i64 0), .lit (.string []), .lit (.string []), .nil, .nil, .lit (.bool false), .nil, .nil, .agg [.lit (.int .i64 0), .agg [.lit (.int .i64 0), .lit (.int .i64 0), .lit (.string [])], .lit (.string []), .lit (.string []), .lit (.int .i64 0), .nil], .agg [.lit (.bool false), .lit (.bool false), .nil, .nil, .agg [.lit (.int .i64 0), .agg [.lit (.int .i64 0), .lit (.int .i64 0), .lit (.string [])], .lit (.string []), .lit (.string []), .lit (.int .i64 0), .nil], .nil, .lit (.bool false), .lit (.int .i64 0)]]], [], [])) (by kernel_rfl) (by kernel_rfl) (fun k hk => by cases hk; kernel_rfl) (by kernel_rfl)
        (tN os _))) ?_
  intro W base args ds gs before hval0 hW _ hcond hsz0 hlaid hsh _
  have hk : uptoLe (ds ++ gs) := hcond _ rfl
  have hsz : (DataW.weightsEach Tryz.prog (Tryz.f3.params.toList ++ Rows.parsePrintsSpec.plain.varTypes Tryz.prog) (ds ++ gs)).all (· ≤ reachBytes) = true := hsz0
  have hval : ∀ (j : Nat) t v, Tryz.f3.params[j]? = some t → args[j]? = some v → Value.okWide Tryz.prog W .any base t v := hval0
  clear hsz0 hval0 hcond
  have hW' := hW
  obtain ⟨p, q, hA0, hV, rfl, _, _⟩ := hW
  have hA : DataW.TrodAll enc Tryz.prog W 0 (fun _ => true) true Tryz.f3.params.toList args.toList ds p := hA0
  clear hA0
  rw [Tryz.params3] at hA hval hsz
  obtain ⟨v0, vs0, d0, ds0, p0, q0, hargs, rfl, rfl, h0, r0⟩ := trodAll_cons hA
  obtain ⟨rfl, rfl, rfl⟩ := trodAll_nil r0
  obtain rfl : args = #[v0] := by cases args; simp_all
  obtain ⟨rfl, rfl⟩ := trodVars_none hV
  obtain ⟨s, ys, bls, rfl, ks, bs, os1, ls⟩ := open_stA (hval 0 37 v0 rfl rfl) h0
  have K := known (W := W) hlaid hsh
  have zs : fS s ≤ 1048576 := Nat.le_trans ls (by simpa [Rows.uptoBulkAll] using rA.1 hk)
  refine (pY s ys bls W K.E K.X K.V K.g ⟨⟨fun k hk => ⟨bs k hk, by simp⟩, fun k hk => ⟨by have := K.g; omega, by simp⟩⟩, K.V⟩ ks os1 (stm_bd (by omega)) (fun hm => by have := stmT_len hm os1; omega)).mono fun e W' ⟨he, hx⟩ => ⟨_, he, ?_⟩
  show Rows.parsePrintsSpec.post enc Tryz.prog Tryz.f3 false true false false W _ _ W'
  refine law_post laidOut (fun t ht => ?_) rfl Tryz.underlying4 rfl hW' rfl rfl rfl hx
  rw [Tryz.params3] at ht
  simp only [List.mem_cons, List.not_mem_nil, or_false] at ht
  subst ht
  exact ⟨rok37, rlt37⟩
theorem parsePrintsUpto_holds : Rows.ParsePrintsUptoSaid :=
  OpenClaim.holds_of_cond 3 Tryz.f3 rfl rfl rfl rfl rfl rfl rfl ⟨rfl, rfl, rfl, rfl, rfl⟩ rfl rfl rfl rfl rfl (by kernel_rfl) Tryz.func3 (by kernel_rfl)
    (of_decide_eq_true (by kernel_rfl)) (by unfold Func.isWrapper; first | (rw [if_pos (by decide +kernel)]; kernel_rfl) | (rw [if_neg (by decide +kernel)]; exact ⟨rfl, rfl⟩))
    (fun os started H enc _ F => by rw [OpenClaim.pre_eq_preRow]; exact parsePrintsUpto_lifted os started H enc F)
set_option maxRecDepth 100000 in
theorem parsePrintsUpto_card : Rows.ParsePrintsUptoCardSaid :=
  Claim7.holds_tied_plain_at .later [] [.data, .data, .data, .data, .handle, .sentinel, .sentinel, .pinned, .pinned] true (true, "1cefe0b76b4a2d6f90accfb93ea8621c45fb71f22fd3e127a883eddaefd1b84a") true parsePrintsUpto_holds (fun _ h => by cases h) (by kernel_rfl) (fun _ h => by cases h) parsePrintsUpto_row_tie rfl ⟨rfl, rfl⟩ (by kernel_rfl) rfl
    (fun f fn hf hfn => by
      obtain rfl : f = 3 := Option.some.inj ((show Tryz.prog.funcNamed "cadastre/cadastrelaw19.ParsePrints" = some 3 by kernel_rfl).symm.trans hf) |>.symm
      obtain rfl : fn = Tryz.f3 := (Option.some.inj (Tryz.func3.symm.trans hfn)).symm
      exact ⟨by kernel_rfl, fun j t ht => by
        rw [Tryz.params3] at ht
        have hm : t ∈ [37] := by simpa using Array.mem_of_getElem? ht
        have hall : ([37].all fun u => !Tryz.prog.wantsStandIn u) = true := by kernel_rfl
        exact (show Tryz.prog.wantsStandIn t = false by simpa using List.all_eq_true.1 hall t hm)⟩)
    (by kernel_rfl)
end Go.Proofs.YtjbpkcbefmpfgaaGreatDoor
