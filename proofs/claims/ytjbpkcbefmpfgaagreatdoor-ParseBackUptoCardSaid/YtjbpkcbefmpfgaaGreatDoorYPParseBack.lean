/- The card 'ParseBackUptoCardSaid', proved: whatever the input of bulk at most 1048576, ParseBack returns true and each argument reads as it did, where the listed variables of Go's library hold what the program's text lays in them. -/
import Derived.Test.YtjbpkcbefmpfgaaGreatDoorY6
import Derived.Test.YtjbpkcbefmpfgaaGreatDoorRows
import Derived.Test.YtjbpkcbefmpfgaaGreatDoorCards
import Derived.Test.YtjbpkcbefmpfgaaGreatDoorTie
namespace Go.Proofs.YtjbpkcbefmpfgaaGreatDoor
open Go.WK Go.RowKit Go.ChangeShapes Go.WideShapes Go.ChangeAt Go.ChangeMaps
theorem own : ownKnob Tryz.prog.godebug = none := by kernel_rfl
theorem laidOut : laidOutB Tryz.prog = true := by kernel_rfl
theorem rok9 : Tryz.prog.readableRec 9 = true := by kernel_rfl
theorem rlt9 : 9 < Tryz.prog.types.size := of_decide_eq_true (by kernel_rfl)
theorem rok37 : Tryz.prog.readableRec 37 = true := by kernel_rfl
theorem rlt37 : 37 < Tryz.prog.types.size := of_decide_eq_true (by kernel_rfl)
set_option maxRecDepth 100000 in
theorem parseBackUpto_lifted (os : Os) (started : os.Started) (H : Type) (enc : TypeId × Value → H) (F : Stop.Interp) :
    ReturnsInHanded {} Tryz.checked os 5 .any ((Rows.OpenSpec.upto Rows.parseBackSpec).preRow enc Tryz.prog Tryz.f5 Rows.parseBackUptoRow.domain false Rows.parseBackUptoRow.laid)
      (((Rows.OpenSpec.upto Rows.parseBackSpec).at F).post enc Tryz.prog Tryz.f5 false true false false) := by
  refine returnsInHanded_of_row (C := Tryz.checked) (s := Rows.OpenSpec.upto Rows.parseBackSpec) own started (by kernel_rfl) Tryz.func5
    (lX (enc := enc) (C := Tryz.checked) (os := os) false (laidW os) #[.agg #[.int .i64 0, .string ⟨#[]⟩, .string ⟨#[]⟩, .slice none 0 0, .slice none 0 0, .bool false, .slice none 0 0, .slice none 0 0, .int .i64 0, .int .i64 0, .int .i64 0, .string ⟨#[]⟩, .string ⟨#[]⟩, .string ⟨#[]⟩, .int .i64 0, .slice none 0 0, .bool false, .bool false, .slice none 0 0, .slice none 0 0, .int .i64 0, .int .i64 0, .int .i64 0, .string ⟨#[]⟩, .string ⟨#[]⟩, .string ⟨#[]⟩, .int .i64 0, .slice none 0 0, .slice none 0 0, .bool false, .int .i64 0], .string ⟨#[]⟩] (laidW_os _)
      (World.shaped_of_ZipB (by kernel_rfl) (by kernel_rfl)) (by kernel_rfl)
      (OpenSpec.preRow_of_cond 8 (x := ([.agg [.lit (.int .i64 0), .lit (.string []), .lit (.string []), .nil, .nil, .lit (.bool false), .nil, .nil, .agg [.lit (.int .i64 0), .agg [.lit (.int .i64 0), .lit (.int .i64 0), .lit (.string [])], .lit (.string []), .lit (.string []), .lit (.int .i64 0), .nil], .agg [.lit (.bool false), .lit (.bool false), .nil, .nil, .agg [.lit (.int .i64 0), .agg [.lit (.int .i64 0), .lit (.int .i64 0), .lit (.string [])], .lit (.string []), .lit (.string []), .lit (.int .i64 0), .nil], .nil, .lit (.bool false), .lit (.int .i64 0)]], .lit (.string [])], [], [])) (by kernel_rfl) (by kernel_rfl) (fun k hk => by cases hk; kernel_rfl) (by kernel_rfl)
        (yU os _))) ?_
  intro W base args ds gs before hval0 hW _ hcond hsz0 hlaid hsh _
  have hk : uptoLe (ds ++ gs) := hcond _ rfl
  have hsz : (DataW.weightsEach Tryz.prog (Tryz.f5.params.toList ++ Rows.parseBackSpec.plain.varTypes Tryz.prog) (ds ++ gs)).all (· ≤ reachBytes) = true := hsz0
  have hval : ∀ (j : Nat) t v, Tryz.f5.params[j]? = some t → args[j]? = some v → Value.okWide Tryz.prog W .any base t v := hval0
  clear hsz0 hval0 hcond
  have hW' := hW
  obtain ⟨p, q, hA0, hV, rfl, _, _⟩ := hW
  have hA : DataW.TrodAll enc Tryz.prog W 0 (fun _ => true) true Tryz.f5.params.toList args.toList ds p := hA0
  clear hA0
  rw [Tryz.params5] at hA hval hsz
  obtain ⟨v0, vs0, d0, ds0, p0, q0, hargs, rfl, rfl, h0, r0⟩ := trodAll_cons hA
  obtain ⟨v1, vs1, d1, ds1, p1, q1, rfl, rfl, rfl, h1, r1⟩ := trodAll_cons r0
  obtain ⟨rfl, rfl, rfl⟩ := trodAll_nil r1
  obtain rfl : args = #[v0, v1] := by cases args; simp_all
  obtain ⟨rfl, rfl⟩ := trodVars_none hV
  obtain ⟨s, ys, bls, rfl, ks, bs, os1, ls⟩ := open_stA (hval 0 37 v0 rfl rfl) h0
  obtain ⟨x1, rfl, rfl, rfl, _⟩ := open_string Tryz.underlying9 (hval 1 9 v1 rfl rfl) h1
  obtain ⟨q, rfl⟩ : ∃ l, x1 = B l := ⟨_, (sH x1).symm⟩
  have z1 : q.length ≤ 140737488351232 := by have := sized_string hsz (j := 1) rfl rfl; simpa [B, reachBytes] using this
  have K := known (W := W) hlaid hsh
  have zs : fS s ≤ 1048576 := by
    have h2 := vB.1 hk
    simp only [List.append_nil, Rows.uptoBulkAll] at h2
    omega
  refine (yT s ys bls q W K.E K.X K.V K.g ⟨⟨fun k hk => ⟨bs k hk, by simp⟩, fun k hk => ⟨by have := K.g; omega, by simp⟩⟩, K.V⟩ ks os1 (stm_bd (by omega)) (fun hm => by have := tt hm os1; omega) (by omega)).mono fun e W' ⟨he, hx⟩ => ⟨_, he, ?_⟩
  show Rows.parseBackSpec.post enc Tryz.prog Tryz.f5 false true false false W _ _ W'
  refine law_post laidOut (fun t ht => ?_) rfl Tryz.underlying4 rfl hW' rfl rfl rfl hx
  rw [Tryz.params5] at ht
  simp only [List.mem_cons, List.not_mem_nil, or_false] at ht
  rcases ht with rfl | rfl
  · exact ⟨rok37, rlt37⟩
  · exact ⟨rok9, rlt9⟩
theorem parseBackUpto_holds : Rows.ParseBackUptoSaid :=
  OpenClaim.holds_of_cond 5 Tryz.f5 rfl rfl rfl rfl rfl rfl rfl ⟨rfl, rfl, rfl, rfl, rfl⟩ rfl rfl rfl rfl rfl (by kernel_rfl) Tryz.func5 (by kernel_rfl)
    (of_decide_eq_true (by kernel_rfl)) (by unfold Func.isWrapper; first | (rw [if_pos (by decide +kernel)]; kernel_rfl) | (rw [if_neg (by decide +kernel)]; exact ⟨rfl, rfl⟩))
    (fun os started H enc _ F => by rw [OpenClaim.pre_eq_preRow]; exact parseBackUpto_lifted os started H enc F)
set_option maxRecDepth 100000 in
theorem parseBackUpto_card : Rows.ParseBackUptoCardSaid :=
  Claim7.holds_tied_plain_at .later [] [.data, .data, .data, .data, .handle, .sentinel, .sentinel, .pinned, .pinned] true (true, "1cefe0b76b4a2d6f90accfb93ea8621c45fb71f22fd3e127a883eddaefd1b84a") true parseBackUpto_holds (fun _ h => by cases h) (by kernel_rfl) (fun _ h => by cases h) parseBackUpto_row_tie rfl ⟨rfl, rfl⟩ (by kernel_rfl) rfl
    (fun f fn hf hfn => by
      obtain rfl : f = 5 := Option.some.inj ((show Tryz.prog.funcNamed "cadastre/cadastrelaw19.ParseBack" = some 5 by kernel_rfl).symm.trans hf) |>.symm
      obtain rfl : fn = Tryz.f5 := (Option.some.inj (Tryz.func5.symm.trans hfn)).symm
      exact ⟨by kernel_rfl, fun j t ht => by
        rw [Tryz.params5] at ht
        have hm : t ∈ [37, 9] := by simpa using Array.mem_of_getElem? ht
        have hall : ([37, 9].all fun u => !Tryz.prog.wantsStandIn u) = true := by kernel_rfl
        exact (show Tryz.prog.wantsStandIn t = false by simpa using List.all_eq_true.1 hall t hm)⟩)
    (by kernel_rfl)
end Go.Proofs.YtjbpkcbefmpfgaaGreatDoor
