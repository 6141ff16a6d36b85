/- The statement 'KeysDecodeSaid', proved: whatever the input, KeysDecode returns true and each argument reads as it did. No condition. -/
import Derived.Test.YtidnfamnigbbmaaRows
import Derived.Test.YtidnfamnigbbmaaLaws
import Derived.Test.YtidnfamnigbbmaaVOpen
namespace Go.Proofs.Ytidnfamnigbbmaa
open Go.WK Go.RowKit Go.ChangeShapes Go.WideShapes Go.ChangeAt Go.ChangeMaps

theorem own : ownKnob Try.prog.godebug = none := by kernel_rfl
theorem laidOut : laidOutB Try.prog = true := by kernel_rfl
theorem rok9 : Try.prog.readableRec 9 = true := by kernel_rfl
theorem rlt9 : 9 < Try.prog.types.size := of_decide_eq_true (by kernel_rfl)

theorem keysDecode_lifted (os : Os) (started : os.Started) (H : Type) (enc : TypeId × Value → H) :
    ReturnsInHanded {} Try.checked os 3 .any (Rows.keysDecodeSpec.pre6 enc Try.prog Try.f3 Rows.keysDecodeRow.domain false) (Rows.keysDecodeSpec.post enc Try.prog Try.f3 false true false false) := by
  refine returnsInHanded_of_change_sized (C := Try.checked) own started (by kernel_rfl) Try.func3
    (ChangeSpec.witness6 (enc := enc) (C := Try.checked) false ⟨#[], #[.string ⟨#[]⟩], []⟩ 8 (by kernel_rfl) (by kernel_rfl) (by kernel_rfl) (by kernel_rfl)) ?_
  intro W base args ds gs before hval0 hW _ hsz0 _
  have hsz : (DataW.weightsEach Try.prog (Try.f3.params.toList ++ Rows.keysDecodeSpec.plain.varTypes Try.prog) (ds ++ gs)).all (· ≤ reachBytes) = true := hsz0
  have hval : ∀ (j : Nat) t v, Try.f3.params[j]? = some t → args[j]? = some v → Value.okWide Try.prog W .any base t v := hval0
  clear hsz0 hval0
  have hW' := hW
  obtain ⟨p, q, hA0, hV, rfl, _, _⟩ := hW
  have hA : DataW.TrodAll enc Try.prog W 0 (fun _ => true) true Try.f3.params.toList args.toList ds p := hA0
  clear hA0
  rw [Try.params3] at hA hval hsz
  obtain ⟨v0, vs0, d0, ds0, p0, q0, hargs, rfl, rfl, h0, r0⟩ := trodAll_cons hA
  obtain ⟨rfl, rfl, rfl⟩ := trodAll_nil r0
  obtain rfl : args = #[v0] := by cases args; simp_all
  obtain ⟨rfl, rfl⟩ := trodVars_none hV
  obtain ⟨x0, rfl, rfl, rfl, _⟩ := open_string Try.underlying9 (hval 0 9 v0 rfl rfl) h0
  obtain ⟨s, rfl⟩ : ∃ l, x0 = B l := ⟨_, (B_eta x0).symm⟩
  have z0 : s.length ≤ 140737488351232 := by have := sized_string hsz (j := 0) rfl rfl; simpa [B, reachBytes] using this
  refine (keysDecode s W (by omega)).mono fun e W' ⟨he, hx⟩ => ⟨_, he, ?_⟩
  refine law_post laidOut (fun t ht => ?_) rfl Try.underlying4 rfl hW' rfl rfl rfl hx
  rw [Try.params3] at ht
  simp only [List.mem_cons, List.not_mem_nil, or_false] at ht
  subst ht
  exact ⟨rok9, rlt9⟩

theorem keysDecode_holds : Rows.KeysDecodeSaid :=
  OpenClaim.holds_of_wide 3 Try.f3 rfl rfl rfl rfl rfl rfl rfl ⟨rfl, rfl, rfl, rfl, rfl⟩ rfl rfl rfl rfl rfl (by kernel_rfl) Try.func3 (by kernel_rfl)
    (of_decide_eq_true (by kernel_rfl)) (by unfold Func.isWrapper; first | (rw [if_pos (by decide +kernel)]; kernel_rfl) | (rw [if_neg (by decide +kernel)]; exact ⟨rfl, rfl⟩))
    (fun os started H enc _ => keysDecode_lifted os started H enc)

end Go.Proofs.Ytidnfamnigbbmaa
