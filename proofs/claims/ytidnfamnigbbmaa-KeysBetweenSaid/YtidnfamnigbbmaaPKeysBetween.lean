/- The statement 'KeysBetweenSaid', proved: whatever the input, KeysBetween returns true and each argument reads as it did. No condition. -/
import Derived.Test.YtidnfamnigbbmaaRows
import Derived.Test.YtidnfamnigbbmaaLaws
import Derived.Test.YtidnfamnigbbmaaVOpen
namespace Go.Proofs.Ytidnfamnigbbmaa
open Go.WK Go.RowKit Go.ChangeShapes Go.WideShapes Go.ChangeAt Go.ChangeMaps

theorem own : ownKnob Try.prog.godebug = none := by kernel_rfl
theorem laidOut : laidOutB Try.prog = true := by kernel_rfl
theorem cells3 : Try.prog.cellsOf 3 = 1 := by kernel_rfl
theorem cells2 : Try.prog.cellsOf 2 = 1 := by kernel_rfl
theorem cells9 : Try.prog.cellsOf 9 = 1 := by kernel_rfl
theorem cells28 : Try.prog.cellsOf 28 = 3 := by kernel_rfl
theorem bytes28 : Try.prog.bytesOf 28 = 32 := by kernel_rfl
theorem rok22 : Try.prog.readableRec 22 = true := by kernel_rfl
theorem rlt22 : 22 < Try.prog.types.size := of_decide_eq_true (by kernel_rfl)

theorem keysBetween_lifted (os : Os) (started : os.Started) (H : Type) (enc : TypeId × Value → H) :
    ReturnsInHanded {} Try.checked os 7 .any (Rows.keysBetweenSpec.pre6 enc Try.prog Try.f7 Rows.keysBetweenRow.domain false) (Rows.keysBetweenSpec.post enc Try.prog Try.f7 false true false false) := by
  refine returnsInHanded_of_change_sized (C := Try.checked) own started (by kernel_rfl) Try.func7
    (ChangeSpec.witness6 (enc := enc) (C := Try.checked) false ⟨#[], #[.slice none 0 0, .slice none 0 0], []⟩ 8 (by kernel_rfl) (by kernel_rfl) (by kernel_rfl) (by kernel_rfl)) ?_
  intro W base args ds gs before hval0 hW _ hsz0 _
  have hsz : (DataW.weightsEach Try.prog (Try.f7.params.toList ++ Rows.keysBetweenSpec.plain.varTypes Try.prog) (ds ++ gs)).all (· ≤ reachBytes) = true := hsz0
  have hval : ∀ (j : Nat) t v, Try.f7.params[j]? = some t → args[j]? = some v → Value.okWide Try.prog W .any base t v := hval0
  clear hsz0 hval0
  have hW' := hW
  obtain ⟨p, q, hA0, hV, rfl, _, _⟩ := hW
  have hA : DataW.TrodAll enc Try.prog W 0 (fun _ => true) true Try.f7.params.toList args.toList ds p := hA0
  clear hA0
  rw [Try.params7] at hA hval hsz
  obtain ⟨v0, vs0, d0, ds0, p0, q0, hargs, rfl, rfl, h0, r0⟩ := trodAll_cons hA
  obtain ⟨v1, vs1, d1, ds1, p1, q1, rfl, rfl, rfl, h1, r1⟩ := trodAll_cons r0
  obtain ⟨rfl, rfl, rfl⟩ := trodAll_nil r1
  obtain rfl : args = #[v0, v1] := by cases args; simp_all
  obtain ⟨rfl, rfl⟩ := trodVars_none hV
  obtain ⟨A, n, c, l, rfl, hc, hr, hn, hm, ho, hs⟩ := open_vals Try.underlying22 Try.underlying28 Try.underlying3 Try.underlying2 Try.underlying9 cells3 cells2 cells9 cells28 bytes28 hsz (j := 0) rfl rfl (hval 0 22 v0 rfl rfl) h0
  obtain ⟨A2, n2, c2, l2, rfl, hc2, hr2, hn2, hm2, ho2, hs2⟩ := open_vals Try.underlying22 Try.underlying28 Try.underlying3 Try.underlying2 Try.underlying9 cells3 cells2 cells9 cells28 bytes28 hsz (j := 1) rfl rfl (hval 1 22 v1 rfl rfl) h1
  refine (keysBetween A n c l A2 n2 c2 l2 W hr hn (by omega) ho (fun v hv => Nat.le_trans (hs v hv) (by decide)) hc hr2 hn2 (by omega) ho2 (fun v hv => Nat.le_trans (hs2 v hv) (by decide)) hc2).mono fun e W' ⟨he, hx⟩ => ⟨_, he, ?_⟩
  refine law_post laidOut (fun t ht => ?_) rfl Try.underlying4 rfl hW' rfl rfl rfl hx
  rw [Try.params7] at ht
  simp only [List.mem_cons, List.not_mem_nil, or_false] at ht
  rcases ht with rfl | rfl
  · exact ⟨rok22, rlt22⟩
  · exact ⟨rok22, rlt22⟩

theorem keysBetween_holds : Rows.KeysBetweenSaid :=
  OpenClaim.holds_of_wide 7 Try.f7 rfl rfl rfl rfl rfl rfl rfl ⟨rfl, rfl, rfl, rfl, rfl⟩ rfl rfl rfl rfl rfl (by kernel_rfl) Try.func7 (by kernel_rfl)
    (of_decide_eq_true (by kernel_rfl)) (by unfold Func.isWrapper; first | (rw [if_pos (by decide +kernel)]; kernel_rfl) | (rw [if_neg (by decide +kernel)]; exact ⟨rfl, rfl⟩))
    (fun os started H enc _ => keysBetween_lifted os started H enc)

end Go.Proofs.Ytidnfamnigbbmaa
