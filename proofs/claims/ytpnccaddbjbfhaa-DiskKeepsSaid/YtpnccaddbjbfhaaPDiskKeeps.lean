/- The statement 'DiskKeepsSaid', proved: whatever the input, DiskKeeps returns true and each argument reads as it did. No condition. -/
import Derived.Test.YtpnccaddbjbfhaaRows
import Derived.Test.YtpnccaddbjbfhaaLaws3
import Derived.Test.YtpnccaddbjbfhaaSOpen
namespace Go.Proofs.Ytpnccaddbjbfhaa
open Go.WK Go.RowKit Go.ChangeShapes Go.WideShapes Go.ChangeAt Go.ChangeMaps

theorem own : ownKnob Try.prog.godebug = none := by kernel_rfl
theorem laidOut : laidOutB Try.prog = true := by kernel_rfl
theorem cells3 : Try.prog.cellsOf 3 = 1 := by kernel_rfl
theorem cells5 : Try.prog.cellsOf 5 = 1 := by kernel_rfl
theorem cells4 : Try.prog.cellsOf 4 = 1 := by kernel_rfl
theorem cells32 : Try.prog.cellsOf 32 = 1 := by kernel_rfl
theorem cells23 : Try.prog.cellsOf 23 = 1 := by kernel_rfl
theorem cells35 : Try.prog.cellsOf 35 = 5 := by kernel_rfl
theorem bytes5 : Try.prog.bytesOf 5 = 1 := by kernel_rfl
theorem rok22 : Try.prog.readableRec 22 = true := by kernel_rfl
theorem rlt22 : 22 < Try.prog.types.size := of_decide_eq_true (by kernel_rfl)
theorem rok23 : Try.prog.readableRec 23 = true := by kernel_rfl
theorem rlt23 : 23 < Try.prog.types.size := of_decide_eq_true (by kernel_rfl)

theorem diskKeeps_lifted (os : Os) (started : os.Started) (H : Type) (enc : TypeId × Value → H) :
    ReturnsInHanded {} Try.checked os 3 .any (Rows.diskKeepsSpec.pre6 enc Try.prog Try.f3 Rows.diskKeepsRow.domain false) (Rows.diskKeepsSpec.post enc Try.prog Try.f3 false true false false) := by
  refine returnsInHanded_of_change_sized (C := Try.checked) own started (by kernel_rfl) Try.func3
    (ChangeSpec.witness6 (enc := enc) (C := Try.checked) false ⟨#[], #[.slice none 0 0, .slice none 0 0], []⟩ 8 (by kernel_rfl) (by kernel_rfl) (by kernel_rfl) (by kernel_rfl)) ?_
  intro W base args ds gs before hval0 hW _ hsz0 _
  have hsz : (DataW.weightsEach Try.prog (Try.f3.params.toList ++ Rows.diskKeepsSpec.plain.varTypes Try.prog) (ds ++ gs)).all (· ≤ reachBytes) = true := hsz0
  have hval : ∀ (j : Nat) t v, Try.f3.params[j]? = some t → args[j]? = some v → Value.okWide Try.prog W .any base t v := hval0
  clear hsz0 hval0
  have hW' := hW
  obtain ⟨p, q, hA0, hV, rfl, _, _⟩ := hW
  have hA : DataW.TrodAll enc Try.prog W 0 (fun _ => true) true Try.f3.params.toList args.toList ds p := hA0
  clear hA0
  rw [Try.params3] at hA hval hsz
  obtain ⟨v0, vs0, d0, ds0, p0, q0, hargs, rfl, rfl, h0, r0⟩ := trodAll_cons hA
  obtain ⟨v1, vs1, d1, ds1, p1, q1, rfl, rfl, rfl, h1, r1⟩ := trodAll_cons r0
  obtain ⟨rfl, rfl, rfl⟩ := trodAll_nil r1
  obtain rfl : args = #[v0, v1] := by cases args; simp_all
  obtain ⟨rfl, rfl⟩ := trodVars_none hV
  obtain ⟨A, ln, c, l, rfl, hc, _, hr, hn, hst, hsn⟩ := open_steps Try.underlying22 Try.underlying35 Try.underlying3 Try.underlying3 Try.underlying32 Try.underlying3 Try.underlying23 Try.underlying5 Try.underlying4 cells3 cells3 cells32 cells3 cells23 cells5 cells4 bytes5 cells35 hsz (j := 0) rfl rfl (hval 0 22 v0 rfl rfl) h0
  obtain ⟨KA, kn, kc, keep, rfl, hkc, hkm, hkr, hkn⟩ := open_blarg Try.underlying23 Try.underlying4 cells4 (hval 1 23 v1 rfl rfl) h1
  refine (keeps A ln c l KA kn kc keep W hr hn hst hsn hkr hkn).mono fun e W' ⟨he, hx⟩ => ⟨_, he, ?_⟩
  refine law_post laidOut (fun t ht => ?_) rfl Try.underlying4 rfl hW' rfl rfl rfl hx
  rw [Try.params3] at ht
  simp only [List.mem_cons, List.not_mem_nil, or_false] at ht
  rcases ht with rfl | rfl
  · exact ⟨rok22, rlt22⟩
  · exact ⟨rok23, rlt23⟩

theorem diskKeeps_holds : Rows.DiskKeepsSaid :=
  OpenClaim.holds_of_wide 3 Try.f3 rfl rfl rfl rfl rfl rfl rfl ⟨rfl, rfl, rfl, rfl, rfl⟩ rfl rfl rfl rfl rfl (by kernel_rfl) Try.func3 (by kernel_rfl)
    (of_decide_eq_true (by kernel_rfl)) (by unfold Func.isWrapper; first | (rw [if_pos (by decide +kernel)]; kernel_rfl) | (rw [if_neg (by decide +kernel)]; exact ⟨rfl, rfl⟩))
    (fun os started H enc _ => diskKeeps_lifted os started H enc)

end Go.Proofs.Ytpnccaddbjbfhaa
