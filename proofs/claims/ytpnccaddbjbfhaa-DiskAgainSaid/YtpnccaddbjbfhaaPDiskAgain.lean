/- The statement 'DiskAgainSaid', proved: whatever the input, DiskAgain returns true and each argument reads as it did. No condition. -/
import Derived.Test.YtpnccaddbjbfhaaRows
import Derived.Test.YtpnccaddbjbfhaaLaws2
import Derived.Test.YtpnccaddbjbfhaaSOpen
namespace Go.Proofs.Ytpnccaddbjbfhaa
open Go.WK Go.RowKit Go.ChangeShapes Go.WideShapes Go.ChangeAt Go.ChangeMaps

theorem own : ownKnob Try.prog.godebug = none := by kernel_rfl
theorem laidOut : laidOutB Try.prog = true := by kernel_rfl
theorem cells3 : Try.prog.cellsOf 3 = 1 := by kernel_rfl
theorem cells5 : Try.prog.cellsOf 5 = 1 := by kernel_rfl
theorem cells4 : Try.prog.cellsOf 4 = 1 := by kernel_rfl
theorem cells32 : Try.prog.cellsOf 32 = 1 := by kernel_rfl
theorem cells23 : Try.prog.cellsOf 23 = 1 := by kernel_rfl
theorem cells35 : Try.prog.cellsOf 35 = 5 := by kernel_rfl
theorem bytes5 : Try.prog.bytesOf 5 = 1 := by kernel_rfl
theorem rok3 : Try.prog.readableRec 3 = true := by kernel_rfl
theorem rlt3 : 3 < Try.prog.types.size := of_decide_eq_true (by kernel_rfl)
theorem rok22 : Try.prog.readableRec 22 = true := by kernel_rfl
theorem rlt22 : 22 < Try.prog.types.size := of_decide_eq_true (by kernel_rfl)

theorem diskAgain_lifted (os : Os) (started : os.Started) (H : Type) (enc : TypeId × Value → H) :
    ReturnsInHanded {} Try.checked os 8 .any (Rows.diskAgainSpec.pre6 enc Try.prog Try.f8 Rows.diskAgainRow.domain false) (Rows.diskAgainSpec.post enc Try.prog Try.f8 false true false false) := by
  refine returnsInHanded_of_change_sized (C := Try.checked) own started (by kernel_rfl) Try.func8
    (ChangeSpec.witness6 (enc := enc) (C := Try.checked) false ⟨#[], #[.int .i64 0, .slice none 0 0, .slice none 0 0], []⟩ 8 (by kernel_rfl) (by kernel_rfl) (by kernel_rfl) (by kernel_rfl)) ?_
  intro W base args ds gs before hval0 hW _ hsz0 _
  have hsz : (DataW.weightsEach Try.prog (Try.f8.params.toList ++ Rows.diskAgainSpec.plain.varTypes Try.prog) (ds ++ gs)).all (· ≤ reachBytes) = true := hsz0
  have hval : ∀ (j : Nat) t v, Try.f8.params[j]? = some t → args[j]? = some v → Value.okWide Try.prog W .any base t v := hval0
  clear hsz0 hval0
  have hW' := hW
  obtain ⟨p, q, hA0, hV, rfl, _, _⟩ := hW
  have hA : DataW.TrodAll enc Try.prog W 0 (fun _ => true) true Try.f8.params.toList args.toList ds p := hA0
  clear hA0
  rw [Try.params8] at hA hval hsz
  obtain ⟨v0, vs0, d0, ds0, p0, q0, hargs, rfl, rfl, h0, r0⟩ := trodAll_cons hA
  obtain ⟨v1, vs1, d1, ds1, p1, q1, rfl, rfl, rfl, h1, r1⟩ := trodAll_cons r0
  obtain ⟨v2, vs2, d2, ds2, p2, q2, rfl, rfl, rfl, h2, r2⟩ := trodAll_cons r1
  obtain ⟨rfl, rfl, rfl⟩ := trodAll_nil r2
  obtain rfl : args = #[v0, v1, v2] := by cases args; simp_all
  obtain ⟨rfl, rfl⟩ := trodVars_none hV
  obtain ⟨x0, rfl, rfl, rfl, w0⟩ := open_int Try.underlying3 (hval 0 3 v0 rfl rfl) h0
  have b0 := i64_of_wf w0
  obtain ⟨n, rfl⟩ : ∃ y, y = x0 := ⟨_, rfl⟩
  obtain ⟨A, ln, c, l, rfl, hc, _, hr, hn, hst, hsn⟩ := open_steps Try.underlying22 Try.underlying35 Try.underlying3 Try.underlying3 Try.underlying32 Try.underlying3 Try.underlying23 Try.underlying5 Try.underlying4 cells3 cells3 cells32 cells3 cells23 cells5 cells4 bytes5 cells35 hsz (j := 1) rfl rfl (hval 1 22 v1 rfl rfl) h1
  obtain ⟨A2, ln2, c2, l2, rfl, hc2, _, hr2, hn2, hst2, hsn2⟩ := open_steps Try.underlying22 Try.underlying35 Try.underlying3 Try.underlying3 Try.underlying32 Try.underlying3 Try.underlying23 Try.underlying5 Try.underlying4 cells3 cells3 cells32 cells3 cells23 cells5 cells4 bytes5 cells35 hsz (j := 2) rfl rfl (hval 2 22 v2 rfl rfl) h2
  refine (diskAgain n A ln c l A2 ln2 c2 l2 W hr hn hst hsn hr2 hn2 hst2).mono fun e W' ⟨he, hx⟩ => ⟨_, he, ?_⟩
  refine law_post laidOut (fun t ht => ?_) rfl Try.underlying4 rfl hW' rfl rfl rfl hx
  rw [Try.params8] at ht
  simp only [List.mem_cons, List.not_mem_nil, or_false] at ht
  rcases ht with rfl | rfl | rfl
  · exact ⟨rok3, rlt3⟩
  · exact ⟨rok22, rlt22⟩
  · exact ⟨rok22, rlt22⟩

theorem diskAgain_holds : Rows.DiskAgainSaid :=
  OpenClaim.holds_of_wide 8 Try.f8 rfl rfl rfl rfl rfl rfl rfl ⟨rfl, rfl, rfl, rfl, rfl⟩ rfl rfl rfl rfl rfl (by kernel_rfl) Try.func8 (by kernel_rfl)
    (of_decide_eq_true (by kernel_rfl)) (by unfold Func.isWrapper; first | (rw [if_pos (by decide +kernel)]; kernel_rfl) | (rw [if_neg (by decide +kernel)]; exact ⟨rfl, rfl⟩))
    (fun os started H enc _ => diskAgain_lifted os started H enc)

end Go.Proofs.Ytpnccaddbjbfhaa
