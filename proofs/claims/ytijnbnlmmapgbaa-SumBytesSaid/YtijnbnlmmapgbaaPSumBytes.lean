/- The statement 'SumBytesSaid', proved: whatever the input, SumBytes returns true and each argument reads as it did. No condition. -/
import Derived.Test.YtijnbnlmmapgbaaRows
import Derived.Test.YtijnbnlmmapgbaaLaws2
import Derived.Test.YtijnbnlmmapgbaaWk7
namespace Go.Proofs.Ytijnbnlmmapgbaa
open Go.WK Go.RowKit Go.ChangeShapes Go.WideShapes Go.ChangeAt Go.ChangeMaps

theorem own : ownKnob Try.prog.godebug = none := by kernel_rfl
theorem laidOut : laidOutB Try.prog = true := by kernel_rfl
theorem cells5 : Try.prog.cellsOf 5 = 1 := by kernel_rfl
theorem bytes5 : Try.prog.bytesOf 5 = 1 := by kernel_rfl
theorem rok3 : Try.prog.readableRec 3 = true := by kernel_rfl
theorem rlt3 : 3 < Try.prog.types.size := of_decide_eq_true (by kernel_rfl)
theorem rok5 : Try.prog.readableRec 5 = true := by kernel_rfl
theorem rlt5 : 5 < Try.prog.types.size := of_decide_eq_true (by kernel_rfl)
theorem rok23 : Try.prog.readableRec 23 = true := by kernel_rfl
theorem rlt23 : 23 < Try.prog.types.size := of_decide_eq_true (by kernel_rfl)

theorem sumBytes_lifted (os : Os) (started : os.Started) (H : Type) (enc : TypeId × Value → H) :
    ReturnsInHanded {} Try.checked os 8 .any (Rows.sumBytesSpec.pre6 enc Try.prog Try.f8 Rows.sumBytesRow.domain false) (Rows.sumBytesSpec.post enc Try.prog Try.f8 false true false false) := by
  refine returnsInHanded_of_change_sized (C := Try.checked) own started (by kernel_rfl) Try.func8
    (ChangeSpec.witness6 (enc := enc) (C := Try.checked) false ⟨#[], #[.slice none 0 0, .int .i64 0, .int .u8 0], []⟩ 8 (by kernel_rfl) (by kernel_rfl) (by kernel_rfl) (by kernel_rfl)) ?_
  intro W base args ds gs before hval0 hW _ hsz0 _
  have hsz : (DataW.weightsEach Try.prog (Try.f8.params.toList ++ Rows.sumBytesSpec.plain.varTypes Try.prog) (ds ++ gs)).all (· ≤ reachBytes) = true := hsz0
  have hval : ∀ (j : Nat) t v, Try.f8.params[j]? = some t → args[j]? = some v → Value.okWide Try.prog W .any base t v := hval0
  clear hsz0 hval0
  have hW' := hW
  obtain ⟨p, q, hA0, hV, rfl, _, _⟩ := hW
  have hA : DataW.TrodAll enc Try.prog W 0 (fun _ => true) true Try.f8.params.toList args.toList ds p := hA0
  clear hA0
  rw [Try.params8] at hA hval hsz
  obtain ⟨v0, vs0, d0, ds0, p0, q0, hargs, rfl, rfl, h0, r0⟩ := trodAll_cons hA
  obtain ⟨v1, vs1, d1, ds1, p1, q1, rfl, rfl, rfl, h1, r1⟩ := trodAll_cons r0
  obtain ⟨v2, vs2, d2, ds2, p2, q2, rfl, rfl, rfl, h2, r2⟩ := trodAll_cons r1
  obtain ⟨rfl, rfl, rfl⟩ := trodAll_nil r2
  obtain rfl : args = #[v0, v1, v2] := by cases args; simp_all
  obtain ⟨rfl, rfl⟩ := trodVars_none hV
  obtain ⟨A, n, c, l, rfl, hc, hr, hn, hm⟩ := open_bytes Try.underlying23 Try.underlying5 cells5 bytes5 hsz (j := 0) rfl rfl (hval 0 23 v0 rfl rfl) h0
  obtain ⟨x1, rfl, rfl, rfl, w1⟩ := open_int Try.underlying3 (hval 1 3 v1 rfl rfl) h1
  have b1 := i64_of_wf w1
  obtain ⟨at_, rfl⟩ : ∃ y, y = x1 := ⟨_, rfl⟩
  obtain ⟨x2, rfl, rfl, rfl, w2⟩ := open_int Try.underlying5 (hval 2 5 v2 rfl rfl) h2
  obtain ⟨by_, rfl⟩ := u8_of_wf w2
  refine (sumBytes at_ by_ A n c l W hr hn (by omega)).mono fun e W' ⟨he, hx⟩ => ⟨_, he, ?_⟩
  refine law_post laidOut (fun t ht => ?_) rfl Try.underlying4 rfl hW' rfl rfl rfl hx
  rw [Try.params8] at ht
  simp only [List.mem_cons, List.not_mem_nil, or_false] at ht
  rcases ht with rfl | rfl | rfl
  · exact ⟨rok23, rlt23⟩
  · exact ⟨rok3, rlt3⟩
  · exact ⟨rok5, rlt5⟩

theorem sumBytes_holds : Rows.SumBytesSaid :=
  OpenClaim.holds_of_wide 8 Try.f8 rfl rfl rfl rfl rfl rfl rfl ⟨rfl, rfl, rfl, rfl, rfl⟩ rfl rfl rfl rfl rfl (by kernel_rfl) Try.func8 (by kernel_rfl)
    (of_decide_eq_true (by kernel_rfl)) (by unfold Func.isWrapper; first | (rw [if_pos (by decide +kernel)]; kernel_rfl) | (rw [if_neg (by decide +kernel)]; exact ⟨rfl, rfl⟩))
    (fun os started H enc _ => sumBytes_lifted os started H enc)

end Go.Proofs.Ytijnbnlmmapgbaa
