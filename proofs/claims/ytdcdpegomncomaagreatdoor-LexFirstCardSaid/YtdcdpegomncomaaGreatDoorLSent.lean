/- Facts on the library's sentinels, for the rows that list them. -/
import Derived.Test.YtdcdpegomncomaaGreatDoorRows
import Derived.Test.YtdcdpegomncomaaGreatDoorWalks5
import Derived.Test.YtdcdpegomncomaaGreatDoorLCard
import Derived.Stop.LaidErr
import Derived.KernelRfl
namespace Go.Proofs.YtdcdpegomncomaaGreatDoor
open Go.WK Go.RowKit
theorem tySyn : (Tryz.prog.globals[5]?).map (·.type) = some 24 := by kernel_rfl
theorem tyRng : (Tryz.prog.globals[6]?).map (·.type) = some 24 := by kernel_rfl
theorem cellsEs : Tryz.prog.cellsOf 143 = 1 := by kernel_rfl
theorem cellsStr : Tryz.prog.cellsOf 9 = 1 := by kernel_rfl
theorem star : "*" ++ "errors.errorString" = "*errors.errorString" := by decide
theorem rowEs (u : TypeId) (h : Tryz.prog.typeName? 3 u = some "*errors.errorString") : u = 141 :=
  typeName_ptr_named (nm := "errors.errorString") (by rw [star]; kernel_rfl) (by kernel_rfl) (by decide) u (by rw [star]; exact h)
theorem synIs {W : World} {rest : List (String × DataW Unit)} (h : laidMet Tryz.prog (("strconv.ErrSyntax", Rows.laid_strconv_ErrSyntax) :: rest) W) : ∃ tp p, W.var? Tryz.prog "strconv.ErrSyntax" = some #[.iface tp p] := by
  obtain ⟨a, s, hv, _⟩ := laid_sentinel h gSyn tySyn Tryz.underlying24 rowEs Tryz.underlying141 Tryz.underlying143 rfl rfl Tryz.underlying9 cellsEs cellsStr
  exact ⟨_, _, hv⟩
theorem rngIs {W : World} {rest : List (String × DataW Unit)} (h : laidMet Tryz.prog (("strconv.ErrRange", Rows.laid_strconv_ErrRange) :: rest) W) : ∃ tp p, W.var? Tryz.prog "strconv.ErrRange" = some #[.iface tp p] := by
  obtain ⟨a, s, hv, _⟩ := laid_sentinel h gRng tyRng Tryz.underlying24 rowEs Tryz.underlying141 Tryz.underlying143 rfl rfl Tryz.underlying9 cellsEs cellsStr
  exact ⟨_, _, hv⟩
theorem rtIs : (Tryz.prog.cutTypes.find? (·.1 == "internal/reflectlite.rtype")).map (·.2) = some 95 := by kernel_rfl
theorem oneRow : ((List.range 185).filter fun t => Tryz.prog.rowNamed t [101, 114, 114, 111, 114]) = [24] := by kernel_rfl
theorem tsize : Tryz.prog.types.size = 185 := by kernel_rfl
abbrev plainL : List (String × DataW Unit) := [("math/bits.deBruijn32tab", Rows.laid_math_bits_deBruijn32tab), ("math/bits.deBruijn64tab", Rows.laid_math_bits_deBruijn64tab), ("internal/strconv.uint64pow10", Rows.laid_internal_strconv_uint64pow10), ("unicode/utf8.acceptRanges", Rows.laid_unicode_utf8_acceptRanges), ("strconv.ErrRange", Rows.laid_strconv_ErrRange), ("strconv.ErrSyntax", Rows.laid_strconv_ErrSyntax), ("unicode.CaseRanges", Rows.laid_unicode_CaseRanges), ("unicode/utf8.first", Rows.laid_unicode_utf8_first)]
theorem handleL : (Rows.lexTokensRow.laid.filter fun x => x.2.handleName?.isSome) = [("errors.errorType", Rows.laid_errors_errorType)] := by kernel_rfl
theorem restL : (Rows.lexTokensRow.laid.filter fun x => x.2.handleName?.isNone) = plainL := by kernel_rfl
theorem errTyIs {W : World} (h : handlesMet Tryz.prog [("errors.errorType", Rows.laid_errors_errorType)] W) : W.cell? ⟨0, 0, none⟩ = some (.iface 95 (.agg #[.pointer (some ⟨10, 24, none⟩)])) := by
  obtain ⟨name, u, ty, e1, e2, e3, e4, e5⟩ := h _ (List.mem_singleton.2 rfl)
  have en : name = [101, 114, 114, 111, 114] := (Option.some.inj e1).symm
  subst en
  obtain rfl := Option.some.inj (rtIs.symm.trans e2)
  have hm : ty ∈ (List.range 185).filter fun t => Tryz.prog.rowNamed t [101, 114, 114, 111, 114] := List.mem_filter.2 ⟨List.mem_range.2 (by rw [← tsize]; exact e3), e4⟩
  rw [oneRow] at hm
  obtain rfl := List.mem_singleton.1 hm
  have hh : typeHandle Tryz.prog 24 = .pointer (some ⟨10, 24, none⟩) := by kernel_rfl
  rw [hh] at e5
  simpa using World.var?_cell ty_errType e5 0
/-- A world that holds what is listed. -/
noncomputable def base0 (os : Os) : World :=
  let w0 := World.holding Tryz.prog os ⟨#[], #[], []⟩
  { w0 with heap := w0.heap.modify 0 fun
      | .cells _ t frozen => .cells #[.iface 95 (.agg #[.pointer (some ⟨10, 24, none⟩)])] t frozen
      | o => o }
noncomputable def laidW (os : Os) : World := (base0 os).layVars Tryz.prog plainL
theorem laidW_os (os : Os) : (laidW os).os = os := World.layVars_os _ _ _
theorem laidW_met (os : Os) (args : Array Value) : laidMetH Tryz.prog Rows.lexTokensRow.laid ((laidW os).forCall (fun _ _ => 0) ⟨#[], args, []⟩).memory :=
  laidMetH_join handleL restL (laidMet_layOn args (by kernel_rfl) (by kernel_rfl)) (handlesMet_of_B (by kernel_rfl))
end Go.Proofs.YtdcdpegomncomaaGreatDoor
