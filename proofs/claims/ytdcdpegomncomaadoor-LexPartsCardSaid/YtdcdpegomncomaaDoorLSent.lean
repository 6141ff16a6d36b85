/- Facts on the library's sentinels, for the rows that list them. -/
import Derived.Test.YtdcdpegomncomaaDoorRows
import Derived.Test.YtdcdpegomncomaaDoorLLib
import Derived.Stop.LaidErr
import Derived.KernelRfl
namespace Go.Proofs.YtdcdpegomncomaaDoor
open Go.WK Go.RowKit
theorem tySyn : (Tryd.prog.globals[4]?).map (·.type) = some 28 := by kernel_rfl
theorem tyRng : (Tryd.prog.globals[5]?).map (·.type) = some 28 := by kernel_rfl
theorem cellsEs : Tryd.prog.cellsOf 105 = 1 := by kernel_rfl
theorem cellsStr : Tryd.prog.cellsOf 9 = 1 := by kernel_rfl
theorem star : "*" ++ "errors.errorString" = "*errors.errorString" := by decide
theorem rowEs (u : TypeId) (h : Tryd.prog.typeName? 3 u = some "*errors.errorString") : u = 103 :=
  typeName_ptr_named (nm := "errors.errorString") (by rw [star]; kernel_rfl) (by kernel_rfl) (by decide) u (by rw [star]; exact h)
theorem synIs {W : World} {rest : List (String × DataW Unit)} (h : laidMet Tryd.prog (("strconv.ErrSyntax", Rows.laid_strconv_ErrSyntax) :: rest) W) : ∃ tp p, W.var? Tryd.prog "strconv.ErrSyntax" = some #[.iface tp p] := by
  obtain ⟨a, s, hv, _⟩ := laid_sentinel h gSyn tySyn Tryd.underlying28 rowEs Tryd.underlying103 Tryd.underlying105 rfl rfl Tryd.underlying9 cellsEs cellsStr
  exact ⟨_, _, hv⟩
theorem rngIs {W : World} {rest : List (String × DataW Unit)} (h : laidMet Tryd.prog (("strconv.ErrRange", Rows.laid_strconv_ErrRange) :: rest) W) : ∃ tp p, W.var? Tryd.prog "strconv.ErrRange" = some #[.iface tp p] := by
  obtain ⟨a, s, hv, _⟩ := laid_sentinel h gRng tyRng Tryd.underlying28 rowEs Tryd.underlying103 Tryd.underlying105 rfl rfl Tryd.underlying9 cellsEs cellsStr
  exact ⟨_, _, hv⟩
end Go.Proofs.YtdcdpegomncomaaDoor
