/- Facts on the library's sentinels and on the bulk's bound, for the rows that list them. -/
import Derived.Test.YtgogkkkacpacgaaDoorRows
import Derived.Test.YtgogkkkacpacgaaDoorVLib
import Derived.Stop.LaidErr
import Derived.KernelRfl
namespace Go.Proofs.YtgogkkkacpacgaaDoor
open Go.WK Go.RowKit
theorem tySyn : (Tryd.prog.globals[2]?).map (·.type) = some 61 := by kernel_rfl
theorem tyRng : (Tryd.prog.globals[3]?).map (·.type) = some 61 := by kernel_rfl
theorem cells120 : Tryd.prog.cellsOf 120 = 1 := by kernel_rfl
theorem cellsStr : Tryd.prog.cellsOf 9 = 1 := by kernel_rfl
theorem star : "*" ++ "errors.errorString" = "*errors.errorString" := by decide
theorem row118 (u : TypeId) (h : Tryd.prog.typeName? 3 u = some "*errors.errorString") : u = 118 :=
  typeName_ptr_named (nm := "errors.errorString") (by rw [star]; kernel_rfl) (by kernel_rfl) (by decide) u (by rw [star]; exact h)
theorem synIs {W : World} {rest : List (String × DataW Unit)} (h : laidMet Tryd.prog (("strconv.ErrSyntax", Rows.laid_strconv_ErrSyntax) :: rest) W) : ∃ tp p, W.var? Tryd.prog "strconv.ErrSyntax" = some #[.iface tp p] := by
  obtain ⟨a, s, hv, _⟩ := laid_sentinel h gSyn tySyn Tryd.underlying61 row118 Tryd.underlying118 Tryd.underlying120 rfl rfl Tryd.underlying9 cells120 cellsStr
  exact ⟨_, _, hv⟩
theorem rngIs {W : World} {rest : List (String × DataW Unit)} (h : laidMet Tryd.prog (("strconv.ErrRange", Rows.laid_strconv_ErrRange) :: rest) W) : ∃ tp p, W.var? Tryd.prog "strconv.ErrRange" = some #[.iface tp p] := by
  obtain ⟨a, s, hv, _⟩ := laid_sentinel h gRng tyRng Tryd.underlying61 row118 Tryd.underlying118 Tryd.underlying120 rfl rfl Tryd.underlying9 cells120 cellsStr
  exact ⟨_, _, hv⟩
def uptoLe {H : Type} (l : List (DataW H)) : Prop := Rows.uptoSmall H l = true
theorem uptoLe_iff {H : Type} {l : List (DataW H)} : uptoLe l ↔ Rows.uptoBulkAll l ≤ 1048576 := ⟨fun h => of_decide_eq_true h, fun h => decide_eq_true h⟩
end Go.Proofs.YtgogkkkacpacgaaDoor
