/- Facts on the library's table of powers, for the rows that list it. -/
import Derived.Test.YtgogkkkacpacgaaDoorVLib
import Derived.KernelRfl
namespace Go.Proofs.YtgogkkkacpacgaaDoor
theorem tyTab : (Tryd.prog.globals[1]?).map (·.type) = some 97 := by kernel_rfl
theorem cellsU : Tryd.prog.cellsOf 67 = 1 := by kernel_rfl
theorem cellsTab : Tryd.prog.cellsOf 97 = 20 := by kernel_rfl
end Go.Proofs.YtgogkkkacpacgaaDoor
