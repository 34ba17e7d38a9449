-- Written by a program of this session (laid.sh): no printed text.
import Derived.Test.YtplmegnfokdcjaaDoorShaFld
import Derived.Test.YtplmegnfokdcjaaDoorRows
import Derived.Lib.LaidTab
import Derived.Stop.LaidErr
import Derived.KernelRfl
set_option linter.unusedVariables false
namespace Go.Proofs.YtplmegnfokdcjaaDoor.Sha
open Go.RowKit Go.ChangeShapes
theorem laid_tab_eq : (Rows.laid_strings_asciiSpace : DataW Unit) = Lib.tabData .u8 Lib.asciiSpaceTab := by kernel_rfl
theorem tab_laid {r : List (String × DataW Unit)} {w : World} (hL : laidMet Tryd.prog (("strings.asciiSpace", Rows.laid_strings_asciiSpace) :: r) w) : Sp w := by
  rw [laid_tab_eq] at hL
  exact ⟨Lib.tabIs_of_head (g := 0) (t := 31) (e := 5) (n := 256) (by kernel_rfl) (by kernel_rfl) (by kernel_rfl) (by kernel_rfl) (by kernel_rfl) (by kernel_rfl) hL⟩
end Go.Proofs.YtplmegnfokdcjaaDoor.Sha
