-- Written by a program of this session (shalaid.sh): no printed text.
import Derived.Test.YtekplhhkbeemnaaDoorShaSb
import Derived.Test.YtekplhhkbeemnaaDoorRows
import Derived.Lib.LaidTab
import Derived.KernelRfl
set_option linter.unusedVariables false
namespace Go.Proofs.YtekplhhkbeemnaaDoor.Sha
open Go.RowKit Go.ChangeShapes
theorem laid_rt_eq : (Rows.laid_loop_example_g00394_impl_rounds : DataW Unit) = Lib.tabData .u32 KEYS := by kernel_rfl
theorem rt_laid {r : List (String × DataW Unit)} {w : World} (hL : laidMet Tryd.prog (("loop.example/g00394/impl.rounds", Rows.laid_loop_example_g00394_impl_rounds) :: r) w) : Rt w := by
  rw [laid_rt_eq] at hL
  have h := Lib.tabIs_of_head (g := 0) (t := 45) (e := 41) (n := 64) (by kernel_rfl) (by kernel_rfl) (by kernel_rfl) (by kernel_rfl) (by kernel_rfl) (by kernel_rfl) hL
  have hg : Tryd.prog.globalNamed "loop.example/g00394/impl.rounds" = some 0 := by kernel_rfl
  unfold Lib.TabIs World.var? at h
  rw [hg] at h
  simp only [Option.bind_some] at h
  split at h
  · rename_i cs t fr hh
    injection h with h
    subst h
    exact ⟨t, fr, hh⟩
  · cases h
end Go.Proofs.YtekplhhkbeemnaaDoor.Sha
