-- Written by a program of this session (laid.sh): no printed text.
import Derived.Test.YtpboocpomnihbaaDoorShaDec
import Derived.Test.YtpboocpomnihbaaDoorRows
import Derived.Lib.LaidTab
import Derived.Stop.LaidErr
import Derived.KernelRfl
set_option linter.unusedVariables false
namespace Go.Proofs.YtpboocpomnihbaaDoor.Sha
open Go.RowKit Go.ChangeShapes
theorem laid_tab_eq : (Rows.laid_internal_strconv_uint64pow10 : DataW Unit) = Lib.tabData .u64 Lib.pow10Tab := by kernel_rfl
theorem tab_laid {r : List (String × DataW Unit)} {w : World} (hL : laidMet Tryd.prog (("internal/strconv.uint64pow10", Rows.laid_internal_strconv_uint64pow10) :: r) w) : Tb w := by
  rw [laid_tab_eq] at hL
  exact ⟨Lib.tabIs_of_head (g := 3) (t := 79) (e := 66) (n := 20) (by kernel_rfl) (by kernel_rfl) (by kernel_rfl) (by kernel_rfl) (by kernel_rfl) (by kernel_rfl) hL⟩
theorem star_ : "*" ++ "errors.errorString" = "*errors.errorString" := by decide
theorem row_ (u : TypeId) (h : Tryd.prog.typeName? 3 u = some "*errors.errorString") : u = 85 :=
  typeName_ptr_named (nm := "errors.errorString") (by rw [star_]; kernel_rfl) (by kernel_rfl) (by decide) u (by rw [star_]; exact h)
theorem syn_laid {r : List (String × DataW Unit)} {w : World} (hL : laidMet Tryd.prog (("strconv.ErrSyntax", Rows.laid_strconv_ErrSyntax) :: r) w) : ∃ tp p, w.var? Tryd.prog "strconv.ErrSyntax" = some #[.iface tp p] := by
  obtain ⟨a0, s0, hv0, -, -, -⟩ := laid_sentinel (g := 0) (ti := 40) hL (by kernel_rfl) (by kernel_rfl) Tryd.underlying40 row_ Tryd.underlying85 Tryd.underlying87 rfl rfl Tryd.underlying9 (by kernel_rfl) (by kernel_rfl)
  exact ⟨_, _, hv0⟩
theorem rng_laid {r : List (String × DataW Unit)} {w : World} (hL : laidMet Tryd.prog (("strconv.ErrRange", Rows.laid_strconv_ErrRange) :: r) w) : ∃ tp p, w.var? Tryd.prog "strconv.ErrRange" = some #[.iface tp p] := by
  obtain ⟨a0, s0, hv0, -, -, -⟩ := laid_sentinel (g := 1) (ti := 40) hL (by kernel_rfl) (by kernel_rfl) Tryd.underlying40 row_ Tryd.underlying85 Tryd.underlying87 rfl rfl Tryd.underlying9 (by kernel_rfl) (by kernel_rfl)
  exact ⟨_, _, hv0⟩
end Go.Proofs.YtpboocpomnihbaaDoor.Sha
