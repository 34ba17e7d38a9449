-- Written by a program of this session (lawrow.py): no printed text.
import Derived.Test.YtknalcnbkbkjdaaRows
import Derived.Test.YtknalcnbkbkjdaaVGFnExactBodyTextx13
import Derived.Test.YtknalcnbkbkjdaaVPureFnExactBodyText
import Derived.WalkKit
import Derived.ProofKit
import Derived.OpenShut
import Derived.ShutString
import Derived.ChangeOld
import Derived.Below
import Derived.SizedLaws
import Derived.SliceStrings
namespace Go.Proofs.Ytknalcnbkbkjdaa.fnExactBodyText
open Go.ChangeShapes Go.WideShapes Go.ChangeAt Go.RowKit Go.Proofs.Ytknalcnbkbkjdaa.GFnExactBodyText Go.Proofs.Ytknalcnbkbkjdaa.GFnExactBodyText Go.Proofs.YtknalcnbkbkjdaaW.PrintWords
open Go.ChangeMaps (open_string shut_string)
set_option linter.unusedVariables false
theorem own : ownKnob Try.prog.godebug = none := by kernel_rfl
theorem laidOut : laidOutB Try.prog = true := by kernel_rfl
set_option maxRecDepth 100000 in
theorem lifted (os : Os) (started : os.Started) (H : Type) (enc : TypeId × Value → H) :
    ReturnsInHanded {} Try.checked os 7 .any (Rows.fnExactBodyTextSpec.pre6 enc Try.prog Try.f7 Rows.fnExactBodyTextRow.domain false) (Rows.fnExactBodyTextSpec.post enc Try.prog Try.f7 false true false false) := by
  refine returnsInHanded_of_change_sized (C := Try.checked) own started (by kernel_rfl) Try.func7
    (ChangeSpec.witness6 (enc := enc) (C := Try.checked) false ⟨#[], #[.agg #[.int .i64 0, .string ⟨#[]⟩, .string ⟨#[]⟩, .int .i64 0, .int .i64 0, .string ⟨#[]⟩, .bool false, .int .i64 0, .int .i64 0, .slice none 0 0, .slice none 0 0, .slice none 0 0, .string ⟨#[]⟩]], []⟩ 8 (by kernel_rfl) (by kernel_rfl) (by kernel_rfl) (by kernel_rfl)) ?_
  intro W base args ds gs before hval0 hW hcnd hsz0 _
  have hsz : (DataW.weightsEach Try.prog (Try.f7.params.toList ++ Rows.fnExactBodyTextSpec.plain.varTypes Try.prog) (ds ++ gs)).all (· ≤ reachBytes) = true := hsz0
  have hval : ∀ (j : Nat) t v, Try.f7.params[j]? = some t → args[j]? = some v → Value.okWide Try.prog W .any base t v := hval0
  have hW' := hW
  obtain ⟨p, q, hA0, hV, rfl, hfz, hnd⟩ := hW
  have hA : DataW.TrodAll enc Try.prog W 0 (fun _ => true) true Try.f7.params.toList args.toList ds p := hA0
  rw [Try.params7] at hA hval hsz
  obtain ⟨v0, vs0, d0, ds0, p0, q0, hargs, rfl, rfl, h0, r0⟩ := trodAll_cons hA
  obtain ⟨rfl, rfl, rfl⟩ := trodAll_nil r0
  obtain rfl : args = #[v0] := by cases args; simp_all
  obtain ⟨rfl, rfl⟩ := trodVars_none hV
  have k0 := h0
  have lt0 : ∀ x ∈ p0, x.block < W.heap.size := by obtain ⟨m, hm⟩ := k0; exact DataW.trod_lt m _ _ _ hm
  obtain ⟨cs0, rfl, _⟩ := okWide_struct Try.underlying49 (hval 0 49 v0 rfl rfl)
  obtain ⟨n0, e0⟩ := h0
  obtain ⟨a0, a1, a2, a3, a4, a5, a6, a7, a8, A9, c9, l9, A10, c10, l10, A11, c11, l11, a12, hcs0, ⟨z1, z2, z5, z12⟩, ⟨m9, k9, r9⟩, ⟨m10, w10, k10, r10⟩, ⟨m11, w11, k11, r11⟩⟩ := openCert e0
  obtain rfl : cs0 = #[.int .i64 a0, .string a1, .string a2, .int .i64 a3, .int .i64 a4, .string a5, .bool a6, .int .i64 a7, .int .i64 a8, .slice A9 l9.length c9, .slice A10 l10.length c10, .slice A11 l11.length c11, .string a12] := by cases cs0; simpa [Value.cells] using hcs0
  clear hA0 hval0 hsz0 hsz
  obtain ⟨k, hf⟩ := Go.Proofs.Ytknalcnbkbkjdaa.Pure.FnExactBodyText a0 a1 a2 a3 a4 a5 a6 a7 a8 l9 l10 l11 a12 z1 z2 z5 z12 m9 m10 w10 m11 w11
  refine (laws_FnExactBodyText.calls k a0 a1 a2 a3 a4 a5 a6 a7 a8 A9 c9 l9 A10 c10 l10 A11 c11 l11 a12 true W r9 k9 r10 k10 r11 k11 hf).mono fun e W' ⟨he, bel⟩ => ?_
  subst he
  exact ⟨_, rfl, _, _, _, [], _, [], hW', trodAll_mk1 (shut_bool Try.underlying4 _), (trodAll_cons_mk (Below.trod laidOut (by kernel_rfl) (of_decide_eq_true (by kernel_rfl)) k0 bel lt0) trodAll_mk0), rfl, bel.frame _, fun h => by cases h⟩
theorem over : Rows.fnExactBodyTextRow.holds Try.pinned (OpenSpec.ofChange Rows.fnExactBodyTextSpec) :=
  OpenClaim.holds_of_wide 7 Try.f7 rfl rfl rfl rfl rfl rfl rfl ⟨rfl, rfl, rfl, rfl, rfl⟩ rfl rfl rfl rfl rfl (by kernel_rfl) Try.func7 (by kernel_rfl)
    (of_decide_eq_true (by kernel_rfl)) (by unfold Func.isWrapper; first | (rw [if_pos (by decide +kernel)]; kernel_rfl) | (rw [if_neg (by decide +kernel)]; exact ⟨rfl, rfl⟩))
    (fun os started H enc _ => lifted os started H enc)
theorem proved : Rows.FnExactBodyTextSaid := over
#print axioms proved
end Go.Proofs.Ytknalcnbkbkjdaa.fnExactBodyText
namespace Go.Proofs.Ytknalcnbkbkjdaa
/-- The row, under a short name, for the claim. -/
theorem fnExactBodyText_holds : Rows.FnExactBodyTextSaid := fnExactBodyText.proved
end Go.Proofs.Ytknalcnbkbkjdaa
