-- Written by a program of this session.
import Derived.Test.YtknalcnbkbkjdaaVGAFnExactBodyItem
import Derived.Laws.CopyOwn
namespace Go.Proofs.Ytknalcnbkbkjdaa.GAFnExactBodyItem
open Go.RowKit Go.Proofs.YtknalcnbkbkjdaaW.PrintWords Go.Proofs.YtknalcnbkbkjdaaW.PrintLast Go.Proofs.YtknalcnbkbkjdaaW.PrintMore Go.Proofs.Ytknalcnbkbkjdaa.GFnExactBodyItem
attribute [local go_sem] max2_int min2_int max_two min_two max_three min_three max_four min_four
set_option linter.unusedVariables false
set_option linter.unusedSimpArgs false
/-! ### A law's own steps: a struct of type 26 put into a variable of its own -/
section
variable {P : Program} {ops : Array Oper} {rest : List Oper} {o : Oper} {a : Act} {Q : Exit → Act → World → Prop}
theorem lk_store (w w' : World) (hgd : o.guard = none) (t : TypeId) (x y : Operand) (X Y : Value) (ho : o.op = .store t x y) (hd : o.dst = none)
    (hx : a.eval x = X) (hy : a.eval y = Y) (hrun : (Instr.storeAt t X Y).run P w = .ok () w') (hK : wpList P ops Q rest a w') : wpList P ops Q (o :: rest) a w := by
  refine wpList_plain hgd fun K hK' => ?_
  unfold Oper.wp
  simp [execOp, ho, hx, hy, hrun, Result.andThen]
  have e : a.put o.dst undef = a := by rw [hd]; rfl
  rw [Oper.upon_skip, e]
  exact hK' _ _ hK
theorem lk_alloc (w w' : World) (hgd : o.guard = none) (t : TypeId) (v : Value) (ho : o.op = .alloc t)
    (hrun : (Instr.alloc t true (.tuple #[])).run P w = .ok v w') (hK : wpList P ops Q rest (a.put o.dst v) w') : wpList P ops Q (o :: rest) a w := by
  refine wpList_plain hgd fun K hK' => ?_
  unfold Oper.wp
  simp [execOp, ho, hrun, Result.andThen]
  exact hK' _ _ hK
end
theorem lk_alloc_run (w : World) : (Instr.alloc 26 true (.tuple #[])).run Try.prog w = .ok (.pointer (some ⟨w.heap.size, 0, none⟩)) (w.alloc (.cells #[.int .i64 0, .string (⟨#[]⟩ : ByteArray), .slice none 0 0] 26)) := by kernel_rfl
theorem lk_one (t : Int) (x : ByteArray) (v : Value) (hv : v.oneCell' = true) : (#[Value.int .i64 t, .string x, v] : Array Value).all (·.oneCell') = true := by
  rw [Array.all_eq_true_iff_forall_mem]
  intro u hu
  simp only [List.mem_toArray, List.mem_cons, List.not_mem_nil, or_false] at hu
  rcases hu with rfl | rfl | rfl
  · rfl
  · rfl
  · exact hv
theorem lk_store_run (w : World) (b : Nat) (old : Array Value) (hb : w.heap[b]? = some (.cells old 26 (0, 0))) (ho : old.size = 3) (t : Int) (x : ByteArray) (v : Value) (hv : v.oneCell' = true) :
    (Instr.storeAt 26 (.pointer (some ⟨b, 0, none⟩)) (.agg #[.int .i64 t, .string x, v])).run Try.prog w = .ok () (w.setRow b #[.int .i64 t, .string x, v]) := by
  simp only [Instr.storeAt, Instr.sureAddr, Sem.run_bind, Sem.run_pure, Result.andThen]
  exact run_storeVar_row w b 26 26 old #[.int .i64 t, .string x, v] hb (by kernel_rfl) ho (lk_one t x v hv)
/-- The variable, made and set in one. -/
theorem lk_boxed (W : World) (cs : Array Value) (hsz : cs.size = 3) : ((W.alloc (.cells #[.int .i64 0, .string (⟨#[]⟩ : ByteArray), .slice none 0 0] 26)).setRow W.heap.size cs).heap[W.heap.size]? = some (.cells cs 26 (0, 0)) ∧ Below W.heap.size W ((W.alloc (.cells #[.int .i64 0, .string (⟨#[]⟩ : ByteArray), .slice none 0 0] 26)).setRow W.heap.size cs) :=
  ⟨setRow_heap _ _ _ _ 26 _ (heap_alloc_new W _), below_setRow (below_alloc (Below.refl _ _) _) (Nat.le_refl _) _⟩
end Go.Proofs.Ytknalcnbkbkjdaa.GAFnExactBodyItem
