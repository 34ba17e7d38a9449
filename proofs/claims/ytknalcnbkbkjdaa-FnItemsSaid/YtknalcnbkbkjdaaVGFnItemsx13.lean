-- Written by a program of this session (gp.py) over the kit's printer: no printed text.
import Derived.Test.YtknalcnbkbkjdaaVGFnItemsx0
import Derived.Test.YtknalcnbkbkjdaaVGFnItemsx1
import Derived.Test.YtknalcnbkbkjdaaVGFnItemsx2
import Derived.Test.YtknalcnbkbkjdaaVGFnItemsx3
import Derived.Test.YtknalcnbkbkjdaaVGFnItemsx4
import Derived.Test.YtknalcnbkbkjdaaVGFnItemsx6
import Derived.Test.YtknalcnbkbkjdaaVGFnItemsx7
import Derived.Test.YtknalcnbkbkjdaaVGFnItemsx9
import Derived.Test.YtknalcnbkbkjdaaVGFnItemsx11
import Derived.Test.YtknalcnbkbkjdaaVGFnItemsx12
import Derived.Laws.CopyOwn
namespace Go.Proofs.Ytknalcnbkbkjdaa.GFnItems
open Go.RowKit Go.Proofs.YtknalcnbkbkjdaaW.PrintWords Go.Proofs.YtknalcnbkbkjdaaW.PrintLast Go.Proofs.YtknalcnbkbkjdaaW.PrintMore
attribute [local go_sem] max2_int min2_int max_two min_two max_three min_three max_four min_four   -- for this text's walks alone
set_option linter.unusedVariables false
set_option linter.unusedSimpArgs false

/-! ### laws_FnItems: function 3 -/
/-! ### A law's own steps: a struct of type 26 put into a variable of its own -/
section
variable {P : Program} {ops : Array Oper} {rest : List Oper} {o : Oper} {a : Act} {Q : Exit → Act → World → Prop}
theorem lk_store (w w' : World) (hgd : o.guard = none) (t : TypeId) (x y : Operand) (X Y : Value) (ho : o.op = .store t x y) (hd : o.dst = none)
  (hx : a.eval x = X) (hy : a.eval y = Y) (hrun : (Instr.storeAt t X Y).run P w = .ok () w') (hK : wpList P ops Q rest a w') : wpList P ops Q (o :: rest) a w := by
 refine wpList_plain hgd fun K hK' => ?_
 unfold Oper.wp
 simp [execOp, ho, hx, hy, hrun, Result.andThen]
 have e : a.put o.dst undef = a := by rw [hd]; rfl
 rw [Oper.upon_skip, e]
 exact hK' _ _ hK
theorem lk_alloc (w w' : World) (hgd : o.guard = none) (t : TypeId) (v : Value) (ho : o.op = .alloc t)
  (hrun : (Instr.alloc t true (.tuple #[])).run P w = .ok v w') (hK : wpList P ops Q rest (a.put o.dst v) w') : wpList P ops Q (o :: rest) a w := by
 refine wpList_plain hgd fun K hK' => ?_
 unfold Oper.wp
 simp [execOp, ho, hrun, Result.andThen]
 exact hK' _ _ hK
end
theorem lk_alloc_run (w : World) : (Instr.alloc 26 true (.tuple #[])).run Try.prog w = .ok (.pointer (some ⟨w.heap.size, 0, none⟩)) (w.alloc (.cells #[.int .i64 0, .string (⟨#[]⟩ : ByteArray), .slice none 0 0] 26)) := by kernel_rfl
theorem lk_one (t : Int) (x : ByteArray) (v : Value) (hv : v.oneCell' = true) : (#[Value.int .i64 t, .string x, v] : Array Value).all (·.oneCell') = true := by
 rw [Array.all_eq_true_iff_forall_mem]
 intro u hu
 simp only [List.mem_toArray, List.mem_cons, List.not_mem_nil, or_false] at hu
 rcases hu with rfl | rfl | rfl
 ·rfl
 ·rfl
 ·exact hv
theorem lk_store_run (w : World) (b : Nat) (old : Array Value) (hb : w.heap[b]? = some (.cells old 26 (0, 0))) (ho : old.size = 3) (t : Int) (x : ByteArray) (v : Value) (hv : v.oneCell' = true) :
  (Instr.storeAt 26 (.pointer (some ⟨b, 0, none⟩)) (.agg #[.int .i64 t, .string x, v])).run Try.prog w = .ok () (w.setRow b #[.int .i64 t, .string x, v]) := by
 simp only [Instr.storeAt, Instr.sureAddr, Sem.run_bind, Sem.run_pure, Result.andThen]
 exact run_storeVar_row w b 26 26 old #[.int .i64 t, .string x, v] hb (by kernel_rfl) ho (lk_one t x v hv)
/-- The variable, made and set in one. -/
theorem lk_boxed (W : World) (cs : Array Value) (hsz : cs.size = 3) : ((W.alloc (.cells #[.int .i64 0, .string (⟨#[]⟩ : ByteArray), .slice none 0 0] 26)).setRow W.heap.size cs).heap[W.heap.size]? = some (.cells cs 26 (0, 0)) ∧ Below W.heap.size W ((W.alloc (.cells #[.int .i64 0, .string (⟨#[]⟩ : ByteArray), .slice none 0 0] 26)).setRow W.heap.size cs) :=
 ⟨setRow_heap _ _ _ _ 26 _ (heap_alloc_new W _), below_setRow (below_alloc (Below.refl _ _) _) (Nat.le_refl _) _⟩

/-- A variable with an item in it, and the row of its kids. -/
structure It (W : World) (g : Nat) (t : Int) (x : ByteArray) (A : Option Addr) (c : Nat) (L : List S26) : Prop where
 cell : W.heap[g]? = some (.cells #[.int .i64 t, .string x, .slice A L.length c] 26 (0, 0))
 row : Kd.C k26 W A L.length L
 len : L.length ≤ c
theorem It.below {W W' : World} {g : Nat} {t : Int} {x : ByteArray} {A : Option Addr} {c : Nat} {L : List S26} (h : It W g t x A c L) (hb : Below W.heap.size W W') : It W' g t x A c L := ⟨blk_below h.cell hb, Kd.C_below h.row hb, h.len⟩
theorem It.drew {W : World} {g : Nat} {t : Int} {x : ByteArray} {A : Option Addr} {c : Nat} {L : List S26} (h : It W g t x A c L) : It W.drew g t x A c L := ⟨blk_drew h.cell, Kd.C_drew h.row, h.len⟩
/-- Two variables, made and then set. -/
theorem lk_two (W : World) (b cs ds : Array Value) :
  ((((W.alloc (.cells b 26)).alloc (.cells b 26)).setRow W.heap.size cs).setRow (W.alloc (.cells b 26)).heap.size ds).heap[W.heap.size]? = some (.cells cs 26 (0, 0)) ∧ ((((W.alloc (.cells b 26)).alloc (.cells b 26)).setRow W.heap.size cs).setRow (W.alloc (.cells b 26)).heap.size ds).heap[(W.alloc (.cells b 26)).heap.size]? = some (.cells ds 26 (0, 0)) ∧ Below W.heap.size W ((((W.alloc (.cells b 26)).alloc (.cells b 26)).setRow W.heap.size cs).setRow (W.alloc (.cells b 26)).heap.size ds) := by
 have hlt : W.heap.size < (W.alloc (.cells b 26)).heap.size := blk_lt (heap_alloc_new W (.cells b 26))
 have h1 := setRow_heap _ W.heap.size b cs 26 _ (blk_alloc (heap_alloc_new W (.cells b 26)) (.cells b 26))
 refine ⟨(setRow_other _ _ _ _ (Nat.ne_of_lt hlt)).trans h1, setRow_heap _ _ b ds 26 _ ((setRow_other _ _ _ _ (Nat.ne_of_gt hlt)).trans (heap_alloc_new _ _)), ?_⟩
 exact below_setRow (below_setRow (below_alloc (below_alloc (Below.refl _ _) _) _) (Nat.le_refl _) _) (Nat.le_of_lt hlt) _
def laws_FnItems.f (k : Nat) (l0 : List Int) : Option (Bool) := (laws_big.f l0).bind fun big => if big = true then some true else
 ((spec_DrawItem.f k l0).bind fun x => (impl_ItemText.f k x.1 x.2.1 x.2.2).bind fun t => (impl_ReadItem.f k t.1).bind fun y => (spec_DrawReadItem.f k l0).bind fun u => (impl_ReadItem.f k u).bind fun z => (spec_ReadItem.f k u).bind fun s =>
 (impl_ItemText.f k z.1 z.2.1 z.2.2.1).bind fun g => (spec_DrawSameItem.f k l0).bind fun d => (spec_DrawItemOk.f k l0).bind fun c =>
 if t.2 = true then (if t.1.size + 1 ≤ 9223372036854775807 then ((impl_ReadItem.f k (t.1 ++ (⟨#[120]⟩ : ByteArray))).bind fun m => if 0 ≤ wrap64 ((t.1.size : Int) - 1) then (if wrap64 ((t.1.size : Int) - 1) ≤ (t.1.size : Int) then ((impl_ReadItem.f k (t.1.extract 0 ((wrap64 ((t.1.size : Int) - 1)) : Int).toNat)).bind fun l =>
  (impl_ItemOk.f k x.1 x.2.1 x.2.2).bind fun o => if o = true then ((impl_SameItem.f k x.1 x.2.1 x.2.2 y.1 y.2.1 y.2.2.1).bind fun q => if (y.2.2.2 = true ∧ q = true ∧ m.2.2.2 = false ∧ l.2.2.2 = false) ∧ z.2.2.2 = s.2.2.2 ∧ (z.2.2.2 = false ∨ g.1.toList = u.toList) then
   ((impl_SameItem.f k d.1 d.2.1 d.2.2.1 d.2.2.2.1 d.2.2.2.2.1 d.2.2.2.2.2).bind fun d1 => (spec_SameItem.f k d.1 d.2.1 d.2.2.1 d.2.2.2.1 d.2.2.2.2.1 d.2.2.2.2.2).bind fun d2 => if d1 = d2 then ((impl_ItemOk.f k c.1 c.2.1 c.2.2).bind fun c1 => (spec_ItemOk.f k c.1 c.2.1 c.2.2).bind fun c2 => if c1 = c2 then some true else none) else none) else none) else none) else none) else none) else none)
 else (if (t.1.size : Int) = 0 ∧ z.2.2.2 = s.2.2.2 then ((impl_ItemOk.f k c.1 c.2.1 c.2.2).bind fun c1 => (spec_ItemOk.f k c.1 c.2.1 c.2.2).bind fun c2 => if c1 = c2 then some true else none) else none))
theorem laws_FnItems.mono : ∀ a0 k, LeO (laws_FnItems.f k a0) (laws_FnItems.f (k + 1) a0) := by
 intro a0 k
 unfold laws_FnItems.f
 repeat' first
  | (with_reducible exact impl_ItemOk.mono _ _ _ _)
  | (with_reducible exact impl_ItemText.mono _ _ _ _)
  | (with_reducible exact impl_ReadItem.mono _ _)
  | (with_reducible exact impl_SameItem.mono _ _ _ _ _ _ _)
  | (with_reducible exact spec_DrawItem.mono _ _)
  | (with_reducible exact spec_DrawItemOk.mono _ _)
  | (with_reducible exact spec_DrawReadItem.mono _ _)
  | (with_reducible exact spec_DrawSameItem.mono _ _)
  | (with_reducible exact spec_ItemOk.mono _ _ _ _)
  | (with_reducible exact spec_ReadItem.mono _ _)
  | (with_reducible exact spec_SameItem.mono _ _ _ _ _ _ _)
  | (with_reducible exact LeO.refl _)
  | (with_reducible exact LeO.none _)
  | (with_reducible refine LeO.ite ?_ ?_)
  | (with_reducible refine LeO.bind ?_ (fun _ => ?_))
  | exact LeO.none _
  | refine LeO.ite ?_ ?_
  | refine LeO.bind ?_ (fun _ => ?_)
def laws_FnItems.T13 : Bool × List (List Nat × List Nat) := (true, [([], []), ([0], [0]), ([1], [1]), ([2], [2]), ([3], [3]), ([3], [3]), ([4, 5, 3], [3, 4, 5]), ([3, 6], [3, 6]), ([7, 3], [7]), ([8], [8]), ([9, 8, 8], [8, 9]), ([8], [8]), ([11, 10, 8], [8, 11]), ([10, 12, 8], [8, 10, 12]), ([8, 13], [8, 13]), ([14, 12, 0, 1, 2, 3, 4, 5, 6, 7, 8, 9, 10, 11, 12, 13, 14], [14])])
def laws_FnItems.B13 : List Nat := [0, 1, 3, 7, 15, 15, 63, 127, 255, 511, 1023, 511, 4095, 8191, 16383, 32767]
theorem laws_FnItems.tab13 : rtab .any (opsOf Try.f3 13) = laws_FnItems.T13 := by kernel_rfl
theorem laws_FnItems.bits13 : waitsOk laws_FnItems.T13.2 laws_FnItems.B13 = true := by kernel_rfl
def laws_FnItems.T16 : Bool × List (List Nat × List Nat) := (true, [([], []), ([0], [0]), ([1, 1], [1]), ([2], [2]), ([2, 3], [2, 3]), ([4, 2], [4]), ([5], [5]), ([5], [5]), ([6, 7, 5, 5], [5, 6, 7]), ([5, 8], [5, 8]), ([9, 8], [9]), ([10], [10]), ([11, 10], [10, 11]), ([10, 12], [10, 12]), ([13, 10], [13]), ([14], [14]), ([15, 14], [14, 15]), ([14, 16], [14, 16]), ([17, 14], [17]), ([18], [18]), ([18], [18]), ([19, 20, 18], [18, 19, 20]), ([18, 21], [18, 21]), ([22, 18], [22]), ([23], [23]), ([24, 23], [23, 24]), ([25, 23, 23], [23, 25]), ([26], [26]), ([26], [26]), ([27, 28, 26], [26, 27, 28]), ([26, 29, 23], [23, 26, 29]), ([23, 30], [23, 30]), ([31, 26], [31]), ([32], [32]), ([32], [32]), ([33, 34, 32, 32], [32, 33, 34]), ([32], [32]), ([32], [32]), ([36, 37, 35, 32], [32, 36, 37]), ([35, 38, 32], [32, 35, 38]), ([32, 39], [32, 39]), ([40, 38], [40]), ([41], [41]), ([42, 41, 41], [41, 42]), ([41], [41]), ([44, 43, 41], [41, 44]), ([43, 45, 41], [41, 43, 45]), ([41, 46], [41, 46]), ([47, 45, 0, 1, 2, 3, 4, 5, 6, 7, 8, 9, 10, 11, 12, 13, 14, 15, 16, 17, 18, 19, 20, 21, 22, 23, 24, 25, 26, 27, 28, 29, 30, 31, 32, 33, 34, 35, 36, 37, 38, 39, 40, 41, 42, 43, 44, 45, 46, 47], [47])])
def laws_FnItems.B16 : List Nat := [0, 1, 3, 7, 15, 31, 63, 63, 255, 511, 1023, 2047, 4095, 8191, 16383, 32767, 65535, 131071, 262143, 524287, 524287, 2097151, 4194303, 8388607, 16777215, 33554431, 67108863, 134217727, 134217727, 536870911, 1073741823, 2147483647, 4294967295, 8589934591, 8589934591, 34359738367, 8589934591, 8589934591, 274877906943, 549755813887, 1099511627775, 2199023255551, 4398046511103, 8796093022207, 4398046511103, 35184372088831, 70368744177663, 140737488355327, 281474976710655]
theorem laws_FnItems.tab16 : rtab .any (opsOf Try.f3 16) = laws_FnItems.T16 := by kernel_rfl
theorem laws_FnItems.bits16 : waitsOk laws_FnItems.T16.2 laws_FnItems.B16 = true := by kernel_rfl
set_option maxHeartbeats 8000000 in
set_option maxRecDepth 100000 in
theorem laws_FnItems.calls (k : Nat) (A0 : Option Addr) (c0 : Nat) (l0 : List Int) (r : Bool) (w : World) (hr0 : Kd.C (Kd.int .u8) w A0 l0.length l0) (hc0 : l0.length ≤ c0) (hrt : r = true) (h : laws_FnItems.f k l0 = some r) :
  Calls Try.prog 3 #[.slice A0 l0.length c0] w fun e w' => e = .returned (.bool r) ∧ Below w.heap.size w w' := by
 subst hrt
 have hu26 := Try.underlying26
 have HR0 := Aside0.mk hr0
 have HC0 := Aside0.mk hc0
 have HB := Aside0.mk (Below.refl w.heap.size w)
 clear hr0 hc0
 simp only [laws_FnItems.f] at h
 replace h := Option.bind_eq_some_iff.mp h; obtain ⟨big, A1, h⟩ := h
 have S1 := Aside0.mk A1
 clear A1
 by_cases hbig : big = true
 ·subst hbig
  clear h
  go_enter Try.func3, Try.ntmps3
  go_wp2_with (first | ((with_reducible refine gate_callee (f := 8) rfl ?_); refine goesL_ (some 23) rfl rfl Try.func8 (by kernel_rfl) rfl #[.slice A0 l0.length c0] rfl (by (try simp only [List.map_toArray, List.map_cons, List.map_nil]); first | done | rfl) ?_; (with_reducible refine (laws_big.calls _ _ l0 true _ HR0.out HC0.out S1.out).mono ?_); rintro e w' ⟨rfl, ⟨nd, rfl⟩⟩; refine ⟨_, rfl, ?_⟩))
  go_ret
  exact ⟨rfl, pw_below_drewN HB.out _⟩
 ·rw [if_neg hbig] at h
  replace hbig := Bool.eq_false_iff.mpr hbig
  subst hbig
  replace h := Option.bind_eq_some_iff.mp h; obtain ⟨⟨t1, x1, L1⟩, A2, h⟩ := h
  replace h := Option.bind_eq_some_iff.mp h; obtain ⟨⟨a4, ok⟩, A3, h⟩ := h
  replace h := Option.bind_eq_some_iff.mp h; obtain ⟨⟨t2, x2, L2, b2⟩, A4, h⟩ := h
  replace h := Option.bind_eq_some_iff.mp h; obtain ⟨a8, A5, h⟩ := h
  replace h := Option.bind_eq_some_iff.mp h; obtain ⟨⟨t3, x3, L3, b3⟩, A6, h⟩ := h
  replace h := Option.bind_eq_some_iff.mp h; obtain ⟨⟨t4, x4, L4, b4⟩, A7, h⟩ := h
  replace h := Option.bind_eq_some_iff.mp h; obtain ⟨⟨a13, b14⟩, A8, h⟩ := h
  replace h := Option.bind_eq_some_iff.mp h; obtain ⟨⟨t5, x5, L5, t6, x6, L6⟩, A9, h⟩ := h
  replace h := Option.bind_eq_some_iff.mp h; obtain ⟨⟨t7, x7, L7⟩, A10, h⟩ := h
  dsimp only at h
  have S2 := Aside0.mk A2
  have S3 := Aside0.mk A3
  have S4 := Aside0.mk A4
  have S5 := Aside0.mk A5
  have S6 := Aside0.mk A6
  have S7 := Aside0.mk A7
  have S8 := Aside0.mk A8
  have S9 := Aside0.mk A9
  have S10 := Aside0.mk A10
  clear A2 A3 A4 A5 A6 A7 A8 A9 A10
  have H := Aside0.mk h
  clear h
  go_enter Try.func3, Try.ntmps3
  go_upto_region 3 with (first | ((with_reducible refine gate_callee (f := 8) rfl ?_); refine goesL_ (some 23) rfl rfl Try.func8 (by kernel_rfl) rfl #[.slice A0 l0.length c0] rfl (by (try simp only [List.map_toArray, List.map_cons, List.map_nil]); first | done | rfl) ?_; (with_reducible refine (laws_big.calls _ _ l0 false _ HR0.out HC0.out S1.out).mono ?_); rintro e w' ⟨rfl, ⟨nd, rfl⟩⟩; refine ⟨_, rfl, ?_⟩; replace HB := Aside0.mk (pw_below_drewN HB.out nd)))
  go_upto_region 4 with (first | ((with_reducible refine gate_callee (f := 9) rfl ?_); refine goesL_ (some 25) rfl rfl Try.func9 (by kernel_rfl) rfl #[.slice A0 l0.length c0] rfl (by (try simp only [List.map_toArray, List.map_cons, List.map_nil]); first | done | rfl) ?_; (with_reducible refine (spec_DrawItem.calls k _ _ l0 t1 x1 L1 _ (Kd.C_below HR0.out HB.out) HC0.out S2.out).mono ?_); rintro e w1_ ⟨v, rfl, ho, hb⟩; refine ⟨_, rfl, ?_⟩; obtain ⟨Ax, cx, ex⟩ := Kd.R_slice ho; subst ex; have HKx := Aside0.mk (Kd.R_reads' ho).2.2; have HLx := Aside0.mk (Kd.R_reads' ho).2.1; clear ho; replace HB := Aside0.mk (below_step HB.out hb); clear hb) | (refine lk_alloc _ _ rfl 26 _ rfl (lk_alloc_run _) ?_) | (refine lk_store _ _ rfl 26 (.tmp 3) (.tmp 25) _ _ rfl rfl rfl rfl (lk_store_run _ _ _ (heap_alloc_new _ _) rfl _ _ _ rfl) ?_))
  (try simp only [Act.put, List.setIfInBounds_toArray, List.set_cons_zero, List.set_cons_succ])
  have hx_ := (lk_boxed w1_ #[.int .i64 t1, .string x1, .slice Ax L1.length cx] rfl).1
  have hb := (lk_boxed w1_ #[.int .i64 t1, .string x1, .slice Ax L1.length cx] rfl).2
  generalize (w1_.alloc (.cells #[.int .i64 0, .string (⟨#[]⟩ : ByteArray), .slice none 0 0] 26)).setRow w1_.heap.size #[.int .i64 t1, .string x1, .slice Ax L1.length cx] = w2_ at hx_ hb ⊢
  obtain ⟨gx, hgx⟩ : ∃ b, b = w1_.heap.size := ⟨_, rfl⟩
  rw [← hgx] at hx_ ⊢
  have Ix : Aside0 (It w2_ gx t1 x1 Ax cx L1) := ⟨⟨hx_, Kd.C_below HKx.out hb, HLx.out⟩⟩
  replace HB := Aside0.mk (below_step HB.out hb); clear hb
  clear hx_ hgx HKx HLx
  have hzx_0 : w2_.cell? ⟨gx, 0, none⟩ = some (.int .i64 t1) := (blk_cell Ix.out.cell 0).trans rfl
  have hzx_1 : w2_.cell? ⟨gx, 1, none⟩ = some (.string x1) := (blk_cell Ix.out.cell 1).trans rfl
  have hzx_2 : w2_.cell? ⟨gx, 2, none⟩ = some (.slice Ax L1.length cx) := (blk_cell Ix.out.cell 2).trans rfl
  go_upto_region 5 with (first | ((with_reducible refine gate_callee (f := 10) rfl ?_); refine goesL_ (some 28) rfl rfl Try.func10 (by kernel_rfl) rfl #[.agg #[.int .i64 t1, .string x1, .slice Ax L1.length cx]] rfl (by (try simp only [List.map_toArray, List.map_cons, List.map_nil]); first | done | rfl) ?_; (with_reducible refine (impl_ItemText.calls k t1 x1 _ _ L1 a4 ok _ Ix.out.row Ix.out.len S3.out).mono ?_); rintro e w3_ ⟨rfl, hb⟩; refine ⟨_, rfl, ?_⟩; replace HB := Aside0.mk (below_step HB.out hb); replace Ix := Aside0.mk (Ix.out.below hb); clear hb))
  clear hzx_0 hzx_1 hzx_2
  go_upto_region 6 with (first | ((with_reducible refine gate_callee (f := 11) rfl ?_); refine goesL_ (some 33) rfl rfl Try.func11 (by kernel_rfl) rfl #[.string a4] rfl (by (try simp only [List.map_toArray, List.map_cons, List.map_nil]); first | done | rfl) ?_; (with_reducible refine (impl_ReadItem.calls k a4 t2 x2 L2 b2 _ S4.out).mono ?_); rintro e w4_ ⟨v, rfl, ho, hb⟩; refine ⟨_, rfl, ?_⟩; obtain ⟨Ay, cy, ey⟩ := Kd.R_slice ho; subst ey; have HKy := Aside0.mk (Kd.R_reads' ho).2.2; have HLy := Aside0.mk (Kd.R_reads' ho).2.1; clear ho; replace HB := Aside0.mk (below_step HB.out hb); replace Ix := Aside0.mk (Ix.out.below hb); clear hb) | (refine lk_alloc _ _ rfl 26 _ rfl (lk_alloc_run _) ?_) | (refine lk_store _ _ rfl 26 (.tmp 6) (.tmp 34) _ _ rfl rfl rfl rfl (lk_store_run _ _ _ (heap_alloc_new _ _) rfl _ _ _ rfl) ?_))
  (try simp only [Act.put, List.setIfInBounds_toArray, List.set_cons_zero, List.set_cons_succ])
  have hx_ := (lk_boxed w4_ #[.int .i64 t2, .string x2, .slice Ay L2.length cy] rfl).1
  have hb := (lk_boxed w4_ #[.int .i64 t2, .string x2, .slice Ay L2.length cy] rfl).2
  generalize (w4_.alloc (.cells #[.int .i64 0, .string (⟨#[]⟩ : ByteArray), .slice none 0 0] 26)).setRow w4_.heap.size #[.int .i64 t2, .string x2, .slice Ay L2.length cy] = w5_ at hx_ hb ⊢
  obtain ⟨gy, hgy⟩ : ∃ b, b = w4_.heap.size := ⟨_, rfl⟩
  rw [← hgy] at hx_ ⊢
  have Iy : Aside0 (It w5_ gy t2 x2 Ay cy L2) := ⟨⟨hx_, Kd.C_below HKy.out hb, HLy.out⟩⟩
  replace HB := Aside0.mk (below_step HB.out hb); replace Ix := Aside0.mk (Ix.out.below hb); clear hb
  clear hx_ hgy HKy HLy
  go_upto_region 7 with (first | ((with_reducible refine gate_callee (f := 12) rfl ?_); refine goesL_ (some 37) rfl rfl Try.func12 (by kernel_rfl) rfl #[.slice A0 l0.length c0] rfl (by (try simp only [List.map_toArray, List.map_cons, List.map_nil]); first | done | rfl) ?_; (with_reducible refine (spec_DrawReadItem.calls k _ _ l0 a8 _ (Kd.C_below HR0.out HB.out) HC0.out S5.out).mono ?_); rintro e w6_ ⟨rfl, hb⟩; refine ⟨_, rfl, ?_⟩; replace HB := Aside0.mk (below_step HB.out hb); replace Ix := Aside0.mk (Ix.out.below hb); replace Iy := Aside0.mk (Iy.out.below hb); clear hb))
  go_upto_region 8 with (first | ((with_reducible refine gate_callee (f := 11) rfl ?_); refine goesL_ (some 40) rfl rfl Try.func11 (by kernel_rfl) rfl #[.string a8] rfl (by (try simp only [List.map_toArray, List.map_cons, List.map_nil]); first | done | rfl) ?_; (with_reducible refine (impl_ReadItem.calls k a8 t3 x3 L3 b3 _ S6.out).mono ?_); rintro e w7_ ⟨v, rfl, ho, hb⟩; refine ⟨_, rfl, ?_⟩; obtain ⟨Az, cz, ez⟩ := Kd.R_slice ho; subst ez; have HKz := Aside0.mk (Kd.R_reads' ho).2.2; have HLz := Aside0.mk (Kd.R_reads' ho).2.1; clear ho; replace HB := Aside0.mk (below_step HB.out hb); replace Ix := Aside0.mk (Ix.out.below hb); replace Iy := Aside0.mk (Iy.out.below hb); clear hb) | (refine lk_alloc _ _ rfl 26 _ rfl (lk_alloc_run _) ?_) | (refine lk_store _ _ rfl 26 (.tmp 9) (.tmp 41) _ _ rfl rfl rfl rfl (lk_store_run _ _ _ (heap_alloc_new _ _) rfl _ _ _ rfl) ?_))
  (try simp only [Act.put, List.setIfInBounds_toArray, List.set_cons_zero, List.set_cons_succ])
  have hx_ := (lk_boxed w7_ #[.int .i64 t3, .string x3, .slice Az L3.length cz] rfl).1
  have hb := (lk_boxed w7_ #[.int .i64 t3, .string x3, .slice Az L3.length cz] rfl).2
  generalize (w7_.alloc (.cells #[.int .i64 0, .string (⟨#[]⟩ : ByteArray), .slice none 0 0] 26)).setRow w7_.heap.size #[.int .i64 t3, .string x3, .slice Az L3.length cz] = w8_ at hx_ hb ⊢
  obtain ⟨gz, hgz⟩ : ∃ b, b = w7_.heap.size := ⟨_, rfl⟩
  rw [← hgz] at hx_ ⊢
  have Iz : Aside0 (It w8_ gz t3 x3 Az cz L3) := ⟨⟨hx_, Kd.C_below HKz.out hb, HLz.out⟩⟩
  replace HB := Aside0.mk (below_step HB.out hb); replace Ix := Aside0.mk (Ix.out.below hb); replace Iy := Aside0.mk (Iy.out.below hb); clear hb
  clear hx_ hgz HKz HLz
  go_upto_region 9 with (first | ((with_reducible refine gate_callee (f := 13) rfl ?_); refine goesL_ (some 45) rfl rfl Try.func13 (by kernel_rfl) rfl #[.string a8] rfl (by (try simp only [List.map_toArray, List.map_cons, List.map_nil]); first | done | rfl) ?_; (with_reducible refine (spec_ReadItem.calls k a8 t4 x4 L4 b4 _ S7.out).mono ?_); rintro e w9_ ⟨v, rfl, ho, hb⟩; refine ⟨_, rfl, ?_⟩; obtain ⟨As, cs, es⟩ := Kd.R_slice ho; subst es; have HKs := Aside0.mk (Kd.R_reads' ho).2.2; have HLs := Aside0.mk (Kd.R_reads' ho).2.1; clear ho; replace HB := Aside0.mk (below_step HB.out hb); replace Ix := Aside0.mk (Ix.out.below hb); replace Iy := Aside0.mk (Iy.out.below hb); replace Iz := Aside0.mk (Iz.out.below hb); clear hb) | (refine lk_alloc _ _ rfl 26 _ rfl (lk_alloc_run _) ?_) | (refine lk_store _ _ rfl 26 (.tmp 11) (.tmp 46) _ _ rfl rfl rfl rfl (lk_store_run _ _ _ (heap_alloc_new _ _) rfl _ _ _ rfl) ?_))
  (try simp only [Act.put, List.setIfInBounds_toArray, List.set_cons_zero, List.set_cons_succ])
  have hx_ := (lk_boxed w9_ #[.int .i64 t4, .string x4, .slice As L4.length cs] rfl).1
  have hb := (lk_boxed w9_ #[.int .i64 t4, .string x4, .slice As L4.length cs] rfl).2
  generalize (w9_.alloc (.cells #[.int .i64 0, .string (⟨#[]⟩ : ByteArray), .slice none 0 0] 26)).setRow w9_.heap.size #[.int .i64 t4, .string x4, .slice As L4.length cs] = w10_ at hx_ hb ⊢
  obtain ⟨gs, hgs⟩ : ∃ b, b = w9_.heap.size := ⟨_, rfl⟩
  rw [← hgs] at hx_ ⊢
  have Is : Aside0 (It w10_ gs t4 x4 As cs L4) := ⟨⟨hx_, Kd.C_below HKs.out hb, HLs.out⟩⟩
  replace HB := Aside0.mk (below_step HB.out hb); replace Ix := Aside0.mk (Ix.out.below hb); replace Iy := Aside0.mk (Iy.out.below hb); replace Iz := Aside0.mk (Iz.out.below hb); clear hb
  clear hx_ hgs HKs HLs
  clear Is
  have hzz_0 : w10_.cell? ⟨gz, 0, none⟩ = some (.int .i64 t3) := (blk_cell Iz.out.cell 0).trans rfl
  have hzz_1 : w10_.cell? ⟨gz, 1, none⟩ = some (.string x3) := (blk_cell Iz.out.cell 1).trans rfl
  have hzz_2 : w10_.cell? ⟨gz, 2, none⟩ = some (.slice Az L3.length cz) := (blk_cell Iz.out.cell 2).trans rfl
  go_upto_region 10 with (first | ((with_reducible refine gate_callee (f := 10) rfl ?_); refine goesL_ (some 50) rfl rfl Try.func10 (by kernel_rfl) rfl #[.agg #[.int .i64 t3, .string x3, .slice Az L3.length cz]] rfl (by (try simp only [List.map_toArray, List.map_cons, List.map_nil]); first | done | rfl) ?_; (with_reducible refine (impl_ItemText.calls k t3 x3 _ _ L3 a13 b14 _ Iz.out.row Iz.out.len S8.out).mono ?_); rintro e w11_ ⟨rfl, hb⟩; refine ⟨_, rfl, ?_⟩; replace HB := Aside0.mk (below_step HB.out hb); replace Ix := Aside0.mk (Ix.out.below hb); replace Iy := Aside0.mk (Iy.out.below hb); replace Iz := Aside0.mk (Iz.out.below hb); clear hb))
  clear hzz_0 hzz_1 hzz_2
  clear Iz
  go_upto_region 11 with (first | ((with_reducible refine gate_callee (f := 14) rfl ?_); refine goesL_ (some 55) rfl rfl Try.func14 (by kernel_rfl) rfl #[.slice A0 l0.length c0] rfl (by (try simp only [List.map_toArray, List.map_cons, List.map_nil]); first | done | rfl) ?_; (with_reducible refine (spec_DrawSameItem.calls k _ _ l0 t5 x5 L5 t6 x6 L6 _ (Kd.C_below HR0.out HB.out) HC0.out S9.out).mono ?_); rintro e w12_ ⟨vd, ve, rfl, ho, ho2, hb⟩; refine ⟨_, rfl, ?_⟩; obtain ⟨Ad, cd, ed⟩ := Kd.V_slice ho; subst ed; have HKd := Aside0.mk (Kd.V_reads' ho).2.2; have HLd := Aside0.mk (Kd.V_reads' ho).2.1; clear ho; obtain ⟨Ae, ce, ee⟩ := Kd.V_slice ho2; subst ee; have HKe := Aside0.mk (Kd.V_reads' ho2).2.2; have HLe := Aside0.mk (Kd.V_reads' ho2).2.1; clear ho2; replace HB := Aside0.mk (below_step HB.out hb); replace Ix := Aside0.mk (Ix.out.below hb); replace Iy := Aside0.mk (Iy.out.below hb); clear hb) | (refine lk_alloc _ _ rfl 26 _ rfl (lk_alloc_run _) ?_) | (refine lk_store _ _ rfl 26 (.tmp 15) (.tmp 56) _ _ rfl rfl rfl rfl (lk_store_run _ _ _ (blk_alloc (heap_alloc_new _ _) _) rfl _ _ _ rfl) ?_) | (refine lk_store _ _ rfl 26 (.tmp 16) (.tmp 57) _ _ rfl rfl rfl rfl (lk_store_run _ _ _ ((setRow_other _ _ _ _ (Nat.ne_of_gt (blk_lt (heap_alloc_new _ _)))).trans (heap_alloc_new _ _)) rfl _ _ _ rfl) ?_))
  (try simp only [Act.put, List.setIfInBounds_toArray, List.set_cons_zero, List.set_cons_succ])
  have hx_ := lk_two w12_ #[.int .i64 0, .string (⟨#[]⟩ : ByteArray), .slice none 0 0] #[.int .i64 t5, .string x5, .slice Ad L5.length cd] #[.int .i64 t6, .string x6, .slice Ae L6.length ce]
  generalize (((w12_.alloc (.cells #[.int .i64 0, .string (⟨#[]⟩ : ByteArray), .slice none 0 0] 26)).alloc (.cells #[.int .i64 0, .string (⟨#[]⟩ : ByteArray), .slice none 0 0] 26)).setRow w12_.heap.size #[.int .i64 t5, .string x5, .slice Ad L5.length cd]).setRow (w12_.alloc (.cells #[.int .i64 0, .string (⟨#[]⟩ : ByteArray), .slice none 0 0] 26)).heap.size #[.int .i64 t6, .string x6, .slice Ae L6.length ce] = w13_ at hx_ ⊢
  obtain ⟨gd, hgd⟩ : ∃ b, b = w12_.heap.size := ⟨_, rfl⟩
  obtain ⟨ge, hge⟩ : ∃ b, b = (w12_.alloc (.cells #[.int .i64 0, .string (⟨#[]⟩ : ByteArray), .slice none 0 0] 26)).heap.size := ⟨_, rfl⟩
  rw [← hge] at hx_ ⊢
  obtain ⟨hx1, hx2, hb⟩ := hx_
  rw [← hgd] at hx1 ⊢
  have Id : Aside0 (It w13_ gd t5 x5 Ad cd L5) := ⟨⟨hx1, Kd.C_below HKd.out hb, HLd.out⟩⟩
  have Ie : Aside0 (It w13_ ge t6 x6 Ae ce L6) := ⟨⟨hx2, Kd.C_below HKe.out hb, HLe.out⟩⟩
  replace HB := Aside0.mk (below_step HB.out hb); replace Ix := Aside0.mk (Ix.out.below hb); replace Iy := Aside0.mk (Iy.out.below hb); clear hb
  clear hx1 hx2 hgd hge HKd HKe HLd HLe
  go_upto_region 12 with (first | ((with_reducible refine gate_callee (f := 15) rfl ?_); refine goesL_ (some 59) rfl rfl Try.func15 (by kernel_rfl) rfl #[.slice A0 l0.length c0] rfl (by (try simp only [List.map_toArray, List.map_cons, List.map_nil]); first | done | rfl) ?_; (with_reducible refine (spec_DrawItemOk.calls k _ _ l0 t7 x7 L7 _ (Kd.C_below HR0.out HB.out) HC0.out S10.out).mono ?_); rintro e w14_ ⟨v, rfl, ho, hb⟩; refine ⟨_, rfl, ?_⟩; obtain ⟨Ac, cc, ec⟩ := Kd.R_slice ho; subst ec; have HKc := Aside0.mk (Kd.R_reads' ho).2.2; have HLc := Aside0.mk (Kd.R_reads' ho).2.1; clear ho; replace HB := Aside0.mk (below_step HB.out hb); replace Ix := Aside0.mk (Ix.out.below hb); replace Iy := Aside0.mk (Iy.out.below hb); replace Id := Aside0.mk (Id.out.below hb); replace Ie := Aside0.mk (Ie.out.below hb); clear hb) | (refine lk_alloc _ _ rfl 26 _ rfl (lk_alloc_run _) ?_) | (refine lk_store _ _ rfl 26 (.tmp 17) (.tmp 59) _ _ rfl rfl rfl rfl (lk_store_run _ _ _ (heap_alloc_new _ _) rfl _ _ _ rfl) ?_))
  (try simp only [Act.put, List.setIfInBounds_toArray, List.set_cons_zero, List.set_cons_succ])
  have hx_ := (lk_boxed w14_ #[.int .i64 t7, .string x7, .slice Ac L7.length cc] rfl).1
  have hb := (lk_boxed w14_ #[.int .i64 t7, .string x7, .slice Ac L7.length cc] rfl).2
  generalize (w14_.alloc (.cells #[.int .i64 0, .string (⟨#[]⟩ : ByteArray), .slice none 0 0] 26)).setRow w14_.heap.size #[.int .i64 t7, .string x7, .slice Ac L7.length cc] = w15_ at hx_ hb ⊢
  obtain ⟨gc, hgc⟩ : ∃ b, b = w14_.heap.size := ⟨_, rfl⟩
  rw [← hgc] at hx_ ⊢
  have Ic : Aside0 (It w15_ gc t7 x7 Ac cc L7) := ⟨⟨hx_, Kd.C_below HKc.out hb, HLc.out⟩⟩
  replace HB := Aside0.mk (below_step HB.out hb); replace Ix := Aside0.mk (Ix.out.below hb); replace Iy := Aside0.mk (Iy.out.below hb); replace Id := Aside0.mk (Id.out.below hb); replace Ie := Aside0.mk (Ie.out.below hb); clear hb
  clear hx_ hgc HKc HLc
  have h := H.out
  clear H
  cases ok
  ·by_cases e1 : (a4.size : Int) = 0 ∧ b3 = b4
   case neg => exact absurd h (by rw [if_neg (by simp : ¬ ((false : Bool) = true)), if_neg e1]; simp)
   rw [if_neg (by simp : ¬ ((false : Bool) = true)), if_pos e1] at h
   obtain ⟨e1, e2⟩ := e1
   subst e2
   replace h := Option.bind_eq_some_iff.mp h; obtain ⟨c1, A11, h⟩ := h
   replace h := Option.bind_eq_some_iff.mp h; obtain ⟨c2, A12, h⟩ := h
   by_cases e3 : c1 = c2
   case neg => exact absurd h (by rw [if_neg e3]; simp)
   subst e3
   have S11 := Aside0.mk A11
   have S12 := Aside0.mk A12
   clear A11 A12 h
   have e1b0 : ((a4.size : Int) == 0) = true := beq_iff_eq.mpr e1
   have e1b1 : ((a4.size : Int) != 0) = false := bne_eq_false_iff_eq.mpr e1
   have e2b0 : (b3 == b3) = true := by simp
   have e2b1 : decide (b3 = b3) = true := by simp
   have e3b0 : (c1 == c1) = true := by simp
   have e3b1 : decide (c1 = c1) = true := by simp
   clear e1
   clear Ix Iy Id Ie
   go_upto_region 13 with fail
   replace HB := Aside0.mk (below_drew1 HB.out)
   replace Ic := Aside0.mk Ic.out.drew
   refine start_ (n := 16) (S := fun w' => w'.heap[gc]? = some (.cells #[.int .i64 t7, .string x7, .slice Ac L7.length cc] 26 (0, 0))) (ds := []) #[false, false, false, false, false, false, false, false, false, false, false, false, false, false, false, false] (by kernel_rfl) rfl rfl Ic.out.cell (fun hHeld => ?_); refine with_tabW laws_FnItems.tab13 laws_FnItems.bits13 (fun HT_ HW_ => ?_)
   generalize w15_.drew = w16_ at HB Ic hHeld ⊢
   refine pure_ (i := 0) (N := some 62) (v := ?_) (a' := ?_) #[true, false, false, false, false, false, false, false, false, false, false, false, false, false, false, false] rfl rfl (any_of HT_.out (by kernel_rfl)) (fun _ _ _ h => h) (Or.inl ⟨by rfl, ?_⟩) ?_ ?_
   rotate_left
   ·intro w'
    go_simp
    with_reducible rfl
   rotate_left
   ·simp only [Act.put, List.setIfInBounds_toArray, List.set_cons_zero, List.set_cons_succ, i64_w, i32_w]
    rfl
   refine pure_ (i := 1) (N := some 63) (v := ?_) (a' := ?_) #[true, true, false, false, false, false, false, false, false, false, false, false, false, false, false, false] rfl rfl (any_of HT_.out (by kernel_rfl)) (fun _ _ _ h => h) (Or.inl ⟨by rfl, ?_⟩) ?_ ?_
   rotate_left
   ·intro w'
    go_simp
    with_reducible rfl
   rotate_left
   ·simp only [Act.put, List.setIfInBounds_toArray, List.set_cons_zero, List.set_cons_succ, i64_w, i32_w]
    rfl
   refine pure_ (i := 2) (N := some 64) (v := ?_) (a' := ?_) #[true, true, true, false, false, false, false, false, false, false, false, false, false, false, false, false] rfl rfl (any_of HT_.out (by kernel_rfl)) (fun _ _ _ h => h) (Or.inl ⟨by rfl, ?_⟩) ?_ ?_
   rotate_left
   ·intro w'
    go_simp
    with_reducible rfl
   rotate_left
   ·simp only [Act.put, List.setIfInBounds_toArray, List.set_cons_zero, List.set_cons_succ, i64_w, i32_w]
    rfl
   refine pure_ (i := 3) (N := some 65) (v := ?_) (a' := ?_) #[true, true, true, true, false, false, false, false, false, false, false, false, false, false, false, false] rfl rfl (any_of HT_.out (by kernel_rfl)) (fun _ _ _ h => h) (Or.inl ⟨by rfl, ?_⟩) ?_ ?_
   rotate_left
   ·intro w'
    go_simp
    with_reducible rfl
   rotate_left
   ·simp only [Act.put, List.setIfInBounds_toArray, List.set_cons_zero, List.set_cons_succ, i64_w, i32_w]
    rfl
   refine pure_ (i := 4) (N := some 66) (v := ?_) (a' := ?_) #[true, true, true, true, true, false, false, false, false, false, false, false, false, false, false, false] rfl rfl (any_of HT_.out (by kernel_rfl)) (fun _ _ _ h => h) (Or.inl ⟨by rfl, ?_⟩) ?_ ?_
   rotate_left
   ·intro w'
    go_simp
    with_reducible rfl
   rotate_left
   ·simp only [Act.put, List.setIfInBounds_toArray, List.set_cons_zero, List.set_cons_succ, i64_w, i32_w]
    rfl
   refine pure_ (i := 5) (N := some 67) (v := ?_) (a' := ?_) #[true, true, true, true, true, true, false, false, false, false, false, false, false, false, false, false] rfl rfl (any_of HT_.out (by kernel_rfl)) (fun _ _ _ h => h) (Or.inl ⟨by rfl, ?_⟩) ?_ ?_
   rotate_left
   ·intro w'
    go_simp
    with_reducible rfl
   rotate_left
   ·simp only [Act.put, List.setIfInBounds_toArray, List.set_cons_zero, List.set_cons_succ, i64_w, i32_w]
    rfl
   refine pure_ (i := 6) (N := some 68) (v := ?_) (a' := ?_) #[true, true, true, true, true, true, true, false, false, false, false, false, false, false, false, false] rfl rfl (any_of HT_.out (by kernel_rfl)) (fun _ _ _ h => h) (Or.inl ⟨by rfl, ?_⟩) ?_ ?_
   rotate_left
   ·intro w'
    go_simp
    with_reducible rfl
   rotate_left
   ·simp only [Act.put, List.setIfInBounds_toArray, List.set_cons_zero, List.set_cons_succ, i64_w, i32_w]
    rfl
   refine pure_ (i := 7) (N := some 69) (v := ?_) (a' := ?_) #[true, true, true, true, true, true, true, true, false, false, false, false, false, false, false, false] rfl rfl (any_of HT_.out (by kernel_rfl)) (fun _ _ _ h => h) (Or.inl ⟨by rfl, ?_⟩) ?_ ?_
   rotate_left
   ·intro w'
    go_simp
    with_reducible rfl
   rotate_left
   ·simp only [Act.put, List.setIfInBounds_toArray, List.set_cons_zero, List.set_cons_succ, i64_w, i32_w]
    rfl
   refine pure_ (i := 8) (N := some 70) (v := ?_) (a' := ?_) #[true, true, true, true, true, true, true, true, true, false, false, false, false, false, false, false] rfl rfl (any_of HT_.out (by kernel_rfl)) (fun _ _ _ h => h) (Or.inl ⟨by rfl, ?_⟩) ?_ ?_
   rotate_left
   ·intro w'
    go_simp
    with_reducible rfl
   rotate_left
   ·simp only [Act.put, List.setIfInBounds_toArray, List.set_cons_zero, List.set_cons_succ, i64_w, i32_w]
    rfl
   refine take_ (i := 9) (N := some 71) (v := ?_) (a' := ?_) #[true, true, true, true, true, true, true, true, true, true, false, false, false, false, false, false] rfl rfl (take_ofW HT_.out HW_.out (by kernel_rfl)) (fun _ _ _ h => h) (Or.inl ⟨by rfl, ?_⟩) hHeld ?_ ?_
   rotate_left
   ·intro w' hc_
    have s0_ : w'.cell? ⟨gc, 0, none⟩ = some (.int .i64 t7) := (blk_cell hc_ 0).trans rfl
    have s1_ : w'.cell? ⟨gc, 1, none⟩ = some (.string x7) := (blk_cell hc_ 1).trans rfl
    have s2_ : w'.cell? ⟨gc, 2, none⟩ = some (.slice Ac L7.length cc) := (blk_cell hc_ 2).trans rfl
    clear hc_
    go_simp
    with_reducible rfl
   rotate_left
   ·simp only [Act.put, List.setIfInBounds_toArray, List.set_cons_zero, List.set_cons_succ, i64_w, i32_w]
    rfl
   refine take_ (i := 11) (N := some 73) (v := ?_) (a' := ?_) #[true, true, true, true, true, true, true, true, true, true, false, true, false, false, false, false] rfl rfl (take_ofW HT_.out HW_.out (by kernel_rfl)) (fun _ _ _ h => h) (Or.inl ⟨by rfl, ?_⟩) hHeld ?_ ?_
   rotate_left
   ·intro w' hc_
    have s0_ : w'.cell? ⟨gc, 0, none⟩ = some (.int .i64 t7) := (blk_cell hc_ 0).trans rfl
    have s1_ : w'.cell? ⟨gc, 1, none⟩ = some (.string x7) := (blk_cell hc_ 1).trans rfl
    have s2_ : w'.cell? ⟨gc, 2, none⟩ = some (.slice Ac L7.length cc) := (blk_cell hc_ 2).trans rfl
    clear hc_
    go_simp
    with_reducible rfl
   rotate_left
   ·simp only [Act.put, List.setIfInBounds_toArray, List.set_cons_zero, List.set_cons_succ, i64_w, i32_w]
    rfl
   refine one_ (i := 10) (N := some 72) #[true, true, true, true, true, true, true, true, true, true, true, true, false, false, false, false] rfl rfl (one_of HT_.out (by kernel_rfl)) (by decide) (fun K hK => ?_)
   refine goes_ Try.func16 (by kernel_rfl) rfl #[.agg #[.int .i64 t7, .string x7, .slice Ac L7.length cc]] (by rfl) rfl rfl (by (try simp only [List.map_toArray, List.map_cons, List.map_nil]); first | done | rfl) ?_
   with_reducible refine (impl_ItemOk.calls k t7 x7 _ _ L7 c1 _ Ic.out.row Ic.out.len S11.out).mono ?_
   rintro e w17_ ⟨rfl, hb⟩
   refine ⟨_, rfl, ?_⟩
   replace HB := Aside0.mk (below_step HB.out hb)
   replace Ic := Aside0.mk (Ic.out.below hb)
   clear hb
   refine hK.out _ _ Ic.out.cell (fun hHeld => ?_)
   clear hK K
   refine norm_ (a' := ?_) ?_ ?_
   rotate_left
   ·show Act.put _ (some 72) _ = _
    simp only [Act.put, List.setIfInBounds_toArray, List.set_cons_zero, List.set_cons_succ, i64_w, i32_w]
    rfl
   refine one_ (i := 12) (N := some 74) #[true, true, true, true, true, true, true, true, true, true, true, true, true, false, false, false] rfl rfl (one_of HT_.out (by kernel_rfl)) (by decide) (fun K hK => ?_)
   refine goes_ Try.func17 (by kernel_rfl) rfl #[.agg #[.int .i64 t7, .string x7, .slice Ac L7.length cc]] (by rfl) rfl rfl (by (try simp only [List.map_toArray, List.map_cons, List.map_nil]); first | done | rfl) ?_
   with_reducible refine (spec_ItemOk.calls k t7 x7 _ _ L7 c1 _ Ic.out.row Ic.out.len S12.out).mono ?_
   rintro e w18_ ⟨rfl, hb⟩
   refine ⟨_, rfl, ?_⟩
   replace HB := Aside0.mk (below_step HB.out hb)
   replace Ic := Aside0.mk (Ic.out.below hb)
   clear hb
   refine hK.out _ _ Ic.out.cell (fun hHeld => ?_)
   clear hK K
   refine norm_ (a' := ?_) ?_ ?_
   rotate_left
   ·show Act.put _ (some 74) _ = _
    simp only [Act.put, List.setIfInBounds_toArray, List.set_cons_zero, List.set_cons_succ, i64_w, i32_w]
    rfl
   refine pure_ (i := 13) (N := some 75) (v := ?_) (a' := ?_) #[true, true, true, true, true, true, true, true, true, true, true, true, true, true, false, false] rfl rfl (any_of HT_.out (by kernel_rfl)) (fun _ _ _ h => h) (Or.inl ⟨by rfl, ?_⟩) ?_ ?_
   rotate_left
   ·intro w'
    go_simp
    with_reducible rfl
   rotate_left
   ·simp only [Act.put, List.setIfInBounds_toArray, List.set_cons_zero, List.set_cons_succ, i64_w, i32_w]
    rfl
   refine pure_ (i := 14) (N := some 76) (v := ?_) (a' := ?_) #[true, true, true, true, true, true, true, true, true, true, true, true, true, true, true, false] rfl rfl (any_of HT_.out (by kernel_rfl)) (fun _ _ _ h => h) (Or.inl ⟨by rfl, ?_⟩) ?_ ?_
   rotate_left
   ·intro w'
    go_simp
    with_reducible rfl
   rotate_left
   ·simp only [Act.put, List.setIfInBounds_toArray, List.set_cons_zero, List.set_cons_succ, i64_w, i32_w]
    rfl
   refine pure_ (i := 15) (N := some 2) (v := ?_) (a' := ?_) #[true, true, true, true, true, true, true, true, true, true, true, true, true, true, true, true] rfl rfl (any_of HT_.out (by kernel_rfl)) (fun _ _ _ h => h) (Or.inl ⟨by rfl, ?_⟩) ?_ ?_
   rotate_left
   ·intro w'
    go_simp
    with_reducible rfl
   rotate_left
   ·simp only [Act.put, List.setIfInBounds_toArray, List.set_cons_zero, List.set_cons_succ, i64_w, i32_w]
    rfl
   refine done_ (done_of HT_.out (by kernel_rfl)) ?_
   try go_wp2
   go_ret
   exact ⟨rfl, HB.out⟩
  ·rw [if_pos rfl] at h
   by_cases c14 : a4.size + 1 ≤ 9223372036854775807
   case neg => exact absurd h (by rw [if_neg c14]; simp)
   rw [if_pos c14] at h
   replace h := Option.bind_eq_some_iff.mp h; obtain ⟨⟨t8, x8, L8, b8⟩, A11, h⟩ := h
   obtain ⟨ji16, hji16⟩ : ∃ j_ : Int, (wrap64 ((a4.size : Int) - 1)) = j_ := ⟨_, rfl⟩
   rw [hji16] at h
   by_cases c17 : 0 ≤ ji16
   case neg => exact absurd h (by rw [if_neg c17]; simp)
   rw [if_pos c17] at h
   by_cases c18 : ji16 ≤ (a4.size : Int)
   case neg => exact absurd h (by rw [if_neg c18]; simp)
   rw [if_pos c18] at h
   replace h := Option.bind_eq_some_iff.mp h; obtain ⟨⟨t9, x9, L9, b9⟩, A12, h⟩ := h
   dsimp only at h
   replace h := Option.bind_eq_some_iff.mp h; obtain ⟨o1, A13, h⟩ := h
   by_cases e1 : o1 = true
   case neg => exact absurd h (by rw [if_neg e1]; simp)
   rw [if_pos e1] at h
   subst e1
   replace h := Option.bind_eq_some_iff.mp h; obtain ⟨q1, A14, h⟩ := h
   by_cases e2 : (b2 = true ∧ q1 = true ∧ b8 = false ∧ b9 = false) ∧ b3 = b4 ∧ (b3 = false ∨ a13.toList = a8.toList)
   case neg => exact absurd h (by rw [if_neg e2]; simp)
   rw [if_pos e2] at h
   obtain ⟨⟨e3, e4, e5, e6⟩, e7, e8⟩ := e2
   subst e3 e4 e5 e6 e7
   replace h := Option.bind_eq_some_iff.mp h; obtain ⟨d1, A15, h⟩ := h
   replace h := Option.bind_eq_some_iff.mp h; obtain ⟨d2, A16, h⟩ := h
   by_cases e9 : d1 = d2
   case neg => exact absurd h (by rw [if_neg e9]; simp)
   rw [if_pos e9] at h
   subst e9
   replace h := Option.bind_eq_some_iff.mp h; obtain ⟨c1, A17, h⟩ := h
   replace h := Option.bind_eq_some_iff.mp h; obtain ⟨c2, A18, h⟩ := h
   by_cases e10 : c1 = c2
   case neg => exact absurd h (by rw [if_neg e10]; simp)
   subst e10
   have S11 := Aside0.mk A11
   have S12 := Aside0.mk A12
   have S13 := Aside0.mk A13
   have S14 := Aside0.mk A14
   have S15 := Aside0.mk A15
   have S16 := Aside0.mk A16
   have S17 := Aside0.mk A17
   have S18 := Aside0.mk A18
   clear h A11 A12 A13 A14 A15 A16 A17 A18
   have c14b0 := eq_true c14
   have c14b1 : decide (a4.size + 1 ≤ 9223372036854775807) = true := decide_eq_true c14
   have c14b2 : (9223372036854775807 < a4.size + 1) = False := eq_false (Nat.not_lt.2 c14)
   have hji16w : (IntKind.i64.wrap ((a4.size : Int) - 1)) = ji16 := (i64_w _).trans hji16
   have c17b0 := eq_true c17
   have c17b1 : decide (0 ≤ ji16) = true := decide_eq_true c17
   have c18b0 := eq_true c18
   have c18b1 : decide (ji16 ≤ (a4.size : Int)) = true := decide_eq_true c18
   have e9b0 : (d1 == d1) = true := by simp
   have e9b1 : decide (d1 = d1) = true := by simp
   have e10b0 : (c1 == c1) = true := by simp
   have e10b1 : decide (c1 = c1) = true := by simp
   clear c14 c17 c18
   go_upto_region 15 with (first | ((with_reducible refine gate_callee (f := 11) rfl ?_); refine goesL_ (some 80) rfl rfl Try.func11 (by kernel_rfl) rfl #[.string (a4 ++ (⟨#[120]⟩ : ByteArray))] rfl (by (try simp only [List.map_toArray, List.map_cons, List.map_nil]); first | done | rfl) ?_; (with_reducible refine (impl_ReadItem.calls k (a4 ++ (⟨#[120]⟩ : ByteArray)) t8 x8 L8 false _ S11.out).mono ?_); rintro e w19_ ⟨v, rfl, ho, hb⟩; refine ⟨_, rfl, ?_⟩; obtain ⟨Am, cm, em⟩ := Kd.R_slice ho; subst em; have HKm := Aside0.mk (Kd.R_reads' ho).2.2; have HLm := Aside0.mk (Kd.R_reads' ho).2.1; clear ho; replace HB := Aside0.mk (below_step HB.out hb); replace Ix := Aside0.mk (Ix.out.below hb); replace Iy := Aside0.mk (Iy.out.below hb); replace Id := Aside0.mk (Id.out.below hb); replace Ie := Aside0.mk (Ie.out.below hb); replace Ic := Aside0.mk (Ic.out.below hb); clear hb) | (refine lk_alloc _ _ rfl 26 _ rfl (lk_alloc_run _) ?_) | (refine lk_store _ _ rfl 26 (.tmp 18) (.tmp 81) _ _ rfl rfl rfl rfl (lk_store_run _ _ _ (heap_alloc_new _ _) rfl _ _ _ rfl) ?_))
   (try simp only [Act.put, List.setIfInBounds_toArray, List.set_cons_zero, List.set_cons_succ])
   have hx_ := (lk_boxed w19_ #[.int .i64 t8, .string x8, .slice Am L8.length cm] rfl).1
   have hb := (lk_boxed w19_ #[.int .i64 t8, .string x8, .slice Am L8.length cm] rfl).2
   generalize (w19_.alloc (.cells #[.int .i64 0, .string (⟨#[]⟩ : ByteArray), .slice none 0 0] 26)).setRow w19_.heap.size #[.int .i64 t8, .string x8, .slice Am L8.length cm] = w20_ at hx_ hb ⊢
   obtain ⟨gm, hgm⟩ : ∃ b, b = w19_.heap.size := ⟨_, rfl⟩
   rw [← hgm] at hx_ ⊢
   have Im : Aside0 (It w20_ gm t8 x8 Am cm L8) := ⟨⟨hx_, Kd.C_below HKm.out hb, HLm.out⟩⟩
   replace HB := Aside0.mk (below_step HB.out hb); replace Ix := Aside0.mk (Ix.out.below hb); replace Iy := Aside0.mk (Iy.out.below hb); replace Id := Aside0.mk (Id.out.below hb); replace Ie := Aside0.mk (Ie.out.below hb); replace Ic := Aside0.mk (Ic.out.below hb); clear hb
   clear hx_ hgm HKm HLm
   clear Im
   go_upto_region 16 with (first | ((with_reducible refine gate_callee (f := 11) rfl ?_); refine goesL_ (some 89) rfl rfl Try.func11 (by kernel_rfl) rfl #[.string (a4.extract 0 ((ji16) : Int).toNat)] rfl (by (try simp only [List.map_toArray, List.map_cons, List.map_nil]); first | done | rfl) ?_; (with_reducible refine (impl_ReadItem.calls k (a4.extract 0 ((ji16) : Int).toNat) t9 x9 L9 false _ S12.out).mono ?_); rintro e w21_ ⟨v, rfl, ho, hb⟩; refine ⟨_, rfl, ?_⟩; obtain ⟨Al, cl, el⟩ := Kd.R_slice ho; subst el; have HKl := Aside0.mk (Kd.R_reads' ho).2.2; have HLl := Aside0.mk (Kd.R_reads' ho).2.1; clear ho; replace HB := Aside0.mk (below_step HB.out hb); replace Ix := Aside0.mk (Ix.out.below hb); replace Iy := Aside0.mk (Iy.out.below hb); replace Id := Aside0.mk (Id.out.below hb); replace Ie := Aside0.mk (Ie.out.below hb); replace Ic := Aside0.mk (Ic.out.below hb); clear hb) | (refine lk_alloc _ _ rfl 26 _ rfl (lk_alloc_run _) ?_) | (refine lk_store _ _ rfl 26 (.tmp 20) (.tmp 90) _ _ rfl rfl rfl rfl (lk_store_run _ _ _ (heap_alloc_new _ _) rfl _ _ _ rfl) ?_))
   (try simp only [Act.put, List.setIfInBounds_toArray, List.set_cons_zero, List.set_cons_succ])
   have hx_ := (lk_boxed w21_ #[.int .i64 t9, .string x9, .slice Al L9.length cl] rfl).1
   have hb := (lk_boxed w21_ #[.int .i64 t9, .string x9, .slice Al L9.length cl] rfl).2
   generalize (w21_.alloc (.cells #[.int .i64 0, .string (⟨#[]⟩ : ByteArray), .slice none 0 0] 26)).setRow w21_.heap.size #[.int .i64 t9, .string x9, .slice Al L9.length cl] = w22_ at hx_ hb ⊢
   obtain ⟨gl, hgl⟩ : ∃ b, b = w21_.heap.size := ⟨_, rfl⟩
   rw [← hgl] at hx_ ⊢
   have Il : Aside0 (It w22_ gl t9 x9 Al cl L9) := ⟨⟨hx_, Kd.C_below HKl.out hb, HLl.out⟩⟩
   replace HB := Aside0.mk (below_step HB.out hb); replace Ix := Aside0.mk (Ix.out.below hb); replace Iy := Aside0.mk (Iy.out.below hb); replace Id := Aside0.mk (Id.out.below hb); replace Ie := Aside0.mk (Ie.out.below hb); replace Ic := Aside0.mk (Ic.out.below hb); clear hb
   clear hx_ hgl HKl HLl
   clear Il
   clear c14b0 c14b1 c14b2 c17b0 c17b1 c18b0 c18b1 hji16w hji16
   have e7b0 : (b3 == b3) = true := by simp
   have e7b1 : decide (b3 = b3) = true := by simp
   try go_upto_region 16 with fail
   replace HB := Aside0.mk (below_drew1 HB.out)
   replace Ix := Aside0.mk Ix.out.drew
   replace Iy := Aside0.mk Iy.out.drew
   replace Id := Aside0.mk Id.out.drew
   replace Ie := Aside0.mk Ie.out.drew
   replace Ic := Aside0.mk Ic.out.drew
   refine start_ (n := 49) (S := fun w' => w'.heap[gx]? = some (.cells #[.int .i64 t1, .string x1, .slice Ax L1.length cx] 26 (0, 0)) ∧ w'.heap[gy]? = some (.cells #[.int .i64 t2, .string x2, .slice Ay L2.length cy] 26 (0, 0)) ∧ w'.heap[gd]? = some (.cells #[.int .i64 t5, .string x5, .slice Ad L5.length cd] 26 (0, 0)) ∧ w'.heap[ge]? = some (.cells #[.int .i64 t6, .string x6, .slice Ae L6.length ce] 26 (0, 0)) ∧ w'.heap[gc]? = some (.cells #[.int .i64 t7, .string x7, .slice Ac L7.length cc] 26 (0, 0))) (ds := []) #[false, false, false, false, false, false, false, false, false, false, false, false, false, false, false, false, false, false, false, false, false, false, false, false, false, false, false, false, false, false, false, false, false, false, false, false, false, false, false, false, false, false, false, false, false, false, false, false, false] (by kernel_rfl) rfl rfl ⟨Ix.out.cell, Iy.out.cell, Id.out.cell, Ie.out.cell, Ic.out.cell⟩ (fun hHeld => ?_); refine with_tabW laws_FnItems.tab16 laws_FnItems.bits16 (fun HT_ HW_ => ?_)
   generalize w22_.drew = w23_ at HB Ix Iy Id Ie Ic hHeld ⊢
   refine take_ (i := 0) (N := some 92) (v := ?_) (a' := ?_) #[true, false, false, false, false, false, false, false, false, false, false, false, false, false, false, false, false, false, false, false, false, false, false, false, false, false, false, false, false, false, false, false, false, false, false, false, false, false, false, false, false, false, false, false, false, false, false, false, false] rfl rfl (take_ofW HT_.out HW_.out (by kernel_rfl)) (fun _ _ _ h => h) (Or.inl ⟨by rfl, ?_⟩) hHeld ?_ ?_
   rotate_left
   ·rintro w' ⟨hx_, hy_, hd_, he_, hc_⟩
    have s0_ : w'.cell? ⟨gx, 0, none⟩ = some (.int .i64 t1) := (blk_cell hx_ 0).trans rfl
    have s1_ : w'.cell? ⟨gx, 1, none⟩ = some (.string x1) := (blk_cell hx_ 1).trans rfl
    have s2_ : w'.cell? ⟨gx, 2, none⟩ = some (.slice Ax L1.length cx) := (blk_cell hx_ 2).trans rfl
    clear hx_ hy_ hd_ he_ hc_
    go_simp
    with_reducible rfl
   rotate_left
   ·simp only [Act.put, List.setIfInBounds_toArray, List.set_cons_zero, List.set_cons_succ, i64_w, i32_w]
    rfl
   refine one_ (i := 1) (N := some 93) #[true, true, false, false, false, false, false, false, false, false, false, false, false, false, false, false, false, false, false, false, false, false, false, false, false, false, false, false, false, false, false, false, false, false, false, false, false, false, false, false, false, false, false, false, false, false, false, false, false] rfl rfl (one_of HT_.out (by kernel_rfl)) (by decide) (fun K hK => ?_)
   refine goes_ Try.func16 (by kernel_rfl) rfl #[.agg #[.int .i64 t1, .string x1, .slice Ax L1.length cx]] (by rfl) rfl rfl (by (try simp only [List.map_toArray, List.map_cons, List.map_nil]); first | done | rfl) ?_
   with_reducible refine (impl_ItemOk.calls k t1 x1 _ _ L1 true _ Ix.out.row Ix.out.len S13.out).mono ?_
   rintro e w24_ ⟨rfl, hb⟩
   refine ⟨_, rfl, ?_⟩
   replace HB := Aside0.mk (below_step HB.out hb)
   replace Ix := Aside0.mk (Ix.out.below hb)
   replace Iy := Aside0.mk (Iy.out.below hb)
   replace Id := Aside0.mk (Id.out.below hb)
   replace Ie := Aside0.mk (Ie.out.below hb)
   replace Ic := Aside0.mk (Ic.out.below hb)
   clear hb
   refine hK.out _ _ ⟨Ix.out.cell, Iy.out.cell, Id.out.cell, Ie.out.cell, Ic.out.cell⟩ (fun hHeld => ?_)
   clear hK K
   refine norm_ (a' := ?_) ?_ ?_
   rotate_left
   ·show Act.put _ (some 93) _ = _
    simp only [Act.put, List.setIfInBounds_toArray, List.set_cons_zero, List.set_cons_succ, i64_w, i32_w]
    rfl
   refine pure_ (i := 2) (N := some 94) (v := ?_) (a' := ?_) #[true, true, true, false, false, false, false, false, false, false, false, false, false, false, false, false, false, false, false, false, false, false, false, false, false, false, false, false, false, false, false, false, false, false, false, false, false, false, false, false, false, false, false, false, false, false, false, false, false] rfl rfl (any_of HT_.out (by kernel_rfl)) (fun _ _ _ h => h) (Or.inl ⟨by rfl, ?_⟩) ?_ ?_
   rotate_left
   ·intro w'
    go_simp
    with_reducible rfl
   rotate_left
   ·simp only [Act.put, List.setIfInBounds_toArray, List.set_cons_zero, List.set_cons_succ, i64_w, i32_w]
    rfl
   refine pure_ (i := 3) (N := some 95) (v := ?_) (a' := ?_) #[true, true, true, true, false, false, false, false, false, false, false, false, false, false, false, false, false, false, false, false, false, false, false, false, false, false, false, false, false, false, false, false, false, false, false, false, false, false, false, false, false, false, false, false, false, false, false, false, false] rfl rfl (any_of HT_.out (by kernel_rfl)) (fun _ _ _ h => h) (Or.inl ⟨by rfl, ?_⟩) ?_ ?_
   rotate_left
   ·intro w'
    go_simp
    with_reducible rfl
   rotate_left
   ·simp only [Act.put, List.setIfInBounds_toArray, List.set_cons_zero, List.set_cons_succ, i64_w, i32_w]
    rfl
   refine pure_ (i := 4) (N := some 96) (v := ?_) (a' := ?_) #[true, true, true, true, true, false, false, false, false, false, false, false, false, false, false, false, false, false, false, false, false, false, false, false, false, false, false, false, false, false, false, false, false, false, false, false, false, false, false, false, false, false, false, false, false, false, false, false, false] rfl rfl (any_of HT_.out (by kernel_rfl)) (fun _ _ _ h => h) (Or.inl ⟨by rfl, ?_⟩) ?_ ?_
   rotate_left
   ·intro w'
    go_simp
    with_reducible rfl
   rotate_left
   ·simp only [Act.put, List.setIfInBounds_toArray, List.set_cons_zero, List.set_cons_succ, i64_w, i32_w]
    rfl
   refine pure_ (i := 5) (N := some 97) (v := ?_) (a' := ?_) #[true, true, true, true, true, true, false, false, false, false, false, false, false, false, false, false, false, false, false, false, false, false, false, false, false, false, false, false, false, false, false, false, false, false, false, false, false, false, false, false, false, false, false, false, false, false, false, false, false] rfl rfl (any_of HT_.out (by kernel_rfl)) (fun _ _ _ h => h) (Or.inl ⟨by rfl, ?_⟩) ?_ ?_
   rotate_left
   ·intro w'
    go_simp
    with_reducible rfl
   rotate_left
   ·simp only [Act.put, List.setIfInBounds_toArray, List.set_cons_zero, List.set_cons_succ, i64_w, i32_w]
    rfl
   refine take_ (i := 6) (N := some 98) (v := ?_) (a' := ?_) #[true, true, true, true, true, true, true, false, false, false, false, false, false, false, false, false, false, false, false, false, false, false, false, false, false, false, false, false, false, false, false, false, false, false, false, false, false, false, false, false, false, false, false, false, false, false, false, false, false] rfl rfl (take_ofW HT_.out HW_.out (by kernel_rfl)) (fun _ _ _ h => h) (Or.inl ⟨by rfl, ?_⟩) hHeld ?_ ?_
   rotate_left
   ·rintro w' ⟨hx_, hy_, hd_, he_, hc_⟩
    have s0_ : w'.cell? ⟨gx, 0, none⟩ = some (.int .i64 t1) := (blk_cell hx_ 0).trans rfl
    have s1_ : w'.cell? ⟨gx, 1, none⟩ = some (.string x1) := (blk_cell hx_ 1).trans rfl
    have s2_ : w'.cell? ⟨gx, 2, none⟩ = some (.slice Ax L1.length cx) := (blk_cell hx_ 2).trans rfl
    clear hx_ hy_ hd_ he_ hc_
    go_simp
    with_reducible rfl
   rotate_left
   ·simp only [Act.put, List.setIfInBounds_toArray, List.set_cons_zero, List.set_cons_succ, i64_w, i32_w]
    rfl
   refine take_ (i := 7) (N := some 99) (v := ?_) (a' := ?_) #[true, true, true, true, true, true, true, true, false, false, false, false, false, false, false, false, false, false, false, false, false, false, false, false, false, false, false, false, false, false, false, false, false, false, false, false, false, false, false, false, false, false, false, false, false, false, false, false, false] rfl rfl (take_ofW HT_.out HW_.out (by kernel_rfl)) (fun _ _ _ h => h) (Or.inl ⟨by rfl, ?_⟩) hHeld ?_ ?_
   rotate_left
   ·rintro w' ⟨hx_, hy_, hd_, he_, hc_⟩
    have s0_ : w'.cell? ⟨gy, 0, none⟩ = some (.int .i64 t2) := (blk_cell hy_ 0).trans rfl
    have s1_ : w'.cell? ⟨gy, 1, none⟩ = some (.string x2) := (blk_cell hy_ 1).trans rfl
    have s2_ : w'.cell? ⟨gy, 2, none⟩ = some (.slice Ay L2.length cy) := (blk_cell hy_ 2).trans rfl
    clear hx_ hy_ hd_ he_ hc_
    go_simp
    with_reducible rfl
   rotate_left
   ·simp only [Act.put, List.setIfInBounds_toArray, List.set_cons_zero, List.set_cons_succ, i64_w, i32_w]
    rfl
   refine one_ (i := 8) (N := some 100) #[true, true, true, true, true, true, true, true, true, false, false, false, false, false, false, false, false, false, false, false, false, false, false, false, false, false, false, false, false, false, false, false, false, false, false, false, false, false, false, false, false, false, false, false, false, false, false, false, false] rfl rfl (one_of HT_.out (by kernel_rfl)) (by decide) (fun K hK => ?_)
   refine goes_ Try.func18 (by kernel_rfl) rfl #[.agg #[.int .i64 t1, .string x1, .slice Ax L1.length cx], .agg #[.int .i64 t2, .string x2, .slice Ay L2.length cy]] (by rfl) rfl rfl (by (try simp only [List.map_toArray, List.map_cons, List.map_nil]); first | done | rfl) ?_
   with_reducible refine (impl_SameItem.calls k t1 x1 _ _ L1 t2 x2 _ _ L2 true _ Ix.out.row Ix.out.len Iy.out.row Iy.out.len S14.out).mono ?_
   rintro e w25_ ⟨rfl, hb⟩
   refine ⟨_, rfl, ?_⟩
   replace HB := Aside0.mk (below_step HB.out hb)
   replace Ix := Aside0.mk (Ix.out.below hb)
   replace Iy := Aside0.mk (Iy.out.below hb)
   replace Id := Aside0.mk (Id.out.below hb)
   replace Ie := Aside0.mk (Ie.out.below hb)
   replace Ic := Aside0.mk (Ic.out.below hb)
   clear hb
   refine hK.out _ _ ⟨Ix.out.cell, Iy.out.cell, Id.out.cell, Ie.out.cell, Ic.out.cell⟩ (fun hHeld => ?_)
   clear hK K
   refine norm_ (a' := ?_) ?_ ?_
   rotate_left
   ·show Act.put _ (some 100) _ = _
    simp only [Act.put, List.setIfInBounds_toArray, List.set_cons_zero, List.set_cons_succ, i64_w, i32_w]
    rfl
   refine pure_ (i := 9) (N := some 101) (v := ?_) (a' := ?_) #[true, true, true, true, true, true, true, true, true, true, false, false, false, false, false, false, false, false, false, false, false, false, false, false, false, false, false, false, false, false, false, false, false, false, false, false, false, false, false, false, false, false, false, false, false, false, false, false, false] rfl rfl (any_of HT_.out (by kernel_rfl)) (fun _ _ _ h => h) (Or.inl ⟨by rfl, ?_⟩) ?_ ?_
   rotate_left
   ·intro w'
    go_simp
    with_reducible rfl
   rotate_left
   ·simp only [Act.put, List.setIfInBounds_toArray, List.set_cons_zero, List.set_cons_succ, i64_w, i32_w]
    rfl
   refine pure_ (i := 10) (N := some 102) (v := ?_) (a' := ?_) #[true, true, true, true, true, true, true, true, true, true, true, false, false, false, false, false, false, false, false, false, false, false, false, false, false, false, false, false, false, false, false, false, false, false, false, false, false, false, false, false, false, false, false, false, false, false, false, false, false] rfl rfl (any_of HT_.out (by kernel_rfl)) (fun _ _ _ h => h) (Or.inl ⟨by rfl, ?_⟩) ?_ ?_
   rotate_left
   ·intro w'
    go_simp
    with_reducible rfl
   rotate_left
   ·simp only [Act.put, List.setIfInBounds_toArray, List.set_cons_zero, List.set_cons_succ, i64_w, i32_w]
    rfl
   refine pure_ (i := 11) (N := some 103) (v := ?_) (a' := ?_) #[true, true, true, true, true, true, true, true, true, true, true, true, false, false, false, false, false, false, false, false, false, false, false, false, false, false, false, false, false, false, false, false, false, false, false, false, false, false, false, false, false, false, false, false, false, false, false, false, false] rfl rfl (any_of HT_.out (by kernel_rfl)) (fun _ _ _ h => h) (Or.inl ⟨by rfl, ?_⟩) ?_ ?_
   rotate_left
   ·intro w'
    go_simp
    with_reducible rfl
   rotate_left
   ·simp only [Act.put, List.setIfInBounds_toArray, List.set_cons_zero, List.set_cons_succ, i64_w, i32_w]
    rfl
   refine pure_ (i := 12) (N := some 104) (v := ?_) (a' := ?_) #[true, true, true, true, true, true, true, true, true, true, true, true, true, false, false, false, false, false, false, false, false, false, false, false, false, false, false, false, false, false, false, false, false, false, false, false, false, false, false, false, false, false, false, false, false, false, false, false, false] rfl rfl (any_of HT_.out (by kernel_rfl)) (fun _ _ _ h => h) (Or.inl ⟨by rfl, ?_⟩) ?_ ?_
   rotate_left
   ·intro w'
    go_simp
    with_reducible rfl
   rotate_left
   ·simp only [Act.put, List.setIfInBounds_toArray, List.set_cons_zero, List.set_cons_succ, i64_w, i32_w]
    rfl
   refine pure_ (i := 13) (N := some 105) (v := ?_) (a' := ?_) #[true, true, true, true, true, true, true, true, true, true, true, true, true, true, false, false, false, false, false, false, false, false, false, false, false, false, false, false, false, false, false, false, false, false, false, false, false, false, false, false, false, false, false, false, false, false, false, false, false] rfl rfl (any_of HT_.out (by kernel_rfl)) (fun _ _ _ h => h) (Or.inl ⟨by rfl, ?_⟩) ?_ ?_
   rotate_left
   ·intro w'
    go_simp
    with_reducible rfl
   rotate_left
   ·simp only [Act.put, List.setIfInBounds_toArray, List.set_cons_zero, List.set_cons_succ, i64_w, i32_w]
    rfl
   refine pure_ (i := 14) (N := some 106) (v := ?_) (a' := ?_) #[true, true, true, true, true, true, true, true, true, true, true, true, true, true, true, false, false, false, false, false, false, false, false, false, false, false, false, false, false, false, false, false, false, false, false, false, false, false, false, false, false, false, false, false, false, false, false, false, false] rfl rfl (any_of HT_.out (by kernel_rfl)) (fun _ _ _ h => h) (Or.inl ⟨by rfl, ?_⟩) ?_ ?_
   rotate_left
   ·intro w'
    go_simp
    with_reducible rfl
   rotate_left
   ·simp only [Act.put, List.setIfInBounds_toArray, List.set_cons_zero, List.set_cons_succ, i64_w, i32_w]
    rfl
   refine pure_ (i := 15) (N := some 107) (v := ?_) (a' := ?_) #[true, true, true, true, true, true, true, true, true, true, true, true, true, true, true, true, false, false, false, false, false, false, false, false, false, false, false, false, false, false, false, false, false, false, false, false, false, false, false, false, false, false, false, false, false, false, false, false, false] rfl rfl (any_of HT_.out (by kernel_rfl)) (fun _ _ _ h => h) (Or.inl ⟨by rfl, ?_⟩) ?_ ?_
   rotate_left
   ·intro w'
    go_simp
    with_reducible rfl
   rotate_left
   ·simp only [Act.put, List.setIfInBounds_toArray, List.set_cons_zero, List.set_cons_succ, i64_w, i32_w]
    rfl
   refine pure_ (i := 16) (N := some 108) (v := ?_) (a' := ?_) #[true, true, true, true, true, true, true, true, true, true, true, true, true, true, true, true, true, false, false, false, false, false, false, false, false, false, false, false, false, false, false, false, false, false, false, false, false, false, false, false, false, false, false, false, false, false, false, false, false] rfl rfl (any_of HT_.out (by kernel_rfl)) (fun _ _ _ h => h) (Or.inl ⟨by rfl, ?_⟩) ?_ ?_
   rotate_left
   ·intro w'
    go_simp
    with_reducible rfl
   rotate_left
   ·simp only [Act.put, List.setIfInBounds_toArray, List.set_cons_zero, List.set_cons_succ, i64_w, i32_w]
    rfl
   refine pure_ (i := 17) (N := some 109) (v := ?_) (a' := ?_) #[true, true, true, true, true, true, true, true, true, true, true, true, true, true, true, true, true, true, false, false, false, false, false, false, false, false, false, false, false, false, false, false, false, false, false, false, false, false, false, false, false, false, false, false, false, false, false, false, false] rfl rfl (any_of HT_.out (by kernel_rfl)) (fun _ _ _ h => h) (Or.inl ⟨by rfl, ?_⟩) ?_ ?_
   rotate_left
   ·intro w'
    go_simp
    with_reducible rfl
   rotate_left
   ·simp only [Act.put, List.setIfInBounds_toArray, List.set_cons_zero, List.set_cons_succ, i64_w, i32_w]
    rfl
   refine pure_ (i := 18) (N := some 110) (v := ?_) (a' := ?_) #[true, true, true, true, true, true, true, true, true, true, true, true, true, true, true, true, true, true, true, false, false, false, false, false, false, false, false, false, false, false, false, false, false, false, false, false, false, false, false, false, false, false, false, false, false, false, false, false, false] rfl rfl (any_of HT_.out (by kernel_rfl)) (fun _ _ _ h => h) (Or.inl ⟨by rfl, ?_⟩) ?_ ?_
   rotate_left
   ·intro w'
    go_simp
    with_reducible rfl
   rotate_left
   ·simp only [Act.put, List.setIfInBounds_toArray, List.set_cons_zero, List.set_cons_succ, i64_w, i32_w]
    rfl
   refine pure_ (i := 19) (N := some 111) (v := ?_) (a' := ?_) #[true, true, true, true, true, true, true, true, true, true, true, true, true, true, true, true, true, true, true, true, false, false, false, false, false, false, false, false, false, false, false, false, false, false, false, false, false, false, false, false, false, false, false, false, false, false, false, false, false] rfl rfl (any_of HT_.out (by kernel_rfl)) (fun _ _ _ h => h) (Or.inl ⟨by rfl, ?_⟩) ?_ ?_
   rotate_left
   ·intro w'
    go_simp
    with_reducible rfl
   rotate_left
   ·simp only [Act.put, List.setIfInBounds_toArray, List.set_cons_zero, List.set_cons_succ, i64_w, i32_w]
    rfl
   refine pure_ (i := 20) (N := some 112) (v := ?_) (a' := ?_) #[true, true, true, true, true, true, true, true, true, true, true, true, true, true, true, true, true, true, true, true, true, false, false, false, false, false, false, false, false, false, false, false, false, false, false, false, false, false, false, false, false, false, false, false, false, false, false, false, false] rfl rfl (any_of HT_.out (by kernel_rfl)) (fun _ _ _ h => h) (Or.inl ⟨by rfl, ?_⟩) ?_ ?_
   rotate_left
   ·intro w'
    go_simp
    with_reducible rfl
   rotate_left
   ·simp only [Act.put, List.setIfInBounds_toArray, List.set_cons_zero, List.set_cons_succ, i64_w, i32_w]
    rfl
   refine pure_ (i := 21) (N := some 113) (v := ?_) (a' := ?_) #[true, true, true, true, true, true, true, true, true, true, true, true, true, true, true, true, true, true, true, true, true, true, false, false, false, false, false, false, false, false, false, false, false, false, false, false, false, false, false, false, false, false, false, false, false, false, false, false, false] rfl rfl (any_of HT_.out (by kernel_rfl)) (fun _ _ _ h => h) (Or.inl ⟨by rfl, ?_⟩) ?_ ?_
   rotate_left
   ·intro w'
    go_simp
    with_reducible rfl
   rotate_left
   ·simp only [Act.put, List.setIfInBounds_toArray, List.set_cons_zero, List.set_cons_succ, i64_w, i32_w]
    rfl
   refine pure_ (i := 22) (N := some 114) (v := ?_) (a' := ?_) #[true, true, true, true, true, true, true, true, true, true, true, true, true, true, true, true, true, true, true, true, true, true, true, false, false, false, false, false, false, false, false, false, false, false, false, false, false, false, false, false, false, false, false, false, false, false, false, false, false] rfl rfl (any_of HT_.out (by kernel_rfl)) (fun _ _ _ h => h) (Or.inl ⟨by rfl, ?_⟩) ?_ ?_
   rotate_left
   ·intro w'
    go_simp
    with_reducible rfl
   rotate_left
   ·simp only [Act.put, List.setIfInBounds_toArray, List.set_cons_zero, List.set_cons_succ, i64_w, i32_w]
    rfl
   refine pure_ (i := 23) (N := some 115) (v := ?_) (a' := ?_) #[true, true, true, true, true, true, true, true, true, true, true, true, true, true, true, true, true, true, true, true, true, true, true, true, false, false, false, false, false, false, false, false, false, false, false, false, false, false, false, false, false, false, false, false, false, false, false, false, false] rfl rfl (any_of HT_.out (by kernel_rfl)) (fun _ _ _ h => h) (Or.inl ⟨by rfl, ?_⟩) ?_ ?_
   rotate_left
   ·intro w'
    go_simp
    with_reducible rfl
   rotate_left
   ·simp only [Act.put, List.setIfInBounds_toArray, List.set_cons_zero, List.set_cons_succ, i64_w, i32_w]
    rfl
   clear e7b0 e7b1
   cases b3
   ·clear e8
    refine pure_ (i := 24) (N := some 116) (v := ?_) (a' := ?_) #[true, true, true, true, true, true, true, true, true, true, true, true, true, true, true, true, true, true, true, true, true, true, true, true, true, false, false, false, false, false, false, false, false, false, false, false, false, false, false, false, false, false, false, false, false, false, false, false, false] rfl rfl (any_of HT_.out (by kernel_rfl)) (fun _ _ _ h => h) (Or.inl ⟨by rfl, ?_⟩) ?_ ?_
    rotate_left
    ·intro w'
     go_simp
     with_reducible rfl
    rotate_left
    ·simp only [Act.put, List.setIfInBounds_toArray, List.set_cons_zero, List.set_cons_succ, i64_w, i32_w]
     rfl
    refine pure_ (i := 25) (N := some 117) (v := ?_) (a' := ?_) #[true, true, true, true, true, true, true, true, true, true, true, true, true, true, true, true, true, true, true, true, true, true, true, true, true, true, false, false, false, false, false, false, false, false, false, false, false, false, false, false, false, false, false, false, false, false, false, false, false] rfl rfl (any_of HT_.out (by kernel_rfl)) (fun _ _ _ h => h) (Or.inl ⟨by rfl, ?_⟩) ?_ ?_
    rotate_left
    ·intro w'
     go_simp
     with_reducible rfl
    rotate_left
    ·simp only [Act.put, List.setIfInBounds_toArray, List.set_cons_zero, List.set_cons_succ, i64_w, i32_w]
     rfl
    refine pure_ (i := 26) (N := some 118) (v := ?_) (a' := ?_) #[true, true, true, true, true, true, true, true, true, true, true, true, true, true, true, true, true, true, true, true, true, true, true, true, true, true, true, false, false, false, false, false, false, false, false, false, false, false, false, false, false, false, false, false, false, false, false, false, false] rfl rfl (any_of HT_.out (by kernel_rfl)) (fun _ _ _ h => h) (Or.inl ⟨by rfl, ?_⟩) ?_ ?_
    rotate_left
    ·intro w'
     go_simp
     with_reducible rfl
    rotate_left
    ·simp only [Act.put, List.setIfInBounds_toArray, List.set_cons_zero, List.set_cons_succ, i64_w, i32_w]
     rfl
    refine pure_ (i := 27) (N := some 119) (v := undef) (a' := ?_) #[true, true, true, true, true, true, true, true, true, true, true, true, true, true, true, true, true, true, true, true, true, true, true, true, true, true, true, true, false, false, false, false, false, false, false, false, false, false, false, false, false, false, false, false, false, false, false, false, false] rfl rfl (any_of HT_.out (by kernel_rfl)) (fun _ _ _ h => h) (Or.inr ⟨by rfl, rfl⟩) ?_ ?_
    rotate_left
    ·simp only [Act.put, List.setIfInBounds_toArray, List.set_cons_zero, List.set_cons_succ, i64_w, i32_w]
     rfl
    refine pure_ (i := 28) (N := some 120) (v := undef) (a' := ?_) #[true, true, true, true, true, true, true, true, true, true, true, true, true, true, true, true, true, true, true, true, true, true, true, true, true, true, true, true, true, false, false, false, false, false, false, false, false, false, false, false, false, false, false, false, false, false, false, false, false] rfl rfl (any_of HT_.out (by kernel_rfl)) (fun _ _ _ h => h) (Or.inr ⟨by rfl, rfl⟩) ?_ ?_
    rotate_left
    ·simp only [Act.put, List.setIfInBounds_toArray, List.set_cons_zero, List.set_cons_succ, i64_w, i32_w]
     rfl
    refine pure_ (i := 29) (N := some 121) (v := undef) (a' := ?_) #[true, true, true, true, true, true, true, true, true, true, true, true, true, true, true, true, true, true, true, true, true, true, true, true, true, true, true, true, true, true, false, false, false, false, false, false, false, false, false, false, false, false, false, false, false, false, false, false, false] rfl rfl (any_of HT_.out (by kernel_rfl)) (fun _ _ _ h => h) (Or.inr ⟨by rfl, rfl⟩) ?_ ?_
    rotate_left
    ·simp only [Act.put, List.setIfInBounds_toArray, List.set_cons_zero, List.set_cons_succ, i64_w, i32_w]
     rfl
    refine pure_ (i := 30) (N := some 122) (v := ?_) (a' := ?_) #[true, true, true, true, true, true, true, true, true, true, true, true, true, true, true, true, true, true, true, true, true, true, true, true, true, true, true, true, true, true, true, false, false, false, false, false, false, false, false, false, false, false, false, false, false, false, false, false, false] rfl rfl (any_of HT_.out (by kernel_rfl)) (fun _ _ _ h => h) (Or.inl ⟨by rfl, ?_⟩) ?_ ?_
    rotate_left
    ·intro w'
     go_simp
     with_reducible rfl
    rotate_left
    ·simp only [Act.put, List.setIfInBounds_toArray, List.set_cons_zero, List.set_cons_succ, i64_w, i32_w]
     rfl
    refine pure_ (i := 31) (N := some 123) (v := ?_) (a' := ?_) #[true, true, true, true, true, true, true, true, true, true, true, true, true, true, true, true, true, true, true, true, true, true, true, true, true, true, true, true, true, true, true, true, false, false, false, false, false, false, false, false, false, false, false, false, false, false, false, false, false] rfl rfl (any_of HT_.out (by kernel_rfl)) (fun _ _ _ h => h) (Or.inl ⟨by rfl, ?_⟩) ?_ ?_
    rotate_left
    ·intro w'
     go_simp
     with_reducible rfl
    rotate_left
    ·simp only [Act.put, List.setIfInBounds_toArray, List.set_cons_zero, List.set_cons_succ, i64_w, i32_w]
     rfl
    refine pure_ (i := 32) (N := some 124) (v := ?_) (a' := ?_) #[true, true, true, true, true, true, true, true, true, true, true, true, true, true, true, true, true, true, true, true, true, true, true, true, true, true, true, true, true, true, true, true, true, false, false, false, false, false, false, false, false, false, false, false, false, false, false, false, false] rfl rfl (any_of HT_.out (by kernel_rfl)) (fun _ _ _ h => h) (Or.inl ⟨by rfl, ?_⟩) ?_ ?_
    rotate_left
    ·intro w'
     go_simp
     with_reducible rfl
    rotate_left
    ·simp only [Act.put, List.setIfInBounds_toArray, List.set_cons_zero, List.set_cons_succ, i64_w, i32_w]
     rfl
    refine take_ (i := 33) (N := some 125) (v := ?_) (a' := ?_) #[true, true, true, true, true, true, true, true, true, true, true, true, true, true, true, true, true, true, true, true, true, true, true, true, true, true, true, true, true, true, true, true, true, true, false, false, false, false, false, false, false, false, false, false, false, false, false, false, false] rfl rfl (take_ofW HT_.out HW_.out (by kernel_rfl)) (fun _ _ _ h => h) (Or.inl ⟨by rfl, ?_⟩) hHeld ?_ ?_
    rotate_left
    ·rintro w' ⟨hx_, hy_, hd_, he_, hc_⟩
     have s0_ : w'.cell? ⟨gd, 0, none⟩ = some (.int .i64 t5) := (blk_cell hd_ 0).trans rfl
     have s1_ : w'.cell? ⟨gd, 1, none⟩ = some (.string x5) := (blk_cell hd_ 1).trans rfl
     have s2_ : w'.cell? ⟨gd, 2, none⟩ = some (.slice Ad L5.length cd) := (blk_cell hd_ 2).trans rfl
     clear hx_ hy_ hd_ he_ hc_
     go_simp
     with_reducible rfl
    rotate_left
    ·simp only [Act.put, List.setIfInBounds_toArray, List.set_cons_zero, List.set_cons_succ, i64_w, i32_w]
     rfl
    refine take_ (i := 34) (N := some 126) (v := ?_) (a' := ?_) #[true, true, true, true, true, true, true, true, true, true, true, true, true, true, true, true, true, true, true, true, true, true, true, true, true, true, true, true, true, true, true, true, true, true, true, false, false, false, false, false, false, false, false, false, false, false, false, false, false] rfl rfl (take_ofW HT_.out HW_.out (by kernel_rfl)) (fun _ _ _ h => h) (Or.inl ⟨by rfl, ?_⟩) hHeld ?_ ?_
    rotate_left
    ·rintro w' ⟨hx_, hy_, hd_, he_, hc_⟩
     have s0_ : w'.cell? ⟨ge, 0, none⟩ = some (.int .i64 t6) := (blk_cell he_ 0).trans rfl
     have s1_ : w'.cell? ⟨ge, 1, none⟩ = some (.string x6) := (blk_cell he_ 1).trans rfl
     have s2_ : w'.cell? ⟨ge, 2, none⟩ = some (.slice Ae L6.length ce) := (blk_cell he_ 2).trans rfl
     clear hx_ hy_ hd_ he_ hc_
     go_simp
     with_reducible rfl
    rotate_left
    ·simp only [Act.put, List.setIfInBounds_toArray, List.set_cons_zero, List.set_cons_succ, i64_w, i32_w]
     rfl
    refine take_ (i := 36) (N := some 128) (v := ?_) (a' := ?_) #[true, true, true, true, true, true, true, true, true, true, true, true, true, true, true, true, true, true, true, true, true, true, true, true, true, true, true, true, true, true, true, true, true, true, true, false, true, false, false, false, false, false, false, false, false, false, false, false, false] rfl rfl (take_ofW HT_.out HW_.out (by kernel_rfl)) (fun _ _ _ h => h) (Or.inl ⟨by rfl, ?_⟩) hHeld ?_ ?_
    rotate_left
    ·rintro w' ⟨hx_, hy_, hd_, he_, hc_⟩
     have s0_ : w'.cell? ⟨gd, 0, none⟩ = some (.int .i64 t5) := (blk_cell hd_ 0).trans rfl
     have s1_ : w'.cell? ⟨gd, 1, none⟩ = some (.string x5) := (blk_cell hd_ 1).trans rfl
     have s2_ : w'.cell? ⟨gd, 2, none⟩ = some (.slice Ad L5.length cd) := (blk_cell hd_ 2).trans rfl
     clear hx_ hy_ hd_ he_ hc_
     go_simp
     with_reducible rfl
    rotate_left
    ·simp only [Act.put, List.setIfInBounds_toArray, List.set_cons_zero, List.set_cons_succ, i64_w, i32_w]
     rfl
    refine take_ (i := 37) (N := some 129) (v := ?_) (a' := ?_) #[true, true, true, true, true, true, true, true, true, true, true, true, true, true, true, true, true, true, true, true, true, true, true, true, true, true, true, true, true, true, true, true, true, true, true, false, true, true, false, false, false, false, false, false, false, false, false, false, false] rfl rfl (take_ofW HT_.out HW_.out (by kernel_rfl)) (fun _ _ _ h => h) (Or.inl ⟨by rfl, ?_⟩) hHeld ?_ ?_
    rotate_left
    ·rintro w' ⟨hx_, hy_, hd_, he_, hc_⟩
     have s0_ : w'.cell? ⟨ge, 0, none⟩ = some (.int .i64 t6) := (blk_cell he_ 0).trans rfl
     have s1_ : w'.cell? ⟨ge, 1, none⟩ = some (.string x6) := (blk_cell he_ 1).trans rfl
     have s2_ : w'.cell? ⟨ge, 2, none⟩ = some (.slice Ae L6.length ce) := (blk_cell he_ 2).trans rfl
     clear hx_ hy_ hd_ he_ hc_
     go_simp
     with_reducible rfl
    rotate_left
    ·simp only [Act.put, List.setIfInBounds_toArray, List.set_cons_zero, List.set_cons_succ, i64_w, i32_w]
     rfl
    refine one_ (i := 35) (N := some 127) #[true, true, true, true, true, true, true, true, true, true, true, true, true, true, true, true, true, true, true, true, true, true, true, true, true, true, true, true, true, true, true, true, true, true, true, true, true, true, false, false, false, false, false, false, false, false, false, false, false] rfl rfl (one_of HT_.out (by kernel_rfl)) (by decide) (fun K hK => ?_)
    refine goes_ Try.func18 (by kernel_rfl) rfl #[.agg #[.int .i64 t5, .string x5, .slice Ad L5.length cd], .agg #[.int .i64 t6, .string x6, .slice Ae L6.length ce]] (by rfl) rfl rfl (by (try simp only [List.map_toArray, List.map_cons, List.map_nil]); first | done | rfl) ?_
    with_reducible refine (impl_SameItem.calls k t5 x5 _ _ L5 t6 x6 _ _ L6 d1 _ Id.out.row Id.out.len Ie.out.row Ie.out.len S15.out).mono ?_
    rintro e w26_ ⟨rfl, hb⟩
    refine ⟨_, rfl, ?_⟩
    replace HB := Aside0.mk (below_step HB.out hb)
    replace Ix := Aside0.mk (Ix.out.below hb)
    replace Iy := Aside0.mk (Iy.out.below hb)
    replace Id := Aside0.mk (Id.out.below hb)
    replace Ie := Aside0.mk (Ie.out.below hb)
    replace Ic := Aside0.mk (Ic.out.below hb)
    clear hb
    refine hK.out _ _ ⟨Ix.out.cell, Iy.out.cell, Id.out.cell, Ie.out.cell, Ic.out.cell⟩ (fun hHeld => ?_)
    clear hK K
    refine norm_ (a' := ?_) ?_ ?_
    rotate_left
    ·show Act.put _ (some 127) _ = _
     simp only [Act.put, List.setIfInBounds_toArray, List.set_cons_zero, List.set_cons_succ, i64_w, i32_w]
     rfl
    refine one_ (i := 38) (N := some 130) #[true, true, true, true, true, true, true, true, true, true, true, true, true, true, true, true, true, true, true, true, true, true, true, true, true, true, true, true, true, true, true, true, true, true, true, true, true, true, true, false, false, false, false, false, false, false, false, false, false] rfl rfl (one_of HT_.out (by kernel_rfl)) (by decide) (fun K hK => ?_)
    refine goes_ Try.func19 (by kernel_rfl) rfl #[.agg #[.int .i64 t5, .string x5, .slice Ad L5.length cd], .agg #[.int .i64 t6, .string x6, .slice Ae L6.length ce]] (by rfl) rfl rfl (by (try simp only [List.map_toArray, List.map_cons, List.map_nil]); first | done | rfl) ?_
    with_reducible refine (spec_SameItem.calls k t5 x5 _ _ L5 t6 x6 _ _ L6 d1 _ Id.out.row Id.out.len Ie.out.row Ie.out.len S16.out).mono ?_
    rintro e w27_ ⟨rfl, hb⟩
    refine ⟨_, rfl, ?_⟩
    replace HB := Aside0.mk (below_step HB.out hb)
    replace Ix := Aside0.mk (Ix.out.below hb)
    replace Iy := Aside0.mk (Iy.out.below hb)
    replace Id := Aside0.mk (Id.out.below hb)
    replace Ie := Aside0.mk (Ie.out.below hb)
    replace Ic := Aside0.mk (Ic.out.below hb)
    clear hb
    refine hK.out _ _ ⟨Ix.out.cell, Iy.out.cell, Id.out.cell, Ie.out.cell, Ic.out.cell⟩ (fun hHeld => ?_)
    clear hK K
    refine norm_ (a' := ?_) ?_ ?_
    rotate_left
    ·show Act.put _ (some 130) _ = _
     simp only [Act.put, List.setIfInBounds_toArray, List.set_cons_zero, List.set_cons_succ, i64_w, i32_w]
     rfl
    refine pure_ (i := 39) (N := some 131) (v := ?_) (a' := ?_) #[true, true, true, true, true, true, true, true, true, true, true, true, true, true, true, true, true, true, true, true, true, true, true, true, true, true, true, true, true, true, true, true, true, true, true, true, true, true, true, true, false, false, false, false, false, false, false, false, false] rfl rfl (any_of HT_.out (by kernel_rfl)) (fun _ _ _ h => h) (Or.inl ⟨by rfl, ?_⟩) ?_ ?_
    rotate_left
    ·intro w'
     go_simp
     with_reducible rfl
    rotate_left
    ·simp only [Act.put, List.setIfInBounds_toArray, List.set_cons_zero, List.set_cons_succ, i64_w, i32_w]
     rfl
    refine pure_ (i := 40) (N := some 132) (v := ?_) (a' := ?_) #[true, true, true, true, true, true, true, true, true, true, true, true, true, true, true, true, true, true, true, true, true, true, true, true, true, true, true, true, true, true, true, true, true, true, true, true, true, true, true, true, true, false, false, false, false, false, false, false, false] rfl rfl (any_of HT_.out (by kernel_rfl)) (fun _ _ _ h => h) (Or.inl ⟨by rfl, ?_⟩) ?_ ?_
    rotate_left
    ·intro w'
     go_simp
     with_reducible rfl
    rotate_left
    ·simp only [Act.put, List.setIfInBounds_toArray, List.set_cons_zero, List.set_cons_succ, i64_w, i32_w]
     rfl
    refine pure_ (i := 41) (N := some 133) (v := ?_) (a' := ?_) #[true, true, true, true, true, true, true, true, true, true, true, true, true, true, true, true, true, true, true, true, true, true, true, true, true, true, true, true, true, true, true, true, true, true, true, true, true, true, true, true, true, true, false, false, false, false, false, false, false] rfl rfl (any_of HT_.out (by kernel_rfl)) (fun _ _ _ h => h) (Or.inl ⟨by rfl, ?_⟩) ?_ ?_
    rotate_left
    ·intro w'
     go_simp
     with_reducible rfl
    rotate_left
    ·simp only [Act.put, List.setIfInBounds_toArray, List.set_cons_zero, List.set_cons_succ, i64_w, i32_w]
     rfl
    refine take_ (i := 42) (N := some 134) (v := ?_) (a' := ?_) #[true, true, true, true, true, true, true, true, true, true, true, true, true, true, true, true, true, true, true, true, true, true, true, true, true, true, true, true, true, true, true, true, true, true, true, true, true, true, true, true, true, true, true, false, false, false, false, false, false] rfl rfl (take_ofW HT_.out HW_.out (by kernel_rfl)) (fun _ _ _ h => h) (Or.inl ⟨by rfl, ?_⟩) hHeld ?_ ?_
    rotate_left
    ·rintro w' ⟨hx_, hy_, hd_, he_, hc_⟩
     have s0_ : w'.cell? ⟨gc, 0, none⟩ = some (.int .i64 t7) := (blk_cell hc_ 0).trans rfl
     have s1_ : w'.cell? ⟨gc, 1, none⟩ = some (.string x7) := (blk_cell hc_ 1).trans rfl
     have s2_ : w'.cell? ⟨gc, 2, none⟩ = some (.slice Ac L7.length cc) := (blk_cell hc_ 2).trans rfl
     clear hx_ hy_ hd_ he_ hc_
     go_simp
     with_reducible rfl
    rotate_left
    ·simp only [Act.put, List.setIfInBounds_toArray, List.set_cons_zero, List.set_cons_succ, i64_w, i32_w]
     rfl
    refine take_ (i := 44) (N := some 136) (v := ?_) (a' := ?_) #[true, true, true, true, true, true, true, true, true, true, true, true, true, true, true, true, true, true, true, true, true, true, true, true, true, true, true, true, true, true, true, true, true, true, true, true, true, true, true, true, true, true, true, false, true, false, false, false, false] rfl rfl (take_ofW HT_.out HW_.out (by kernel_rfl)) (fun _ _ _ h => h) (Or.inl ⟨by rfl, ?_⟩) hHeld ?_ ?_
    rotate_left
    ·rintro w' ⟨hx_, hy_, hd_, he_, hc_⟩
     have s0_ : w'.cell? ⟨gc, 0, none⟩ = some (.int .i64 t7) := (blk_cell hc_ 0).trans rfl
     have s1_ : w'.cell? ⟨gc, 1, none⟩ = some (.string x7) := (blk_cell hc_ 1).trans rfl
     have s2_ : w'.cell? ⟨gc, 2, none⟩ = some (.slice Ac L7.length cc) := (blk_cell hc_ 2).trans rfl
     clear hx_ hy_ hd_ he_ hc_
     go_simp
     with_reducible rfl
    rotate_left
    ·simp only [Act.put, List.setIfInBounds_toArray, List.set_cons_zero, List.set_cons_succ, i64_w, i32_w]
     rfl
    refine one_ (i := 43) (N := some 135) #[true, true, true, true, true, true, true, true, true, true, true, true, true, true, true, true, true, true, true, true, true, true, true, true, true, true, true, true, true, true, true, true, true, true, true, true, true, true, true, true, true, true, true, true, true, false, false, false, false] rfl rfl (one_of HT_.out (by kernel_rfl)) (by decide) (fun K hK => ?_)
    refine goes_ Try.func16 (by kernel_rfl) rfl #[.agg #[.int .i64 t7, .string x7, .slice Ac L7.length cc]] (by rfl) rfl rfl (by (try simp only [List.map_toArray, List.map_cons, List.map_nil]); first | done | rfl) ?_
    with_reducible refine (impl_ItemOk.calls k t7 x7 _ _ L7 c1 _ Ic.out.row Ic.out.len S17.out).mono ?_
    rintro e w28_ ⟨rfl, hb⟩
    refine ⟨_, rfl, ?_⟩
    replace HB := Aside0.mk (below_step HB.out hb)
    replace Ix := Aside0.mk (Ix.out.below hb)
    replace Iy := Aside0.mk (Iy.out.below hb)
    replace Id := Aside0.mk (Id.out.below hb)
    replace Ie := Aside0.mk (Ie.out.below hb)
    replace Ic := Aside0.mk (Ic.out.below hb)
    clear hb
    refine hK.out _ _ ⟨Ix.out.cell, Iy.out.cell, Id.out.cell, Ie.out.cell, Ic.out.cell⟩ (fun hHeld => ?_)
    clear hK K
    refine norm_ (a' := ?_) ?_ ?_
    rotate_left
    ·show Act.put _ (some 135) _ = _
     simp only [Act.put, List.setIfInBounds_toArray, List.set_cons_zero, List.set_cons_succ, i64_w, i32_w]
     rfl
    refine one_ (i := 45) (N := some 137) #[true, true, true, true, true, true, true, true, true, true, true, true, true, true, true, true, true, true, true, true, true, true, true, true, true, true, true, true, true, true, true, true, true, true, true, true, true, true, true, true, true, true, true, true, true, true, false, false, false] rfl rfl (one_of HT_.out (by kernel_rfl)) (by decide) (fun K hK => ?_)
    refine goes_ Try.func17 (by kernel_rfl) rfl #[.agg #[.int .i64 t7, .string x7, .slice Ac L7.length cc]] (by rfl) rfl rfl (by (try simp only [List.map_toArray, List.map_cons, List.map_nil]); first | done | rfl) ?_
    with_reducible refine (spec_ItemOk.calls k t7 x7 _ _ L7 c1 _ Ic.out.row Ic.out.len S18.out).mono ?_
    rintro e w29_ ⟨rfl, hb⟩
    refine ⟨_, rfl, ?_⟩
    replace HB := Aside0.mk (below_step HB.out hb)
    replace Ix := Aside0.mk (Ix.out.below hb)
    replace Iy := Aside0.mk (Iy.out.below hb)
    replace Id := Aside0.mk (Id.out.below hb)
    replace Ie := Aside0.mk (Ie.out.below hb)
    replace Ic := Aside0.mk (Ic.out.below hb)
    clear hb
    refine hK.out _ _ ⟨Ix.out.cell, Iy.out.cell, Id.out.cell, Ie.out.cell, Ic.out.cell⟩ (fun hHeld => ?_)
    clear hK K
    refine norm_ (a' := ?_) ?_ ?_
    rotate_left
    ·show Act.put _ (some 137) _ = _
     simp only [Act.put, List.setIfInBounds_toArray, List.set_cons_zero, List.set_cons_succ, i64_w, i32_w]
     rfl
    refine pure_ (i := 46) (N := some 138) (v := ?_) (a' := ?_) #[true, true, true, true, true, true, true, true, true, true, true, true, true, true, true, true, true, true, true, true, true, true, true, true, true, true, true, true, true, true, true, true, true, true, true, true, true, true, true, true, true, true, true, true, true, true, true, false, false] rfl rfl (any_of HT_.out (by kernel_rfl)) (fun _ _ _ h => h) (Or.inl ⟨by rfl, ?_⟩) ?_ ?_
    rotate_left
    ·intro w'
     go_simp
     with_reducible rfl
    rotate_left
    ·simp only [Act.put, List.setIfInBounds_toArray, List.set_cons_zero, List.set_cons_succ, i64_w, i32_w]
     rfl
    refine pure_ (i := 47) (N := some 139) (v := ?_) (a' := ?_) #[true, true, true, true, true, true, true, true, true, true, true, true, true, true, true, true, true, true, true, true, true, true, true, true, true, true, true, true, true, true, true, true, true, true, true, true, true, true, true, true, true, true, true, true, true, true, true, true, false] rfl rfl (any_of HT_.out (by kernel_rfl)) (fun _ _ _ h => h) (Or.inl ⟨by rfl, ?_⟩) ?_ ?_
    rotate_left
    ·intro w'
     go_simp
     with_reducible rfl
    rotate_left
    ·simp only [Act.put, List.setIfInBounds_toArray, List.set_cons_zero, List.set_cons_succ, i64_w, i32_w]
     rfl
    refine pure_ (i := 48) (N := some 2) (v := ?_) (a' := ?_) #[true, true, true, true, true, true, true, true, true, true, true, true, true, true, true, true, true, true, true, true, true, true, true, true, true, true, true, true, true, true, true, true, true, true, true, true, true, true, true, true, true, true, true, true, true, true, true, true, true] rfl rfl (any_of HT_.out (by kernel_rfl)) (fun _ _ _ h => h) (Or.inl ⟨by rfl, ?_⟩) ?_ ?_
    rotate_left
    ·intro w'
     go_simp
     with_reducible rfl
    rotate_left
    ·simp only [Act.put, List.setIfInBounds_toArray, List.set_cons_zero, List.set_cons_succ, i64_w, i32_w]
     rfl
    refine done_ (done_of HT_.out (by kernel_rfl)) ?_
    try go_wp2
    go_ret
    exact ⟨rfl, HB.out⟩
   ·have e8 : a13.toList = a8.toList := e8.resolve_left (by simp)
    have e8b0 : (a13.toList == a8.toList) = true := beq_iff_eq.mpr e8
    have e8b1 : (a13.toList != a8.toList) = false := bne_eq_false_iff_eq.mpr e8
    clear e8
    refine pure_ (i := 24) (N := some 116) (v := ?_) (a' := ?_) #[true, true, true, true, true, true, true, true, true, true, true, true, true, true, true, true, true, true, true, true, true, true, true, true, true, false, false, false, false, false, false, false, false, false, false, false, false, false, false, false, false, false, false, false, false, false, false, false, false] rfl rfl (any_of HT_.out (by kernel_rfl)) (fun _ _ _ h => h) (Or.inl ⟨by rfl, ?_⟩) ?_ ?_
    rotate_left
    ·intro w'
     go_simp
     with_reducible rfl
    rotate_left
    ·simp only [Act.put, List.setIfInBounds_toArray, List.set_cons_zero, List.set_cons_succ, i64_w, i32_w]
     rfl
    refine pure_ (i := 25) (N := some 117) (v := ?_) (a' := ?_) #[true, true, true, true, true, true, true, true, true, true, true, true, true, true, true, true, true, true, true, true, true, true, true, true, true, true, false, false, false, false, false, false, false, false, false, false, false, false, false, false, false, false, false, false, false, false, false, false, false] rfl rfl (any_of HT_.out (by kernel_rfl)) (fun _ _ _ h => h) (Or.inl ⟨by rfl, ?_⟩) ?_ ?_
    rotate_left
    ·intro w'
     go_simp
     with_reducible rfl
    rotate_left
    ·simp only [Act.put, List.setIfInBounds_toArray, List.set_cons_zero, List.set_cons_succ, i64_w, i32_w]
     rfl
    refine pure_ (i := 26) (N := some 118) (v := ?_) (a' := ?_) #[true, true, true, true, true, true, true, true, true, true, true, true, true, true, true, true, true, true, true, true, true, true, true, true, true, true, true, false, false, false, false, false, false, false, false, false, false, false, false, false, false, false, false, false, false, false, false, false, false] rfl rfl (any_of HT_.out (by kernel_rfl)) (fun _ _ _ h => h) (Or.inl ⟨by rfl, ?_⟩) ?_ ?_
    rotate_left
    ·intro w'
     go_simp
     with_reducible rfl
    rotate_left
    ·simp only [Act.put, List.setIfInBounds_toArray, List.set_cons_zero, List.set_cons_succ, i64_w, i32_w]
     rfl
    refine pure_ (i := 27) (N := some 119) (v := ?_) (a' := ?_) #[true, true, true, true, true, true, true, true, true, true, true, true, true, true, true, true, true, true, true, true, true, true, true, true, true, true, true, true, false, false, false, false, false, false, false, false, false, false, false, false, false, false, false, false, false, false, false, false, false] rfl rfl (any_of HT_.out (by kernel_rfl)) (fun _ _ _ h => h) (Or.inl ⟨by rfl, ?_⟩) ?_ ?_
    rotate_left
    ·intro w'
     go_simp
     with_reducible rfl
    rotate_left
    ·simp only [Act.put, List.setIfInBounds_toArray, List.set_cons_zero, List.set_cons_succ, i64_w, i32_w]
     rfl
    refine pure_ (i := 28) (N := some 120) (v := ?_) (a' := ?_) #[true, true, true, true, true, true, true, true, true, true, true, true, true, true, true, true, true, true, true, true, true, true, true, true, true, true, true, true, true, false, false, false, false, false, false, false, false, false, false, false, false, false, false, false, false, false, false, false, false] rfl rfl (any_of HT_.out (by kernel_rfl)) (fun _ _ _ h => h) (Or.inl ⟨by rfl, ?_⟩) ?_ ?_
    rotate_left
    ·intro w'
     go_simp
     with_reducible rfl
    rotate_left
    ·simp only [Act.put, List.setIfInBounds_toArray, List.set_cons_zero, List.set_cons_succ, i64_w, i32_w]
     rfl
    refine pure_ (i := 29) (N := some 121) (v := ?_) (a' := ?_) #[true, true, true, true, true, true, true, true, true, true, true, true, true, true, true, true, true, true, true, true, true, true, true, true, true, true, true, true, true, true, false, false, false, false, false, false, false, false, false, false, false, false, false, false, false, false, false, false, false] rfl rfl (any_of HT_.out (by kernel_rfl)) (fun _ _ _ h => h) (Or.inl ⟨by rfl, ?_⟩) ?_ ?_
    rotate_left
    ·intro w'
     go_simp
     with_reducible rfl
    rotate_left
    ·simp only [Act.put, List.setIfInBounds_toArray, List.set_cons_zero, List.set_cons_succ, i64_w, i32_w]
     rfl
    refine pure_ (i := 30) (N := some 122) (v := ?_) (a' := ?_) #[true, true, true, true, true, true, true, true, true, true, true, true, true, true, true, true, true, true, true, true, true, true, true, true, true, true, true, true, true, true, true, false, false, false, false, false, false, false, false, false, false, false, false, false, false, false, false, false, false] rfl rfl (any_of HT_.out (by kernel_rfl)) (fun _ _ _ h => h) (Or.inl ⟨by rfl, ?_⟩) ?_ ?_
    rotate_left
    ·intro w'
     go_simp
     with_reducible rfl
    rotate_left
    ·simp only [Act.put, List.setIfInBounds_toArray, List.set_cons_zero, List.set_cons_succ, i64_w, i32_w]
     rfl
    refine pure_ (i := 31) (N := some 123) (v := ?_) (a' := ?_) #[true, true, true, true, true, true, true, true, true, true, true, true, true, true, true, true, true, true, true, true, true, true, true, true, true, true, true, true, true, true, true, true, false, false, false, false, false, false, false, false, false, false, false, false, false, false, false, false, false] rfl rfl (any_of HT_.out (by kernel_rfl)) (fun _ _ _ h => h) (Or.inl ⟨by rfl, ?_⟩) ?_ ?_
    rotate_left
    ·intro w'
     go_simp
     with_reducible rfl
    rotate_left
    ·simp only [Act.put, List.setIfInBounds_toArray, List.set_cons_zero, List.set_cons_succ, i64_w, i32_w]
     rfl
    refine pure_ (i := 32) (N := some 124) (v := ?_) (a' := ?_) #[true, true, true, true, true, true, true, true, true, true, true, true, true, true, true, true, true, true, true, true, true, true, true, true, true, true, true, true, true, true, true, true, true, false, false, false, false, false, false, false, false, false, false, false, false, false, false, false, false] rfl rfl (any_of HT_.out (by kernel_rfl)) (fun _ _ _ h => h) (Or.inl ⟨by rfl, ?_⟩) ?_ ?_
    rotate_left
    ·intro w'
     go_simp
     with_reducible rfl
    rotate_left
    ·simp only [Act.put, List.setIfInBounds_toArray, List.set_cons_zero, List.set_cons_succ, i64_w, i32_w]
     rfl
    refine take_ (i := 33) (N := some 125) (v := ?_) (a' := ?_) #[true, true, true, true, true, true, true, true, true, true, true, true, true, true, true, true, true, true, true, true, true, true, true, true, true, true, true, true, true, true, true, true, true, true, false, false, false, false, false, false, false, false, false, false, false, false, false, false, false] rfl rfl (take_ofW HT_.out HW_.out (by kernel_rfl)) (fun _ _ _ h => h) (Or.inl ⟨by rfl, ?_⟩) hHeld ?_ ?_
    rotate_left
    ·rintro w' ⟨hx_, hy_, hd_, he_, hc_⟩
     have s0_ : w'.cell? ⟨gd, 0, none⟩ = some (.int .i64 t5) := (blk_cell hd_ 0).trans rfl
     have s1_ : w'.cell? ⟨gd, 1, none⟩ = some (.string x5) := (blk_cell hd_ 1).trans rfl
     have s2_ : w'.cell? ⟨gd, 2, none⟩ = some (.slice Ad L5.length cd) := (blk_cell hd_ 2).trans rfl
     clear hx_ hy_ hd_ he_ hc_
     go_simp
     with_reducible rfl
    rotate_left
    ·simp only [Act.put, List.setIfInBounds_toArray, List.set_cons_zero, List.set_cons_succ, i64_w, i32_w]
     rfl
    refine take_ (i := 34) (N := some 126) (v := ?_) (a' := ?_) #[true, true, true, true, true, true, true, true, true, true, true, true, true, true, true, true, true, true, true, true, true, true, true, true, true, true, true, true, true, true, true, true, true, true, true, false, false, false, false, false, false, false, false, false, false, false, false, false, false] rfl rfl (take_ofW HT_.out HW_.out (by kernel_rfl)) (fun _ _ _ h => h) (Or.inl ⟨by rfl, ?_⟩) hHeld ?_ ?_
    rotate_left
    ·rintro w' ⟨hx_, hy_, hd_, he_, hc_⟩
     have s0_ : w'.cell? ⟨ge, 0, none⟩ = some (.int .i64 t6) := (blk_cell he_ 0).trans rfl
     have s1_ : w'.cell? ⟨ge, 1, none⟩ = some (.string x6) := (blk_cell he_ 1).trans rfl
     have s2_ : w'.cell? ⟨ge, 2, none⟩ = some (.slice Ae L6.length ce) := (blk_cell he_ 2).trans rfl
     clear hx_ hy_ hd_ he_ hc_
     go_simp
     with_reducible rfl
    rotate_left
    ·simp only [Act.put, List.setIfInBounds_toArray, List.set_cons_zero, List.set_cons_succ, i64_w, i32_w]
     rfl
    refine take_ (i := 36) (N := some 128) (v := ?_) (a' := ?_) #[true, true, true, true, true, true, true, true, true, true, true, true, true, true, true, true, true, true, true, true, true, true, true, true, true, true, true, true, true, true, true, true, true, true, true, false, true, false, false, false, false, false, false, false, false, false, false, false, false] rfl rfl (take_ofW HT_.out HW_.out (by kernel_rfl)) (fun _ _ _ h => h) (Or.inl ⟨by rfl, ?_⟩) hHeld ?_ ?_
    rotate_left
    ·rintro w' ⟨hx_, hy_, hd_, he_, hc_⟩
     have s0_ : w'.cell? ⟨gd, 0, none⟩ = some (.int .i64 t5) := (blk_cell hd_ 0).trans rfl
     have s1_ : w'.cell? ⟨gd, 1, none⟩ = some (.string x5) := (blk_cell hd_ 1).trans rfl
     have s2_ : w'.cell? ⟨gd, 2, none⟩ = some (.slice Ad L5.length cd) := (blk_cell hd_ 2).trans rfl
     clear hx_ hy_ hd_ he_ hc_
     go_simp
     with_reducible rfl
    rotate_left
    ·simp only [Act.put, List.setIfInBounds_toArray, List.set_cons_zero, List.set_cons_succ, i64_w, i32_w]
     rfl
    refine take_ (i := 37) (N := some 129) (v := ?_) (a' := ?_) #[true, true, true, true, true, true, true, true, true, true, true, true, true, true, true, true, true, true, true, true, true, true, true, true, true, true, true, true, true, true, true, true, true, true, true, false, true, true, false, false, false, false, false, false, false, false, false, false, false] rfl rfl (take_ofW HT_.out HW_.out (by kernel_rfl)) (fun _ _ _ h => h) (Or.inl ⟨by rfl, ?_⟩) hHeld ?_ ?_
    rotate_left
    ·rintro w' ⟨hx_, hy_, hd_, he_, hc_⟩
     have s0_ : w'.cell? ⟨ge, 0, none⟩ = some (.int .i64 t6) := (blk_cell he_ 0).trans rfl
     have s1_ : w'.cell? ⟨ge, 1, none⟩ = some (.string x6) := (blk_cell he_ 1).trans rfl
     have s2_ : w'.cell? ⟨ge, 2, none⟩ = some (.slice Ae L6.length ce) := (blk_cell he_ 2).trans rfl
     clear hx_ hy_ hd_ he_ hc_
     go_simp
     with_reducible rfl
    rotate_left
    ·simp only [Act.put, List.setIfInBounds_toArray, List.set_cons_zero, List.set_cons_succ, i64_w, i32_w]
     rfl
    refine one_ (i := 35) (N := some 127) #[true, true, true, true, true, true, true, true, true, true, true, true, true, true, true, true, true, true, true, true, true, true, true, true, true, true, true, true, true, true, true, true, true, true, true, true, true, true, false, false, false, false, false, false, false, false, false, false, false] rfl rfl (one_of HT_.out (by kernel_rfl)) (by decide) (fun K hK => ?_)
    refine goes_ Try.func18 (by kernel_rfl) rfl #[.agg #[.int .i64 t5, .string x5, .slice Ad L5.length cd], .agg #[.int .i64 t6, .string x6, .slice Ae L6.length ce]] (by rfl) rfl rfl (by (try simp only [List.map_toArray, List.map_cons, List.map_nil]); first | done | rfl) ?_
    with_reducible refine (impl_SameItem.calls k t5 x5 _ _ L5 t6 x6 _ _ L6 d1 _ Id.out.row Id.out.len Ie.out.row Ie.out.len S15.out).mono ?_
    rintro e w30_ ⟨rfl, hb⟩
    refine ⟨_, rfl, ?_⟩
    replace HB := Aside0.mk (below_step HB.out hb)
    replace Ix := Aside0.mk (Ix.out.below hb)
    replace Iy := Aside0.mk (Iy.out.below hb)
    replace Id := Aside0.mk (Id.out.below hb)
    replace Ie := Aside0.mk (Ie.out.below hb)
    replace Ic := Aside0.mk (Ic.out.below hb)
    clear hb
    refine hK.out _ _ ⟨Ix.out.cell, Iy.out.cell, Id.out.cell, Ie.out.cell, Ic.out.cell⟩ (fun hHeld => ?_)
    clear hK K
    refine norm_ (a' := ?_) ?_ ?_
    rotate_left
    ·show Act.put _ (some 127) _ = _
     simp only [Act.put, List.setIfInBounds_toArray, List.set_cons_zero, List.set_cons_succ, i64_w, i32_w]
     rfl
    refine one_ (i := 38) (N := some 130) #[true, true, true, true, true, true, true, true, true, true, true, true, true, true, true, true, true, true, true, true, true, true, true, true, true, true, true, true, true, true, true, true, true, true, true, true, true, true, true, false, false, false, false, false, false, false, false, false, false] rfl rfl (one_of HT_.out (by kernel_rfl)) (by decide) (fun K hK => ?_)
    refine goes_ Try.func19 (by kernel_rfl) rfl #[.agg #[.int .i64 t5, .string x5, .slice Ad L5.length cd], .agg #[.int .i64 t6, .string x6, .slice Ae L6.length ce]] (by rfl) rfl rfl (by (try simp only [List.map_toArray, List.map_cons, List.map_nil]); first | done | rfl) ?_
    with_reducible refine (spec_SameItem.calls k t5 x5 _ _ L5 t6 x6 _ _ L6 d1 _ Id.out.row Id.out.len Ie.out.row Ie.out.len S16.out).mono ?_
    rintro e w31_ ⟨rfl, hb⟩
    refine ⟨_, rfl, ?_⟩
    replace HB := Aside0.mk (below_step HB.out hb)
    replace Ix := Aside0.mk (Ix.out.below hb)
    replace Iy := Aside0.mk (Iy.out.below hb)
    replace Id := Aside0.mk (Id.out.below hb)
    replace Ie := Aside0.mk (Ie.out.below hb)
    replace Ic := Aside0.mk (Ic.out.below hb)
    clear hb
    refine hK.out _ _ ⟨Ix.out.cell, Iy.out.cell, Id.out.cell, Ie.out.cell, Ic.out.cell⟩ (fun hHeld => ?_)
    clear hK K
    refine norm_ (a' := ?_) ?_ ?_
    rotate_left
    ·show Act.put _ (some 130) _ = _
     simp only [Act.put, List.setIfInBounds_toArray, List.set_cons_zero, List.set_cons_succ, i64_w, i32_w]
     rfl
    refine pure_ (i := 39) (N := some 131) (v := ?_) (a' := ?_) #[true, true, true, true, true, true, true, true, true, true, true, true, true, true, true, true, true, true, true, true, true, true, true, true, true, true, true, true, true, true, true, true, true, true, true, true, true, true, true, true, false, false, false, false, false, false, false, false, false] rfl rfl (any_of HT_.out (by kernel_rfl)) (fun _ _ _ h => h) (Or.inl ⟨by rfl, ?_⟩) ?_ ?_
    rotate_left
    ·intro w'
     go_simp
     with_reducible rfl
    rotate_left
    ·simp only [Act.put, List.setIfInBounds_toArray, List.set_cons_zero, List.set_cons_succ, i64_w, i32_w]
     rfl
    refine pure_ (i := 40) (N := some 132) (v := ?_) (a' := ?_) #[true, true, true, true, true, true, true, true, true, true, true, true, true, true, true, true, true, true, true, true, true, true, true, true, true, true, true, true, true, true, true, true, true, true, true, true, true, true, true, true, true, false, false, false, false, false, false, false, false] rfl rfl (any_of HT_.out (by kernel_rfl)) (fun _ _ _ h => h) (Or.inl ⟨by rfl, ?_⟩) ?_ ?_
    rotate_left
    ·intro w'
     go_simp
     with_reducible rfl
    rotate_left
    ·simp only [Act.put, List.setIfInBounds_toArray, List.set_cons_zero, List.set_cons_succ, i64_w, i32_w]
     rfl
    refine pure_ (i := 41) (N := some 133) (v := ?_) (a' := ?_) #[true, true, true, true, true, true, true, true, true, true, true, true, true, true, true, true, true, true, true, true, true, true, true, true, true, true, true, true, true, true, true, true, true, true, true, true, true, true, true, true, true, true, false, false, false, false, false, false, false] rfl rfl (any_of HT_.out (by kernel_rfl)) (fun _ _ _ h => h) (Or.inl ⟨by rfl, ?_⟩) ?_ ?_
    rotate_left
    ·intro w'
     go_simp
     with_reducible rfl
    rotate_left
    ·simp only [Act.put, List.setIfInBounds_toArray, List.set_cons_zero, List.set_cons_succ, i64_w, i32_w]
     rfl
    refine take_ (i := 42) (N := some 134) (v := ?_) (a' := ?_) #[true, true, true, true, true, true, true, true, true, true, true, true, true, true, true, true, true, true, true, true, true, true, true, true, true, true, true, true, true, true, true, true, true, true, true, true, true, true, true, true, true, true, true, false, false, false, false, false, false] rfl rfl (take_ofW HT_.out HW_.out (by kernel_rfl)) (fun _ _ _ h => h) (Or.inl ⟨by rfl, ?_⟩) hHeld ?_ ?_
    rotate_left
    ·rintro w' ⟨hx_, hy_, hd_, he_, hc_⟩
     have s0_ : w'.cell? ⟨gc, 0, none⟩ = some (.int .i64 t7) := (blk_cell hc_ 0).trans rfl
     have s1_ : w'.cell? ⟨gc, 1, none⟩ = some (.string x7) := (blk_cell hc_ 1).trans rfl
     have s2_ : w'.cell? ⟨gc, 2, none⟩ = some (.slice Ac L7.length cc) := (blk_cell hc_ 2).trans rfl
     clear hx_ hy_ hd_ he_ hc_
     go_simp
     with_reducible rfl
    rotate_left
    ·simp only [Act.put, List.setIfInBounds_toArray, List.set_cons_zero, List.set_cons_succ, i64_w, i32_w]
     rfl
    refine take_ (i := 44) (N := some 136) (v := ?_) (a' := ?_) #[true, true, true, true, true, true, true, true, true, true, true, true, true, true, true, true, true, true, true, true, true, true, true, true, true, true, true, true, true, true, true, true, true, true, true, true, true, true, true, true, true, true, true, false, true, false, false, false, false] rfl rfl (take_ofW HT_.out HW_.out (by kernel_rfl)) (fun _ _ _ h => h) (Or.inl ⟨by rfl, ?_⟩) hHeld ?_ ?_
    rotate_left
    ·rintro w' ⟨hx_, hy_, hd_, he_, hc_⟩
     have s0_ : w'.cell? ⟨gc, 0, none⟩ = some (.int .i64 t7) := (blk_cell hc_ 0).trans rfl
     have s1_ : w'.cell? ⟨gc, 1, none⟩ = some (.string x7) := (blk_cell hc_ 1).trans rfl
     have s2_ : w'.cell? ⟨gc, 2, none⟩ = some (.slice Ac L7.length cc) := (blk_cell hc_ 2).trans rfl
     clear hx_ hy_ hd_ he_ hc_
     go_simp
     with_reducible rfl
    rotate_left
    ·simp only [Act.put, List.setIfInBounds_toArray, List.set_cons_zero, List.set_cons_succ, i64_w, i32_w]
     rfl
    refine one_ (i := 43) (N := some 135) #[true, true, true, true, true, true, true, true, true, true, true, true, true, true, true, true, true, true, true, true, true, true, true, true, true, true, true, true, true, true, true, true, true, true, true, true, true, true, true, true, true, true, true, true, true, false, false, false, false] rfl rfl (one_of HT_.out (by kernel_rfl)) (by decide) (fun K hK => ?_)
    refine goes_ Try.func16 (by kernel_rfl) rfl #[.agg #[.int .i64 t7, .string x7, .slice Ac L7.length cc]] (by rfl) rfl rfl (by (try simp only [List.map_toArray, List.map_cons, List.map_nil]); first | done | rfl) ?_
    with_reducible refine (impl_ItemOk.calls k t7 x7 _ _ L7 c1 _ Ic.out.row Ic.out.len S17.out).mono ?_
    rintro e w32_ ⟨rfl, hb⟩
    refine ⟨_, rfl, ?_⟩
    replace HB := Aside0.mk (below_step HB.out hb)
    replace Ix := Aside0.mk (Ix.out.below hb)
    replace Iy := Aside0.mk (Iy.out.below hb)
    replace Id := Aside0.mk (Id.out.below hb)
    replace Ie := Aside0.mk (Ie.out.below hb)
    replace Ic := Aside0.mk (Ic.out.below hb)
    clear hb
    refine hK.out _ _ ⟨Ix.out.cell, Iy.out.cell, Id.out.cell, Ie.out.cell, Ic.out.cell⟩ (fun hHeld => ?_)
    clear hK K
    refine norm_ (a' := ?_) ?_ ?_
    rotate_left
    ·show Act.put _ (some 135) _ = _
     simp only [Act.put, List.setIfInBounds_toArray, List.set_cons_zero, List.set_cons_succ, i64_w, i32_w]
     rfl
    refine one_ (i := 45) (N := some 137) #[true, true, true, true, true, true, true, true, true, true, true, true, true, true, true, true, true, true, true, true, true, true, true, true, true, true, true, true, true, true, true, true, true, true, true, true, true, true, true, true, true, true, true, true, true, true, false, false, false] rfl rfl (one_of HT_.out (by kernel_rfl)) (by decide) (fun K hK => ?_)
    refine goes_ Try.func17 (by kernel_rfl) rfl #[.agg #[.int .i64 t7, .string x7, .slice Ac L7.length cc]] (by rfl) rfl rfl (by (try simp only [List.map_toArray, List.map_cons, List.map_nil]); first | done | rfl) ?_
    with_reducible refine (spec_ItemOk.calls k t7 x7 _ _ L7 c1 _ Ic.out.row Ic.out.len S18.out).mono ?_
    rintro e w33_ ⟨rfl, hb⟩
    refine ⟨_, rfl, ?_⟩
    replace HB := Aside0.mk (below_step HB.out hb)
    replace Ix := Aside0.mk (Ix.out.below hb)
    replace Iy := Aside0.mk (Iy.out.below hb)
    replace Id := Aside0.mk (Id.out.below hb)
    replace Ie := Aside0.mk (Ie.out.below hb)
    replace Ic := Aside0.mk (Ic.out.below hb)
    clear hb
    refine hK.out _ _ ⟨Ix.out.cell, Iy.out.cell, Id.out.cell, Ie.out.cell, Ic.out.cell⟩ (fun hHeld => ?_)
    clear hK K
    refine norm_ (a' := ?_) ?_ ?_
    rotate_left
    ·show Act.put _ (some 137) _ = _
     simp only [Act.put, List.setIfInBounds_toArray, List.set_cons_zero, List.set_cons_succ, i64_w, i32_w]
     rfl
    refine pure_ (i := 46) (N := some 138) (v := ?_) (a' := ?_) #[true, true, true, true, true, true, true, true, true, true, true, true, true, true, true, true, true, true, true, true, true, true, true, true, true, true, true, true, true, true, true, true, true, true, true, true, true, true, true, true, true, true, true, true, true, true, true, false, false] rfl rfl (any_of HT_.out (by kernel_rfl)) (fun _ _ _ h => h) (Or.inl ⟨by rfl, ?_⟩) ?_ ?_
    rotate_left
    ·intro w'
     go_simp
     with_reducible rfl
    rotate_left
    ·simp only [Act.put, List.setIfInBounds_toArray, List.set_cons_zero, List.set_cons_succ, i64_w, i32_w]
     rfl
    refine pure_ (i := 47) (N := some 139) (v := ?_) (a' := ?_) #[true, true, true, true, true, true, true, true, true, true, true, true, true, true, true, true, true, true, true, true, true, true, true, true, true, true, true, true, true, true, true, true, true, true, true, true, true, true, true, true, true, true, true, true, true, true, true, true, false] rfl rfl (any_of HT_.out (by kernel_rfl)) (fun _ _ _ h => h) (Or.inl ⟨by rfl, ?_⟩) ?_ ?_
    rotate_left
    ·intro w'
     go_simp
     with_reducible rfl
    rotate_left
    ·simp only [Act.put, List.setIfInBounds_toArray, List.set_cons_zero, List.set_cons_succ, i64_w, i32_w]
     rfl
    refine pure_ (i := 48) (N := some 2) (v := ?_) (a' := ?_) #[true, true, true, true, true, true, true, true, true, true, true, true, true, true, true, true, true, true, true, true, true, true, true, true, true, true, true, true, true, true, true, true, true, true, true, true, true, true, true, true, true, true, true, true, true, true, true, true, true] rfl rfl (any_of HT_.out (by kernel_rfl)) (fun _ _ _ h => h) (Or.inl ⟨by rfl, ?_⟩) ?_ ?_
    rotate_left
    ·intro w'
     go_simp
     with_reducible rfl
    rotate_left
    ·simp only [Act.put, List.setIfInBounds_toArray, List.set_cons_zero, List.set_cons_succ, i64_w, i32_w]
     rfl
    refine done_ (done_of HT_.out (by kernel_rfl)) ?_
    try go_wp2
    go_ret
    exact ⟨rfl, HB.out⟩
def laws_FnItems.Pure : Prop := ∀ (l0 : List Int), l0.length ≤ maxLen → l0.length * 1 ≤ 140737488351232 → (∀ x ∈ l0, (Lit.int .u8 x).wf = true) → ∃ k, laws_FnItems.f k l0 = some true
theorem laws_FnItems.walk (P : laws_FnItems.Pure) (a0 : Option Addr) (len0 cap0 : Nat) (z0 : List Int) (w : World) (w0 : (a0 = none ∧ len0 = 0 ∧ cap0 = 0 ∧ z0 = []) ∨ ∃ x, a0 = some x ∧ len0 ≤ cap0 ∧ cap0 ≤ maxLen ∧ z0.length = cap0 ∧ (∀ i, i < z0.length → w.cell? (x.add i) = some (.int .u8 (z0.getD i 0))) ∧ ∀ n ∈ z0, (Lit.int .u8 n).wf = true) (y0 : len0 * 1 ≤ 140737488351232) :
 Calls Try.prog 3 #[.slice a0 len0 cap0] w fun e w' => e = .returned (.bool true) ∧ Below w.heap.size w w' := by
 obtain ⟨l0, rfl, hr0, hm0, hw0, hc0⟩ := ReadsInt.ofRowC w0
 obtain ⟨k, h⟩ := P l0 hm0 y0 hw0
 refine (laws_FnItems.calls k _ _ l0 true w (Kd.C_of_reads (d := (0 : Int)) (h1 := fun _ => rfl) hr0) hc0 rfl h).mono ?_
 rintro e w' ⟨rfl, hd⟩
 exact ⟨rfl, hd⟩

end Go.Proofs.Ytknalcnbkbkjdaa.GFnItems
