-- Written by a program of this session (gp.py) over the kit's printer: no printed text.
import Derived.Test.YtknalcnbkbkjdaaVGFnExactBodyTextx0
import Derived.Test.YtknalcnbkbkjdaaVGFnExactBodyTextx10
import Derived.Test.YtknalcnbkbkjdaaVGFnExactBodyTextx11
import Derived.Test.YtknalcnbkbkjdaaVGFnExactBodyTextx4
namespace Go.Proofs.Ytknalcnbkbkjdaa.GFnExactBodyText
open Go.RowKit Go.Proofs.YtknalcnbkbkjdaaW.PrintWords Go.Proofs.YtknalcnbkbkjdaaW.PrintLast Go.Proofs.YtknalcnbkbkjdaaW.PrintMore
attribute [local go_sem] max2_int min2_int max_two min_two max_three min_three max_four min_four   -- for this text's walks alone
set_option linter.unusedVariables false
set_option linter.unusedSimpArgs false

/-! ### impl_BodyItem: function 32 -/
def impl_BodyItem.f (k : Nat) (a0_0 : Int) (a0_1 : ByteArray) (a0_2 : ByteArray) (a0_3 : Int) (a0_4 : Int) (a0_5 : ByteArray) (a0_6 : Bool) (a0_7 : Int) (a0_8 : Int) (l0_9 : List Int) (l0_10 : List ByteArray) (l0_11 : List ByteArray) (a0_12 : ByteArray) : Option (Int × ByteArray × (List (S26))) := (impl_IntItem.f k a0_3).bind fun bt387 => ((impl_IntItem.f k a0_4).bind fun bt392 => ((impl_ListItem.f k (([(⟨bt387.1, bt387.2.1, bt387.2.2⟩ : S26), (⟨bt392.1, bt392.2.1, bt392.2.2⟩ : S26)] : List (S26)))).bind fun bt400 => ((impl_IntItem.f k a0_0).bind fun bt406 => ((impl_TextItem.f a0_1).bind fun bt411 => ((impl_TextItem.f a0_2).bind fun bt416 => ((impl_bytesItem.f a0_5).bind fun bt421 => ((impl_boolItem.f a0_6).bind fun bt426 => ((impl_IntItem.f k a0_7).bind fun bt431 => ((impl_IntItem.f k a0_8).bind fun bt436 => ((impl_each_int.f k l0_9 0).bind fun bt441 => ((impl_each_string.f k l0_10 0).bind fun bt446 => ((impl_each_string.f k l0_11 0).bind fun bt451 => ((impl_ListItem.f k (([(⟨bt406.1, bt406.2.1, bt406.2.2⟩ : S26), (⟨bt411.1, bt411.2.1, bt411.2.2⟩ : S26), (⟨bt400.1, bt400.2.1, bt400.2.2⟩ : S26), (⟨bt416.1, bt416.2.1, bt416.2.2⟩ : S26), (⟨bt421.1, bt421.2.1, bt421.2.2⟩ : S26), (⟨bt426.1, bt426.2.1, bt426.2.2⟩ : S26), (⟨bt431.1, bt431.2.1, bt431.2.2⟩ : S26), (⟨bt436.1, bt436.2.1, bt436.2.2⟩ : S26), (⟨bt441.1, bt441.2.1, bt441.2.2⟩ : S26), (⟨bt446.1, bt446.2.1, bt446.2.2⟩ : S26), (⟨bt451.1, bt451.2.1, bt451.2.2⟩ : S26)] : List (S26)))).bind fun bt459 => (some (bt459.1, bt459.2.1, bt459.2.2)))))))))))))))
theorem impl_BodyItem.mono : ∀ a0 a1 a2 a3 a4 a5 a6 a7 a8 a9 a10 a11 a12 k, LeO (impl_BodyItem.f k a0 a1 a2 a3 a4 a5 a6 a7 a8 a9 a10 a11 a12) (impl_BodyItem.f (k + 1) a0 a1 a2 a3 a4 a5 a6 a7 a8 a9 a10 a11 a12) := by
 intro a0 a1 a2 a3 a4 a5 a6 a7 a8 a9 a10 a11 a12 k
 unfold impl_BodyItem.f
 repeat' first
   | (with_reducible exact impl_IntItem.mono _ _)
   | (with_reducible exact impl_ListItem.mono _ _)
   | (with_reducible exact impl_each_int.mono _ _ _)
   | (with_reducible exact impl_each_string.mono _ _ _)
   | (with_reducible exact LeO.refl _)
   | (with_reducible exact LeO.none _)
   | (with_reducible refine LeO.ite ?_ ?_)
   | (with_reducible refine LeO.bind ?_ (fun _ => ?_))
   | exact LeO.none _
   | refine LeO.ite ?_ ?_
   | refine LeO.bind ?_ (fun _ => ?_)
def impl_BodyItem.T1 : Bool × List (List Nat × List Nat) := (true, [([], []), ([0], [0]), ([1], [1]), ([], []), ([3], [3]), ([4, 2], [4]), ([2, 5], [2, 5]), ([6, 5], [6]), ([], []), ([8, 7, 7, 0, 1, 2, 3, 4, 5, 6, 7, 8], [7, 8])])
def impl_BodyItem.B1 : List Nat := [0, 1, 3, 0, 8, 31, 63, 127, 0, 511]
theorem impl_BodyItem.tab1 : rtab .any (opsOf Try.f32 1) = impl_BodyItem.T1 := by kernel_rfl
theorem impl_BodyItem.bits1 : waitsOk impl_BodyItem.T1.2 impl_BodyItem.B1 = true := by kernel_rfl
def impl_BodyItem.T2 : Bool × List (List Nat × List Nat) := (true, [([], []), ([0], [0]), ([1], [1]), ([], []), ([3], [3]), ([4, 2], [4]), ([], []), ([], []), ([7], [7]), ([8, 5], [8]), ([], []), ([10], [10]), ([11, 9], [11]), ([], []), ([13], [13]), ([14, 12], [14]), ([], []), ([16], [16]), ([17, 15], [17]), ([], []), ([19], [19]), ([20, 18], [20]), ([], []), ([22], [22]), ([23, 21], [23]), ([], []), ([25], [25]), ([26, 24], [26]), ([], []), ([28], [28]), ([29, 27], [29]), ([2, 5, 6, 9, 12, 15, 18, 21, 24, 27, 30], [2, 5, 6, 9, 12, 15, 18, 21, 24, 27, 30]), ([31, 30], [31]), ([32, 32, 0, 1, 2, 3, 4, 5, 6, 7, 8, 9, 10, 11, 12, 13, 14, 15, 16, 17, 18, 19, 20, 21, 22, 23, 24, 25, 26, 27, 28, 29, 30, 31, 32], [32])])
def impl_BodyItem.B2 : List Nat := [0, 1, 3, 0, 8, 31, 0, 0, 128, 447, 0, 1024, 4031, 0, 8192, 32703, 0, 65536, 262079, 0, 524288, 2097087, 0, 4194304, 16777151, 0, 33554432, 134217663, 0, 268435456, 1073741759, 2147483647, 4294967295, 8589934591]
theorem impl_BodyItem.tab2 : rtab .any (opsOf Try.f32 2) = impl_BodyItem.T2 := by kernel_rfl
theorem impl_BodyItem.bits2 : waitsOk impl_BodyItem.T2.2 impl_BodyItem.B2 = true := by kernel_rfl
theorem impl_IntItem.l0_nil : ∀ (k : Nat) (x : Int) (y : List Int) (r : Int × ByteArray × List S26), impl_IntItem.l0 k x y = some r → r.2.2 = []
 | 0, _, _, _, h => by simp [impl_IntItem.l0] at h
 | k + 1, x, y, r, h => by
  simp only [impl_IntItem.l0, Option.bind_some] at h
  repeat' split at h
  all_goals first | exact impl_IntItem.l0_nil k _ _ _ h | (cases h; rfl) | cases h
theorem impl_IntItem.f_nil {k : Nat} {a t : Int} {x : ByteArray} {L : List S26} (h : impl_IntItem.f k a = some (t, x, L)) : L = [] := by
 simp only [impl_IntItem.f] at h
 replace h := Option.bind_eq_some_iff.mp h
 obtain ⟨b, _, h⟩ := h
 have j : ∀ x0, impl_IntItem.j0 k x0 = some (t, x, L) → L = [] := fun x0 h => by
  cases k with
  | zero => simp [impl_IntItem.j0] at h
  | succ k =>
   simp only [impl_IntItem.j0] at h
   exact impl_IntItem.l0_nil k _ _ _ h
 split at h
 ·exact j _ h
 ·exact j _ h
set_option maxHeartbeats 8000000 in
set_option maxRecDepth 100000 in
theorem impl_BodyItem.core (k : Nat) (a0 a3 a4 a7 a8 : Int) (a1 a2 a5 a12 : ByteArray) (a6 : Bool) (A9 : Option Addr) (c9 : Nat) (l9 : List Int) (A10 : Option Addr) (c10 : Nat) (l10 : List ByteArray) (A11 : Option Addr) (c11 : Nat) (l11 : List ByteArray) (t0 t1 t2 t3 t4 t5 t6 t7 t8 t9 t10 t11 : Int) (x0 x1 x2 x3 x4 x5 x6 x7 x8 x9 x10 x11 : ByteArray) (L9 L10 L11 : List S26) (tT tL : Int) (xT xL : ByteArray) (LT LL : List S26) (w : World) (hr9 : Kd.C (Kd.int .i64) w A9 l9.length l9) (hc9 : l9.length ≤ c9) (hr10 : Kd.C Kd.string w A10 l10.length l10) (hc10 : l10.length ≤ c10) (hr11 : Kd.C Kd.string w A11 l11.length l11) (hc11 : l11.length ≤ c11) (e3 : impl_IntItem.f k a3 = some (t3, x3, [])) (e4 : impl_IntItem.f k a4 = some (t4, x4, [])) (e0 : impl_IntItem.f k a0 = some (t0, x0, [])) (e1 : impl_TextItem.f a1 = some (t1, x1, [])) (e2 : impl_TextItem.f a2 = some (t2, x2, [])) (e5 : impl_bytesItem.f a5 = some (t5, x5, [])) (e6 : impl_boolItem.f a6 = some (t6, x6, [])) (e7 : impl_IntItem.f k a7 = some (t7, x7, [])) (e8 : impl_IntItem.f k a8 = some (t8, x8, [])) (e9 : impl_each_int.f k l9 0 = some (t9, x9, L9)) (e10 : impl_each_string.f k l10 0 = some (t10, x10, L10)) (e11 : impl_each_string.f k l11 0 = some (t11, x11, L11)) (eT : impl_ListItem.f k [(⟨t3, x3, []⟩ : S26), (⟨t4, x4, []⟩ : S26)] = some (tT, xT, LT)) (eL : impl_ListItem.f k [(⟨t0, x0, []⟩ : S26), (⟨t1, x1, []⟩ : S26), (⟨tT, xT, LT⟩ : S26), (⟨t2, x2, []⟩ : S26), (⟨t5, x5, []⟩ : S26), (⟨t6, x6, []⟩ : S26), (⟨t7, x7, []⟩ : S26), (⟨t8, x8, []⟩ : S26), (⟨t9, x9, L9⟩ : S26), (⟨t10, x10, L10⟩ : S26), (⟨t11, x11, L11⟩ : S26)] = some (tL, xL, LL)) :
  Calls Try.prog 32 #[.agg #[.int .i64 a0, .string a1, .string a2, .int .i64 a3, .int .i64 a4, .string a5, .bool a6, .int .i64 a7, .int .i64 a8, .slice A9 l9.length c9, .slice A10 l10.length c10, .slice A11 l11.length c11, .string a12]] w fun e w' => ∃ v : Value, e = .returned (.agg #[.int .i64 tL, .string xL, v]) ∧ Kd.R k26 26 w' w.heap.size (fun _ => True) v LL ∧ Below w.heap.size w w' := by
 have hu52 := Try.underlying52
 have hu26 := Try.underlying26
 have HR9 := Aside0.mk hr9
 have HC9 := Aside0.mk hc9
 have HR10 := Aside0.mk hr10
 have HC10 := Aside0.mk hc10
 have HR11 := Aside0.mk hr11
 have HC11 := Aside0.mk hc11
 have E0 := Aside0.mk e0
 have E1 := Aside0.mk e1
 have E2 := Aside0.mk e2
 have E3 := Aside0.mk e3
 have E4 := Aside0.mk e4
 have E5 := Aside0.mk e5
 have E6 := Aside0.mk e6
 have E7 := Aside0.mk e7
 have E8 := Aside0.mk e8
 have E9 := Aside0.mk e9
 have E10 := Aside0.mk e10
 have E11 := Aside0.mk e11
 have ET := Aside0.mk eT
 have EL := Aside0.mk eL
 clear hr9 hc9 hr10 hc10 hr11 hc11 e0 e1 e2 e3 e4 e5 e6 e7 e8 e9 e10 e11 eT eL
 go_enter Try.func32, Try.ntmps32
 go_upto_region 1 with (first | ((with_reducible refine gate_dst (N := 1) rfl ?_); refine box_event ?hg (N := 1) ?hd (cs := #[.int .i64 a0, .string a1, .string a2, .int .i64 a3, .int .i64 a4, .string a5, .bool a6, .int .i64 a7, .int .i64 a8, .slice A9 l9.length c9, .slice A10 l10.length c10, .slice A11 l11.length c11, .string a12]) (t := 52) ?hr ?_; (case hd => rfl); (case hg => rfl); (case hr => first | (go_simp; done) | (go_simp; rfl)); intro g1 hg w1 hbox hb; have HC := Aside0.mk hbox; have HB := Aside0.mk hb; have HG := Aside0.mk (Nat.le_of_eq hg.symm); clear hbox hb hg) | ((with_reducible refine gate_dst (N := 2) rfl ?_); refine box_event ?hg (N := 2) ?hd (cs := #[.int .i64 0, .string (⟨#[]⟩ : ByteArray), .slice none 0 0]) (t := 26) ?hr ?_; (case hd => rfl); (case hg => rfl); (case hr => first | (go_simp; done) | (go_simp; rfl)); intro g2 hg w2 hbox hb; have HS := Aside0.mk (show BS w w2 g1 g2 #[.int .i64 a0, .string a1, .string a2, .int .i64 a3, .int .i64 a4, .string a5, .bool a6, .int .i64 a7, .int .i64 a8, .slice A9 l9.length c9, .slice A10 l10.length c10, .slice A11 l11.length c11, .string a12] #[.int .i64 0, .string (⟨#[]⟩ : ByteArray), .slice none 0 0] from ⟨below_step HB.out hb, blk_below HC.out hb, hbox, HG.out, by rw [hg]; exact blk_lt HC.out⟩); clear hbox hb hg))
 clear HC HB HG
 (try simp only [Act.put, List.setIfInBounds_toArray, List.set_cons_zero, List.set_cons_succ])
 replace HS := Aside0.mk HS.out.drew
 refine start_ (n := 10) (S := fun _ => True) (ds := []) #[false, false, false, false, false, false, false, false, false, false] (by kernel_rfl) rfl rfl trivial (fun _ => ?_); refine with_tabW impl_BodyItem.tab1 impl_BodyItem.bits1 (fun HT_ HW_ => ?_)
 generalize w2.drew = w3 at HS ⊢
 refine pure_ (i := 0) (N := some 4) (v := ?_) (a' := ?_) #[true, false, false, false, false, false, false, false, false, false] rfl rfl (any_of HT_.out (by kernel_rfl)) (fun _ _ _ h => h) (Or.inl ⟨by rfl, ?_⟩) ?_ ?_
 rotate_left
 ·intro w'
  go_simp
  with_reducible rfl
 rotate_left
 ·simp only [Act.put, List.setIfInBounds_toArray, List.set_cons_zero, List.set_cons_succ, i64_w, i32_w]
  rfl
 refine pure_ (i := 3) (N := some 7) (v := ?_) (a' := ?_) #[true, false, false, true, false, false, false, false, false, false] rfl rfl (any_of HT_.out (by kernel_rfl)) (fun _ _ _ h => h) (Or.inl ⟨by rfl, ?_⟩) ?_ ?_
 rotate_left
 ·intro w'
  go_simp
  with_reducible rfl
 rotate_left
 ·simp only [Act.put, List.setIfInBounds_toArray, List.set_cons_zero, List.set_cons_succ, i64_w, i32_w]
  rfl
 refine inv_at [1, 2, 4, 5, 6, 7, 8, 9] (fun a0_ b a w' => ∃ (A6 : Option Addr) (c6 : Nat) (B6 : Option Addr) (d6 : Nat) (g10 : Nat) (v11 : Value) (g3 : Nat), a = putSel a0_ b [(1, 5, .int .i64 a3), (2, 6, .agg #[.int .i64 t3, .string x3, .slice A6 0 c6]), (4, 8, .int .i64 a4), (5, 9, .agg #[.int .i64 t4, .string x4, .slice B6 0 d6]), (6, 10, .slice (some ⟨g10, 0, none⟩) 2 2), (7, 11, .agg #[.int .i64 tT, .string xT, v11]), (8, 3, .pointer (some ⟨g3, 0, none⟩))] ∧ BS w w' g1 g2 #[.int .i64 a0, .string a1, .string a2, .int .i64 a3, .int .i64 a4, .string a5, .bool a6, .int .i64 a7, .int .i64 a8, .slice A9 l9.length c9, .slice A10 l10.length c10, .slice A11 l11.length c11, .string a12] #[.int .i64 0, .string (⟨#[]⟩ : ByteArray), .slice none 0 0] ∧ (b 6 = true → g2 < g10 ∧ w'.heap[g10]? = some (.cells #[.int .i64 t3, .string x3, .slice A6 0 c6, .int .i64 t4, .string x4, .slice B6 0 d6] 26 (0, 0))) ∧ (b 8 = true → g2 < g3 ∧ (b 9 = false → w'.heap[g3]? = some (.cells #[.int .i64 0, .string (⟨#[]⟩ : ByteArray), .slice none 0 0] 26 (0, 0)))) ∧ (b 6 = true → b 8 = true → g10 ≠ g3) ∧ (b 7 = true → Kd.R k26 26 w' w.heap.size (fun k_ => (w.heap.size ≤ k_ ∧ k_ ≠ g2) ∧ (b 8 = true → k_ ≠ g3)) v11 LT) ∧ (b 9 = true → w'.heap[g3]? = some (.cells #[.int .i64 tT, .string xT, v11] 26 (0, 0)))) HT_.out HW_.out (by kernel_rfl) (by kernel_rfl) ?_ ?_ ?_
 ·exact ⟨none, 0, none, 0, 0, undef, 0, by simp only [putSel, Bool.false_eq_true, if_false], HS.out, fun h_ => absurd h_ (by decide), fun h_ => absurd h_ (by decide), fun h_ => absurd h_ (by decide), fun h_ => absurd h_ (by decide), fun h_ => absurd h_ (by decide)⟩
 ·clear HS
  refine steps_cons ?_ ?_
  ·rintro b a w' ⟨A6, c6, B6, d6, g10, v11, g3, ha, QS, Q10, Q3, QN, Q11, QX⟩ hb_ hon hoff
   refine ⟨_, rfl, fun K hK => ?_⟩
   have e4 : a.tmps[4]? = some (.pointer (some ⟨g1, 3, none⟩)) := by rw [ha]; exact (putSel_off rfl).trans rfl
   replace ha := Aside0.mk ha
   have s_ : w'.cell? ⟨g1, 3, none⟩ = some (.int .i64 a3) := (blk_cell QS.c1 3).trans rfl
   refine value_ (w1 := w') (v := .int .i64 a3) (by rfl) rfl ?_ ?_
   ·go_simp
    try rfl
   exact hK.out _ _ ⟨A6, c6, B6, d6, g10, v11, g3, (by rw [ha.out]; exact putSel_upk 0 hb_ rfl rfl rfl), QS, Q10, Q3, QN, Q11, QX⟩
  refine steps_cons ?_ ?_
  ·rintro b a w' ⟨A6, c6, B6, d6, g10, v11, g3, ha, QS, Q10, Q3, QN, Q11, QX⟩ hb_ hon hoff
   refine ⟨_, rfl, fun K hK => ?_⟩
   have e5 : a.tmps[5]? = some (.int .i64 a3) := by rw [ha]; exact putSel_on (e := (1, 5, .int .i64 a3)) 0 rfl rfl (hon 1 (by kernel_rfl)) rfl
   replace ha := Aside0.mk ha
   refine goes_ Try.func67 (by kernel_rfl) rfl #[.int .i64 a3] (by rfl) rfl rfl (by first | (simp only [List.map_toArray, List.map_cons, List.map_nil, Act.eval, Array.getD_eq_getD_getElem?, Option.getD_some, e5]; done) | (simp only [List.map_toArray, List.map_cons, List.map_nil, Act.eval, Array.getD_eq_getD_getElem?, Option.getD_some, e5]; rfl)) ?_
   with_reducible refine (impl_IntItem.calls k a3 t3 x3 [] _ E3.out).mono ?_
   rintro e w4 ⟨v, rfl, ho, hb⟩
   refine ⟨_, rfl, ?_⟩
   obtain ⟨A_, c_, ev⟩ := Kd.R_slice ho
   subst ev
   exact hK.out _ _ ⟨A_, c_, B6, d6, g10, v11, g3, (by rw [ha.out]; exact putSel_upk 1 hb_ rfl rfl rfl), QS.below hb, fun h => (up_of (hoff 6 (by kernel_rfl)) (by decide) h).elim, fun h => ⟨(Q3 h).1, fun h9 => blk_below ((Q3 h).2 h9) hb⟩, fun h => (up_of (hoff 6 (by kernel_rfl)) (by decide) h).elim, fun h => Kd.R_below (Q11 h) hb, fun h => blk_below (QX h) hb⟩
  refine steps_cons ?_ ?_
  ·rintro b a w' ⟨A6, c6, B6, d6, g10, v11, g3, ha, QS, Q10, Q3, QN, Q11, QX⟩ hb_ hon hoff
   refine ⟨_, rfl, fun K hK => ?_⟩
   have e7 : a.tmps[7]? = some (.pointer (some ⟨g1, 4, none⟩)) := by rw [ha]; exact (putSel_off rfl).trans rfl
   replace ha := Aside0.mk ha
   have s_ : w'.cell? ⟨g1, 4, none⟩ = some (.int .i64 a4) := (blk_cell QS.c1 4).trans rfl
   refine value_ (w1 := w') (v := .int .i64 a4) (by rfl) rfl ?_ ?_
   ·go_simp
    try rfl
   exact hK.out _ _ ⟨A6, c6, B6, d6, g10, v11, g3, (by rw [ha.out]; exact putSel_upk 2 hb_ rfl rfl rfl), QS, Q10, Q3, QN, Q11, QX⟩
  refine steps_cons ?_ ?_
  ·rintro b a w' ⟨A6, c6, B6, d6, g10, v11, g3, ha, QS, Q10, Q3, QN, Q11, QX⟩ hb_ hon hoff
   refine ⟨_, rfl, fun K hK => ?_⟩
   have e8 : a.tmps[8]? = some (.int .i64 a4) := by rw [ha]; exact putSel_on (e := (4, 8, .int .i64 a4)) 2 rfl rfl (hon 4 (by kernel_rfl)) rfl
   replace ha := Aside0.mk ha
   refine goes_ Try.func67 (by kernel_rfl) rfl #[.int .i64 a4] (by rfl) rfl rfl (by first | (simp only [List.map_toArray, List.map_cons, List.map_nil, Act.eval, Array.getD_eq_getD_getElem?, Option.getD_some, e8]; done) | (simp only [List.map_toArray, List.map_cons, List.map_nil, Act.eval, Array.getD_eq_getD_getElem?, Option.getD_some, e8]; rfl)) ?_
   with_reducible refine (impl_IntItem.calls k a4 t4 x4 [] _ E4.out).mono ?_
   rintro e w4 ⟨v, rfl, ho, hb⟩
   refine ⟨_, rfl, ?_⟩
   obtain ⟨A_, c_, ev⟩ := Kd.R_slice ho
   subst ev
   exact hK.out _ _ ⟨A6, c6, A_, c_, g10, v11, g3, (by rw [ha.out]; exact putSel_upk 3 hb_ rfl rfl rfl), QS.below hb, fun h => (up_of (hoff 6 (by kernel_rfl)) (by decide) h).elim, fun h => ⟨(Q3 h).1, fun h9 => blk_below ((Q3 h).2 h9) hb⟩, fun h => (up_of (hoff 6 (by kernel_rfl)) (by decide) h).elim, fun h => Kd.R_below (Q11 h) hb, fun h => blk_below (QX h) hb⟩
  refine steps_cons ?_ ?_
  ·rintro b a w' ⟨A6, c6, B6, d6, g10, v11, g3, ha, QS, Q10, Q3, QN, Q11, QX⟩ hb_ hon hoff
   refine ⟨_, rfl, fun K hK => ?_⟩
   have e6 : a.tmps[6]? = some (.agg #[.int .i64 t3, .string x3, .slice A6 0 c6]) := by rw [ha]; exact putSel_on (e := (2, 6, .agg #[.int .i64 t3, .string x3, .slice A6 0 c6])) 1 rfl rfl (hon 2 (by kernel_rfl)) rfl
   have e9 : a.tmps[9]? = some (.agg #[.int .i64 t4, .string x4, .slice B6 0 d6]) := by rw [ha]; exact putSel_on (e := (5, 9, .agg #[.int .i64 t4, .string x4, .slice B6 0 d6])) 3 rfl rfl (hon 5 (by kernel_rfl)) rfl
   replace ha := Aside0.mk ha
   have hb := below_alloc (Below.refl w'.heap.size w') (.cells #[.int .i64 t3, .string x3, .slice A6 0 c6, .int .i64 t4, .string x4, .slice B6 0 d6] 26)
   refine value_ (w1 := w'.alloc (.cells #[.int .i64 t3, .string x3, .slice A6 0 c6, .int .i64 t4, .string x4, .slice B6 0 d6] 26)) (v := .slice (some ⟨w'.heap.size, 0, none⟩) 2 2) (by rfl) rfl ?_ ?_
   ·go_simp
    try rfl
   exact hK.out _ _ ⟨A6, c6, B6, d6, w'.heap.size, v11, g3, (by rw [ha.out]; exact putSel_upk 4 hb_ rfl rfl rfl), QS.below hb, fun _ => ⟨QS.lt2, heap_alloc_new w' _⟩, fun h => ⟨(Q3 h).1, fun h9 => blk_below ((Q3 h).2 (hoff 9 (by kernel_rfl))) hb⟩, fun _ h8 => Nat.ne_of_gt (by have h9 := hoff 9 (by kernel_rfl); exact blk_lt ((Q3 h8).2 h9)), fun h => Kd.R_below (Q11 h) hb, fun h => (up_of (hoff 9 (by kernel_rfl)) (by decide) h).elim⟩
  refine steps_cons ?_ ?_
  ·rintro b a w' ⟨A6, c6, B6, d6, g10, v11, g3, ha, QS, Q10, Q3, QN, Q11, QX⟩ hb_ hon hoff
   refine ⟨_, rfl, fun K hK => ?_⟩
   have e10 : a.tmps[10]? = some (.slice (some ⟨g10, 0, none⟩) 2 2) := by rw [ha]; exact putSel_on (e := (6, 10, .slice (some ⟨g10, 0, none⟩) 2 2)) 4 rfl rfl (hon 6 (by kernel_rfl)) rfl
   replace ha := Aside0.mk ha
   have HC_ : Kd.C k26 w' (some ⟨g10, 0, none⟩) 2 [(⟨t3, x3, []⟩ : S26), (⟨t4, x4, []⟩ : S26)] := built_C (L := [(⟨t3, x3, []⟩ : S26), (⟨t4, x4, []⟩ : S26)]) (inner := [.int .i64 t3, .string x3, .slice A6 0 c6, .int .i64 t4, .string x4, .slice B6 0 d6]) (Q10 (hon 6 (by kernel_rfl))).2 (reps3 (leaf_K w' t3 x3 A6 c6) (reps3 (leaf_K w' t4 x4 B6 d6) (Reps.none _ _))) (by simp only [List.length_cons, List.length_nil]; omega)
   refine goes_ Try.func23 (by kernel_rfl) rfl #[.slice (some ⟨g10, 0, none⟩) 2 2] (by rfl) rfl rfl (by first | (simp only [List.map_toArray, List.map_cons, List.map_nil, Act.eval, Array.getD_eq_getD_getElem?, Option.getD_some, e10]; done) | (simp only [List.map_toArray, List.map_cons, List.map_nil, Act.eval, Array.getD_eq_getD_getElem?, Option.getD_some, e10]; rfl)) ?_
   have hc_ := impl_ListItem.calls k (some ⟨g10, 0, none⟩) 2 [(⟨t3, x3, []⟩ : S26), (⟨t4, x4, []⟩ : S26)] tT xT LT w' HC_ (Nat.le_refl 2) ET.out
   refine hc_.mono ?_
   rintro e w4 ⟨v, rfl, ho, hb⟩
   refine ⟨_, rfl, ?_⟩
   exact hK.out _ _ ⟨A6, c6, B6, d6, g10, v, g3, (by rw [ha.out]; exact putSel_upk 5 hb_ rfl rfl rfl), QS.below hb, fun h => ⟨(Q10 h).1, blk_below (Q10 h).2 hb⟩, fun h => ⟨(Q3 h).1, fun h9 => blk_below ((Q3 h).2 h9) hb⟩, QN, fun _ => Kd.R_lower (Kd.R_mono (Kd.R_bound ho) (fun k_ hk => ⟨⟨Nat.le_trans QS.bel.size hk.2.1, Nat.ne_of_gt (Nat.lt_of_lt_of_le QS.lt2 hk.2.1)⟩, fun h8 => Nat.ne_of_gt (Nat.lt_of_lt_of_le (blk_lt ((Q3 h8).2 (hoff 9 (by kernel_rfl)))) hk.2.1)⟩)) QS.bel.size, fun h => (up_of (hoff 9 (by kernel_rfl)) (by decide) h).elim⟩
  refine steps_cons ?_ ?_
  ·rintro b a w' ⟨A6, c6, B6, d6, g10, v11, g3, ha, QS, Q10, Q3, QN, Q11, QX⟩ hb_ hon hoff
   refine ⟨_, rfl, fun K hK => ?_⟩
   have hb := below_alloc (Below.refl w'.heap.size w') (.cells #[.int .i64 0, .string (⟨#[]⟩ : ByteArray), .slice none 0 0] 26)
   replace ha := Aside0.mk ha
   refine value_ (w1 := w'.alloc (.cells #[.int .i64 0, .string (⟨#[]⟩ : ByteArray), .slice none 0 0] 26)) (v := .pointer (some ⟨w'.heap.size, 0, none⟩)) (by rfl) rfl ?_ ?_
   ·go_simp
    try rfl
   exact hK.out _ _ ⟨A6, c6, B6, d6, g10, v11, w'.heap.size, (by rw [ha.out]; exact putSel_upk 6 hb_ rfl rfl rfl), QS.below hb, fun h => ⟨(Q10 h).1, blk_below (Q10 h).2 hb⟩, fun _ => ⟨QS.lt2, fun _ => heap_alloc_new w' _⟩, fun h6 _ => Nat.ne_of_lt (blk_lt (Q10 h6).2), fun h => Kd.R_mono (Kd.R_below (Kd.R_bound (Q11 h)) hb) (fun k_ hk => ⟨hk.1.1, fun _ => Nat.ne_of_lt hk.2.2.1⟩), fun h => (up_of (hoff 9 (by kernel_rfl)) (by decide) h).elim⟩
  refine steps_cons ?_ ?_
  ·rintro b a w' ⟨A6, c6, B6, d6, g10, v11, g3, ha, QS, Q10, Q3, QN, Q11, QX⟩ hb_ hon hoff
   refine ⟨_, rfl, fun K hK => ?_⟩
   have e3 : a.tmps[3]? = some (.pointer (some ⟨g3, 0, none⟩)) := by rw [ha]; exact putSel_on (e := (8, 3, .pointer (some ⟨g3, 0, none⟩))) 6 rfl rfl (hon 8 (by kernel_rfl)) rfl
   have e11 : a.tmps[11]? = some (.agg #[.int .i64 tT, .string xT, v11]) := by rw [ha]; exact putSel_on (e := (7, 11, .agg #[.int .i64 tT, .string xT, v11])) 5 rfl rfl (hon 7 (by kernel_rfl)) rfl
   replace ha := Aside0.mk ha
   have h3 := Q3 (hon 8 (by kernel_rfl))
   obtain ⟨A_, c_, ev⟩ := Kd.R_slice (Q11 (hon 7 (by kernel_rfl)))
   subst ev
   have hrun := lk_store_run w' g3 _ (h3.2 hb_) rfl tT xT (.slice A_ LT.length c_) rfl
   refine skip_ (w1 := w'.setRow g3 #[.int .i64 tT, .string xT, .slice A_ LT.length c_]) (by rfl) rfl ?_ ?_
   ·simp [execOp, Act.eval, e3, e11, hrun, Result.andThen]
   exact hK.out _ _ ⟨A6, c6, B6, d6, g10, _, g3, (by rw [ha.out]; exact putSel_none (v := undef) rfl), QS.row h3.1 _, fun h => ⟨(Q10 h).1, (setRow_other _ g3 g10 _ (QN h (hon 8 (by kernel_rfl)))).trans (Q10 h).2⟩, fun h => ⟨h3.1, fun h9 => absurd ((up_self b 9).symm.trans h9) (by decide)⟩, QN, fun h => Kd.R_step (Q11 h) (fun k_ hk _ => setRow_other _ g3 k_ _ (hk.2 (hon 8 (by kernel_rfl)))), fun _ => setRow_heap _ g3 _ _ 26 _ (h3.2 hb_)⟩
  exact steps_nil
 clear HS
 rintro b a w4 hall ⟨A6, c6, B6, d6, g10, v11, g3, ha, QS, Q10, Q3, QN, Q11, QX⟩
 have hb1_ := hall 1 (by kernel_rfl)
 have hb2_ := hall 2 (by kernel_rfl)
 have hb4_ := hall 4 (by kernel_rfl)
 have hb5_ := hall 5 (by kernel_rfl)
 have hb6_ := hall 6 (by kernel_rfl)
 have hb7_ := hall 7 (by kernel_rfl)
 have hb8_ := hall 8 (by kernel_rfl)
 have hb9_ := hall 9 (by kernel_rfl)
 subst ha
 simp only [putSel, hb1_, hb2_, hb4_, hb5_, hb6_, hb7_, hb8_, hb9_, if_true, Act.put, List.setIfInBounds_toArray, List.set_cons_zero, List.set_cons_succ]
 obtain ⟨AT, cT, ev⟩ := Kd.R_slice (Q11 hb7_)
 subst ev
 have HX := Aside0.mk (QX hb9_)
 have HVT := Aside0.mk (Kd.R_mono (Q11 hb7_) (fun _ hk => hk.1))
 have HS := Aside0.mk QS
 have HN3 := Aside0.mk (Q3 hb8_).1
 clear hall HT_ HW_ hb1_ hb2_ hb4_ hb5_ hb6_ hb7_ hb8_ hb9_ QS Q10 Q3 QN Q11 QX
 replace HS := Aside0.mk HS.out.drew
 replace HX := Aside0.mk (blk_drew HX.out)
 replace HVT := Aside0.mk (Kd.R_drew HVT.out)
 try go_wp2
 refine start_ (n := 34) (S := fun w' => w'.heap[g1]? = some (.cells #[.int .i64 a0, .string a1, .string a2, .int .i64 a3, .int .i64 a4, .string a5, .bool a6, .int .i64 a7, .int .i64 a8, .slice A9 l9.length c9, .slice A10 l10.length c10, .slice A11 l11.length c11, .string a12] 52 (0, 0)) ∧ w'.heap[g3]? = some (.cells #[.int .i64 tT, .string xT, .slice AT LT.length cT] 26 (0, 0))) (ds := [33]) #[false, false, false, false, false, false, false, false, false, false, false, false, false, false, false, false, false, false, false, false, false, false, false, false, false, false, false, false, false, false, false, false, false, false] (by kernel_rfl) rfl rfl ⟨HS.out.c1, HX.out⟩ (fun hHeld => ?_); refine with_tabW impl_BodyItem.tab2 impl_BodyItem.bits2 (fun HT_ HW_ => ?_)
 generalize w4.drew = w5 at HS HX HVT hHeld ⊢
 refine pure_ (i := 0) (N := some 12) (v := ?_) (a' := ?_) #[true, false, false, false, false, false, false, false, false, false, false, false, false, false, false, false, false, false, false, false, false, false, false, false, false, false, false, false, false, false, false, false, false, false] rfl rfl (any_of HT_.out (by kernel_rfl)) (fun _ _ _ h => h) (Or.inl ⟨by rfl, ?_⟩) ?_ ?_
 rotate_left
 ·intro w'
  go_simp
  with_reducible rfl
 rotate_left
 ·simp only [Act.put, List.setIfInBounds_toArray, List.set_cons_zero, List.set_cons_succ, i64_w, i32_w]
  rfl
 refine pure_ (i := 3) (N := some 15) (v := ?_) (a' := ?_) #[true, false, false, true, false, false, false, false, false, false, false, false, false, false, false, false, false, false, false, false, false, false, false, false, false, false, false, false, false, false, false, false, false, false] rfl rfl (any_of HT_.out (by kernel_rfl)) (fun _ _ _ h => h) (Or.inl ⟨by rfl, ?_⟩) ?_ ?_
 rotate_left
 ·intro w'
  go_simp
  with_reducible rfl
 rotate_left
 ·simp only [Act.put, List.setIfInBounds_toArray, List.set_cons_zero, List.set_cons_succ, i64_w, i32_w]
  rfl
 refine pure_ (i := 7) (N := some 19) (v := ?_) (a' := ?_) #[true, false, false, true, false, false, false, true, false, false, false, false, false, false, false, false, false, false, false, false, false, false, false, false, false, false, false, false, false, false, false, false, false, false] rfl rfl (any_of HT_.out (by kernel_rfl)) (fun _ _ _ h => h) (Or.inl ⟨by rfl, ?_⟩) ?_ ?_
 rotate_left
 ·intro w'
  go_simp
  with_reducible rfl
 rotate_left
 ·simp only [Act.put, List.setIfInBounds_toArray, List.set_cons_zero, List.set_cons_succ, i64_w, i32_w]
  rfl
 refine pure_ (i := 10) (N := some 22) (v := ?_) (a' := ?_) #[true, false, false, true, false, false, false, true, false, false, true, false, false, false, false, false, false, false, false, false, false, false, false, false, false, false, false, false, false, false, false, false, false, false] rfl rfl (any_of HT_.out (by kernel_rfl)) (fun _ _ _ h => h) (Or.inl ⟨by rfl, ?_⟩) ?_ ?_
 rotate_left
 ·intro w'
  go_simp
  with_reducible rfl
 rotate_left
 ·simp only [Act.put, List.setIfInBounds_toArray, List.set_cons_zero, List.set_cons_succ, i64_w, i32_w]
  rfl
 refine pure_ (i := 13) (N := some 25) (v := ?_) (a' := ?_) #[true, false, false, true, false, false, false, true, false, false, true, false, false, true, false, false, false, false, false, false, false, false, false, false, false, false, false, false, false, false, false, false, false, false] rfl rfl (any_of HT_.out (by kernel_rfl)) (fun _ _ _ h => h) (Or.inl ⟨by rfl, ?_⟩) ?_ ?_
 rotate_left
 ·intro w'
  go_simp
  with_reducible rfl
 rotate_left
 ·simp only [Act.put, List.setIfInBounds_toArray, List.set_cons_zero, List.set_cons_succ, i64_w, i32_w]
  rfl
 refine pure_ (i := 16) (N := some 28) (v := ?_) (a' := ?_) #[true, false, false, true, false, false, false, true, false, false, true, false, false, true, false, false, true, false, false, false, false, false, false, false, false, false, false, false, false, false, false, false, false, false] rfl rfl (any_of HT_.out (by kernel_rfl)) (fun _ _ _ h => h) (Or.inl ⟨by rfl, ?_⟩) ?_ ?_
 rotate_left
 ·intro w'
  go_simp
  with_reducible rfl
 rotate_left
 ·simp only [Act.put, List.setIfInBounds_toArray, List.set_cons_zero, List.set_cons_succ, i64_w, i32_w]
  rfl
 refine pure_ (i := 19) (N := some 31) (v := ?_) (a' := ?_) #[true, false, false, true, false, false, false, true, false, false, true, false, false, true, false, false, true, false, false, true, false, false, false, false, false, false, false, false, false, false, false, false, false, false] rfl rfl (any_of HT_.out (by kernel_rfl)) (fun _ _ _ h => h) (Or.inl ⟨by rfl, ?_⟩) ?_ ?_
 rotate_left
 ·intro w'
  go_simp
  with_reducible rfl
 rotate_left
 ·simp only [Act.put, List.setIfInBounds_toArray, List.set_cons_zero, List.set_cons_succ, i64_w, i32_w]
  rfl
 refine pure_ (i := 22) (N := some 34) (v := ?_) (a' := ?_) #[true, false, false, true, false, false, false, true, false, false, true, false, false, true, false, false, true, false, false, true, false, false, true, false, false, false, false, false, false, false, false, false, false, false] rfl rfl (any_of HT_.out (by kernel_rfl)) (fun _ _ _ h => h) (Or.inl ⟨by rfl, ?_⟩) ?_ ?_
 rotate_left
 ·intro w'
  go_simp
  with_reducible rfl
 rotate_left
 ·simp only [Act.put, List.setIfInBounds_toArray, List.set_cons_zero, List.set_cons_succ, i64_w, i32_w]
  rfl
 refine pure_ (i := 25) (N := some 37) (v := ?_) (a' := ?_) #[true, false, false, true, false, false, false, true, false, false, true, false, false, true, false, false, true, false, false, true, false, false, true, false, false, true, false, false, false, false, false, false, false, false] rfl rfl (any_of HT_.out (by kernel_rfl)) (fun _ _ _ h => h) (Or.inl ⟨by rfl, ?_⟩) ?_ ?_
 rotate_left
 ·intro w'
  go_simp
  with_reducible rfl
 rotate_left
 ·simp only [Act.put, List.setIfInBounds_toArray, List.set_cons_zero, List.set_cons_succ, i64_w, i32_w]
  rfl
 refine pure_ (i := 28) (N := some 40) (v := ?_) (a' := ?_) #[true, false, false, true, false, false, false, true, false, false, true, false, false, true, false, false, true, false, false, true, false, false, true, false, false, true, false, false, true, false, false, false, false, false] rfl rfl (any_of HT_.out (by kernel_rfl)) (fun _ _ _ h => h) (Or.inl ⟨by rfl, ?_⟩) ?_ ?_
 rotate_left
 ·intro w'
  go_simp
  with_reducible rfl
 rotate_left
 ·simp only [Act.put, List.setIfInBounds_toArray, List.set_cons_zero, List.set_cons_succ, i64_w, i32_w]
  rfl
 refine take_ (i := 1) (N := some 13) (v := ?_) (a' := ?_) #[true, true, false, true, false, false, false, true, false, false, true, false, false, true, false, false, true, false, false, true, false, false, true, false, false, true, false, false, true, false, false, false, false, false] rfl rfl (take_ofW HT_.out HW_.out (by kernel_rfl)) (fun _ _ _ h => h) (Or.inl ⟨by rfl, ?_⟩) hHeld ?_ ?_
 rotate_left
 ·rintro w' ⟨h1_, h3_⟩
  have s_ : w'.cell? ⟨g1, 0, none⟩ = some (.int .i64 a0) := (blk_cell h1_ 0).trans rfl
  clear h1_ h3_
  go_simp
  with_reducible rfl
 rotate_left
 ·simp only [Act.put, List.setIfInBounds_toArray, List.set_cons_zero, List.set_cons_succ, i64_w, i32_w]
  rfl
 refine take_ (i := 4) (N := some 16) (v := ?_) (a' := ?_) #[true, true, false, true, true, false, false, true, false, false, true, false, false, true, false, false, true, false, false, true, false, false, true, false, false, true, false, false, true, false, false, false, false, false] rfl rfl (take_ofW HT_.out HW_.out (by kernel_rfl)) (fun _ _ _ h => h) (Or.inl ⟨by rfl, ?_⟩) hHeld ?_ ?_
 rotate_left
 ·rintro w' ⟨h1_, h3_⟩
  have s_ : w'.cell? ⟨g1, 1, none⟩ = some (.string a1) := (blk_cell h1_ 1).trans rfl
  clear h1_ h3_
  go_simp
  with_reducible rfl
 rotate_left
 ·simp only [Act.put, List.setIfInBounds_toArray, List.set_cons_zero, List.set_cons_succ, i64_w, i32_w]
  rfl
 refine take_ (i := 8) (N := some 20) (v := ?_) (a' := ?_) #[true, true, false, true, true, false, false, true, true, false, true, false, false, true, false, false, true, false, false, true, false, false, true, false, false, true, false, false, true, false, false, false, false, false] rfl rfl (take_ofW HT_.out HW_.out (by kernel_rfl)) (fun _ _ _ h => h) (Or.inl ⟨by rfl, ?_⟩) hHeld ?_ ?_
 rotate_left
 ·rintro w' ⟨h1_, h3_⟩
  have s_ : w'.cell? ⟨g1, 2, none⟩ = some (.string a2) := (blk_cell h1_ 2).trans rfl
  clear h1_ h3_
  go_simp
  with_reducible rfl
 rotate_left
 ·simp only [Act.put, List.setIfInBounds_toArray, List.set_cons_zero, List.set_cons_succ, i64_w, i32_w]
  rfl
 refine take_ (i := 11) (N := some 23) (v := ?_) (a' := ?_) #[true, true, false, true, true, false, false, true, true, false, true, true, false, true, false, false, true, false, false, true, false, false, true, false, false, true, false, false, true, false, false, false, false, false] rfl rfl (take_ofW HT_.out HW_.out (by kernel_rfl)) (fun _ _ _ h => h) (Or.inl ⟨by rfl, ?_⟩) hHeld ?_ ?_
 rotate_left
 ·rintro w' ⟨h1_, h3_⟩
  have s_ : w'.cell? ⟨g1, 5, none⟩ = some (.string a5) := (blk_cell h1_ 5).trans rfl
  clear h1_ h3_
  go_simp
  with_reducible rfl
 rotate_left
 ·simp only [Act.put, List.setIfInBounds_toArray, List.set_cons_zero, List.set_cons_succ, i64_w, i32_w]
  rfl
 refine take_ (i := 14) (N := some 26) (v := ?_) (a' := ?_) #[true, true, false, true, true, false, false, true, true, false, true, true, false, true, true, false, true, false, false, true, false, false, true, false, false, true, false, false, true, false, false, false, false, false] rfl rfl (take_ofW HT_.out HW_.out (by kernel_rfl)) (fun _ _ _ h => h) (Or.inl ⟨by rfl, ?_⟩) hHeld ?_ ?_
 rotate_left
 ·rintro w' ⟨h1_, h3_⟩
  have s_ : w'.cell? ⟨g1, 6, none⟩ = some (.bool a6) := (blk_cell h1_ 6).trans rfl
  clear h1_ h3_
  go_simp
  with_reducible rfl
 rotate_left
 ·simp only [Act.put, List.setIfInBounds_toArray, List.set_cons_zero, List.set_cons_succ, i64_w, i32_w]
  rfl
 refine take_ (i := 17) (N := some 29) (v := ?_) (a' := ?_) #[true, true, false, true, true, false, false, true, true, false, true, true, false, true, true, false, true, true, false, true, false, false, true, false, false, true, false, false, true, false, false, false, false, false] rfl rfl (take_ofW HT_.out HW_.out (by kernel_rfl)) (fun _ _ _ h => h) (Or.inl ⟨by rfl, ?_⟩) hHeld ?_ ?_
 rotate_left
 ·rintro w' ⟨h1_, h3_⟩
  have s_ : w'.cell? ⟨g1, 7, none⟩ = some (.int .i64 a7) := (blk_cell h1_ 7).trans rfl
  clear h1_ h3_
  go_simp
  with_reducible rfl
 rotate_left
 ·simp only [Act.put, List.setIfInBounds_toArray, List.set_cons_zero, List.set_cons_succ, i64_w, i32_w]
  rfl
 refine take_ (i := 20) (N := some 32) (v := ?_) (a' := ?_) #[true, true, false, true, true, false, false, true, true, false, true, true, false, true, true, false, true, true, false, true, true, false, true, false, false, true, false, false, true, false, false, false, false, false] rfl rfl (take_ofW HT_.out HW_.out (by kernel_rfl)) (fun _ _ _ h => h) (Or.inl ⟨by rfl, ?_⟩) hHeld ?_ ?_
 rotate_left
 ·rintro w' ⟨h1_, h3_⟩
  have s_ : w'.cell? ⟨g1, 8, none⟩ = some (.int .i64 a8) := (blk_cell h1_ 8).trans rfl
  clear h1_ h3_
  go_simp
  with_reducible rfl
 rotate_left
 ·simp only [Act.put, List.setIfInBounds_toArray, List.set_cons_zero, List.set_cons_succ, i64_w, i32_w]
  rfl
 refine take_ (i := 23) (N := some 35) (v := ?_) (a' := ?_) #[true, true, false, true, true, false, false, true, true, false, true, true, false, true, true, false, true, true, false, true, true, false, true, true, false, true, false, false, true, false, false, false, false, false] rfl rfl (take_ofW HT_.out HW_.out (by kernel_rfl)) (fun _ _ _ h => h) (Or.inl ⟨by rfl, ?_⟩) hHeld ?_ ?_
 rotate_left
 ·rintro w' ⟨h1_, h3_⟩
  have s_ : w'.cell? ⟨g1, 9, none⟩ = some (.slice A9 l9.length c9) := (blk_cell h1_ 9).trans rfl
  clear h1_ h3_
  go_simp
  with_reducible rfl
 rotate_left
 ·simp only [Act.put, List.setIfInBounds_toArray, List.set_cons_zero, List.set_cons_succ, i64_w, i32_w]
  rfl
 refine take_ (i := 26) (N := some 38) (v := ?_) (a' := ?_) #[true, true, false, true, true, false, false, true, true, false, true, true, false, true, true, false, true, true, false, true, true, false, true, true, false, true, true, false, true, false, false, false, false, false] rfl rfl (take_ofW HT_.out HW_.out (by kernel_rfl)) (fun _ _ _ h => h) (Or.inl ⟨by rfl, ?_⟩) hHeld ?_ ?_
 rotate_left
 ·rintro w' ⟨h1_, h3_⟩
  have s_ : w'.cell? ⟨g1, 10, none⟩ = some (.slice A10 l10.length c10) := (blk_cell h1_ 10).trans rfl
  clear h1_ h3_
  go_simp
  with_reducible rfl
 rotate_left
 ·simp only [Act.put, List.setIfInBounds_toArray, List.set_cons_zero, List.set_cons_succ, i64_w, i32_w]
  rfl
 refine take_ (i := 29) (N := some 41) (v := ?_) (a' := ?_) #[true, true, false, true, true, false, false, true, true, false, true, true, false, true, true, false, true, true, false, true, true, false, true, true, false, true, true, false, true, true, false, false, false, false] rfl rfl (take_ofW HT_.out HW_.out (by kernel_rfl)) (fun _ _ _ h => h) (Or.inl ⟨by rfl, ?_⟩) hHeld ?_ ?_
 rotate_left
 ·rintro w' ⟨h1_, h3_⟩
  have s_ : w'.cell? ⟨g1, 11, none⟩ = some (.slice A11 l11.length c11) := (blk_cell h1_ 11).trans rfl
  clear h1_ h3_
  go_simp
  with_reducible rfl
 rotate_left
 ·simp only [Act.put, List.setIfInBounds_toArray, List.set_cons_zero, List.set_cons_succ, i64_w, i32_w]
  rfl
 refine take_ (i := 6) (N := some 18) (v := ?_) (a' := ?_) #[true, true, false, true, true, false, true, true, true, false, true, true, false, true, true, false, true, true, false, true, true, false, true, true, false, true, true, false, true, true, false, false, false, false] rfl rfl (take_ofW HT_.out HW_.out (by kernel_rfl)) (fun _ _ _ h => h) (Or.inl ⟨by rfl, ?_⟩) hHeld ?_ ?_
 rotate_left
 ·rintro w' ⟨h1_, h3_⟩
  have s0_ : w'.cell? ⟨g3, 0, none⟩ = some (.int .i64 tT) := (blk_cell h3_ 0).trans rfl
  have s1_ : w'.cell? ⟨g3, 1, none⟩ = some (.string xT) := (blk_cell h3_ 1).trans rfl
  have s2_ : w'.cell? ⟨g3, 2, none⟩ = some (.slice AT LT.length cT) := (blk_cell h3_ 2).trans rfl
  clear h1_ h3_
  go_simp
  with_reducible rfl
 rotate_left
 ·simp only [Act.put, List.setIfInBounds_toArray, List.set_cons_zero, List.set_cons_succ, i64_w, i32_w]
  rfl
 refine one_ (i := 2) (N := some 14) #[true, true, true, true, true, false, true, true, true, false, true, true, false, true, true, false, true, true, false, true, true, false, true, true, false, true, true, false, true, true, false, false, false, false] rfl rfl (one_of HT_.out (by kernel_rfl)) (by decide) (fun K hK => ?_)
 refine goes_ Try.func67 (by kernel_rfl) rfl #[.int .i64 a0] (by rfl) rfl rfl (by (try simp only [List.map_toArray, List.map_cons, List.map_nil]); first | done | rfl) ?_
 with_reducible refine (impl_IntItem.calls k a0 t0 x0 [] _ E0.out).mono ?_
 rintro e w6 ⟨v, rfl, ho, hb⟩
 refine ⟨_, rfl, ?_⟩
 replace HS := Aside0.mk (HS.out.below hb)
 replace HX := Aside0.mk (blk_below HX.out hb)
 replace HVT := Aside0.mk (Kd.R_below HVT.out hb)
 obtain ⟨D2, d2, ev⟩ := Kd.R_slice ho
 subst ev
 clear ho hb
 refine hK.out _ _ ⟨HS.out.c1, HX.out⟩ (fun hHeld => ?_)
 clear hK K
 refine norm_ (a' := ?_) ?_ ?_
 rotate_left
 ·show Act.put _ (some 14) _ = _
  simp only [Act.put, List.setIfInBounds_toArray, List.set_cons_zero, List.set_cons_succ, i64_w, i32_w]
  rfl
 refine one_ (i := 5) (N := some 17) #[true, true, true, true, true, true, true, true, true, false, true, true, false, true, true, false, true, true, false, true, true, false, true, true, false, true, true, false, true, true, false, false, false, false] rfl rfl (one_of HT_.out (by kernel_rfl)) (by decide) (fun K hK => ?_)
 refine goes_ Try.func68 (by kernel_rfl) rfl #[.string a1] (by rfl) rfl rfl (by (try simp only [List.map_toArray, List.map_cons, List.map_nil]); first | done | rfl) ?_
 with_reducible refine (impl_TextItem.calls a1 t1 x1 [] _ E1.out).mono ?_
 rintro e w7 ⟨v, rfl, ho, hb⟩
 refine ⟨_, rfl, ?_⟩
 replace HS := Aside0.mk (HS.out.below hb)
 replace HX := Aside0.mk (blk_below HX.out hb)
 replace HVT := Aside0.mk (Kd.R_below HVT.out hb)
 obtain ⟨D5, d5, ev⟩ := Kd.R_slice ho
 subst ev
 clear ho hb
 refine hK.out _ _ ⟨HS.out.c1, HX.out⟩ (fun hHeld => ?_)
 clear hK K
 refine norm_ (a' := ?_) ?_ ?_
 rotate_left
 ·show Act.put _ (some 17) _ = _
  simp only [Act.put, List.setIfInBounds_toArray, List.set_cons_zero, List.set_cons_succ, i64_w, i32_w]
  rfl
 refine one_ (i := 9) (N := some 21) #[true, true, true, true, true, true, true, true, true, true, true, true, false, true, true, false, true, true, false, true, true, false, true, true, false, true, true, false, true, true, false, false, false, false] rfl rfl (one_of HT_.out (by kernel_rfl)) (by decide) (fun K hK => ?_)
 refine goes_ Try.func68 (by kernel_rfl) rfl #[.string a2] (by rfl) rfl rfl (by (try simp only [List.map_toArray, List.map_cons, List.map_nil]); first | done | rfl) ?_
 with_reducible refine (impl_TextItem.calls a2 t2 x2 [] _ E2.out).mono ?_
 rintro e w8 ⟨v, rfl, ho, hb⟩
 refine ⟨_, rfl, ?_⟩
 replace HS := Aside0.mk (HS.out.below hb)
 replace HX := Aside0.mk (blk_below HX.out hb)
 replace HVT := Aside0.mk (Kd.R_below HVT.out hb)
 obtain ⟨D9, d9, ev⟩ := Kd.R_slice ho
 subst ev
 clear ho hb
 refine hK.out _ _ ⟨HS.out.c1, HX.out⟩ (fun hHeld => ?_)
 clear hK K
 refine norm_ (a' := ?_) ?_ ?_
 rotate_left
 ·show Act.put _ (some 21) _ = _
  simp only [Act.put, List.setIfInBounds_toArray, List.set_cons_zero, List.set_cons_succ, i64_w, i32_w]
  rfl
 refine one_ (i := 12) (N := some 24) #[true, true, true, true, true, true, true, true, true, true, true, true, true, true, true, false, true, true, false, true, true, false, true, true, false, true, true, false, true, true, false, false, false, false] rfl rfl (one_of HT_.out (by kernel_rfl)) (by decide) (fun K hK => ?_)
 refine goes_ Try.func69 (by kernel_rfl) rfl #[.string a5] (by rfl) rfl rfl (by (try simp only [List.map_toArray, List.map_cons, List.map_nil]); first | done | rfl) ?_
 with_reducible refine (impl_bytesItem.calls a5 t5 x5 [] _ E5.out).mono ?_
 rintro e w9 ⟨v, rfl, ho, hb⟩
 refine ⟨_, rfl, ?_⟩
 replace HS := Aside0.mk (HS.out.below hb)
 replace HX := Aside0.mk (blk_below HX.out hb)
 replace HVT := Aside0.mk (Kd.R_below HVT.out hb)
 obtain ⟨D12, d12, ev⟩ := Kd.R_slice ho
 subst ev
 clear ho hb
 refine hK.out _ _ ⟨HS.out.c1, HX.out⟩ (fun hHeld => ?_)
 clear hK K
 refine norm_ (a' := ?_) ?_ ?_
 rotate_left
 ·show Act.put _ (some 24) _ = _
  simp only [Act.put, List.setIfInBounds_toArray, List.set_cons_zero, List.set_cons_succ, i64_w, i32_w]
  rfl
 refine one_ (i := 15) (N := some 27) #[true, true, true, true, true, true, true, true, true, true, true, true, true, true, true, true, true, true, false, true, true, false, true, true, false, true, true, false, true, true, false, false, false, false] rfl rfl (one_of HT_.out (by kernel_rfl)) (by decide) (fun K hK => ?_)
 refine goes_ Try.func70 (by kernel_rfl) rfl #[.bool a6] (by rfl) rfl rfl (by (try simp only [List.map_toArray, List.map_cons, List.map_nil]); first | done | rfl) ?_
 with_reducible refine (impl_boolItem.calls a6 t6 x6 [] _ E6.out).mono ?_
 rintro e w10 ⟨v, rfl, ho, hb⟩
 refine ⟨_, rfl, ?_⟩
 replace HS := Aside0.mk (HS.out.below hb)
 replace HX := Aside0.mk (blk_below HX.out hb)
 replace HVT := Aside0.mk (Kd.R_below HVT.out hb)
 obtain ⟨D15, d15, ev⟩ := Kd.R_slice ho
 subst ev
 clear ho hb
 refine hK.out _ _ ⟨HS.out.c1, HX.out⟩ (fun hHeld => ?_)
 clear hK K
 refine norm_ (a' := ?_) ?_ ?_
 rotate_left
 ·show Act.put _ (some 27) _ = _
  simp only [Act.put, List.setIfInBounds_toArray, List.set_cons_zero, List.set_cons_succ, i64_w, i32_w]
  rfl
 refine one_ (i := 18) (N := some 30) #[true, true, true, true, true, true, true, true, true, true, true, true, true, true, true, true, true, true, true, true, true, false, true, true, false, true, true, false, true, true, false, false, false, false] rfl rfl (one_of HT_.out (by kernel_rfl)) (by decide) (fun K hK => ?_)
 refine goes_ Try.func67 (by kernel_rfl) rfl #[.int .i64 a7] (by rfl) rfl rfl (by (try simp only [List.map_toArray, List.map_cons, List.map_nil]); first | done | rfl) ?_
 with_reducible refine (impl_IntItem.calls k a7 t7 x7 [] _ E7.out).mono ?_
 rintro e w11 ⟨v, rfl, ho, hb⟩
 refine ⟨_, rfl, ?_⟩
 replace HS := Aside0.mk (HS.out.below hb)
 replace HX := Aside0.mk (blk_below HX.out hb)
 replace HVT := Aside0.mk (Kd.R_below HVT.out hb)
 obtain ⟨D18, d18, ev⟩ := Kd.R_slice ho
 subst ev
 clear ho hb
 refine hK.out _ _ ⟨HS.out.c1, HX.out⟩ (fun hHeld => ?_)
 clear hK K
 refine norm_ (a' := ?_) ?_ ?_
 rotate_left
 ·show Act.put _ (some 30) _ = _
  simp only [Act.put, List.setIfInBounds_toArray, List.set_cons_zero, List.set_cons_succ, i64_w, i32_w]
  rfl
 refine one_ (i := 21) (N := some 33) #[true, true, true, true, true, true, true, true, true, true, true, true, true, true, true, true, true, true, true, true, true, true, true, true, false, true, true, false, true, true, false, false, false, false] rfl rfl (one_of HT_.out (by kernel_rfl)) (by decide) (fun K hK => ?_)
 refine goes_ Try.func67 (by kernel_rfl) rfl #[.int .i64 a8] (by rfl) rfl rfl (by (try simp only [List.map_toArray, List.map_cons, List.map_nil]); first | done | rfl) ?_
 with_reducible refine (impl_IntItem.calls k a8 t8 x8 [] _ E8.out).mono ?_
 rintro e w12 ⟨v, rfl, ho, hb⟩
 refine ⟨_, rfl, ?_⟩
 replace HS := Aside0.mk (HS.out.below hb)
 replace HX := Aside0.mk (blk_below HX.out hb)
 replace HVT := Aside0.mk (Kd.R_below HVT.out hb)
 obtain ⟨D21, d21, ev⟩ := Kd.R_slice ho
 subst ev
 clear ho hb
 refine hK.out _ _ ⟨HS.out.c1, HX.out⟩ (fun hHeld => ?_)
 clear hK K
 refine norm_ (a' := ?_) ?_ ?_
 rotate_left
 ·show Act.put _ (some 33) _ = _
  simp only [Act.put, List.setIfInBounds_toArray, List.set_cons_zero, List.set_cons_succ, i64_w, i32_w]
  rfl
 refine one_ (i := 24) (N := some 36) #[true, true, true, true, true, true, true, true, true, true, true, true, true, true, true, true, true, true, true, true, true, true, true, true, true, true, true, false, true, true, false, false, false, false] rfl rfl (one_of HT_.out (by kernel_rfl)) (by decide) (fun K hK => ?_)
 refine goes_ Try.func71 (by kernel_rfl) rfl #[.slice A9 l9.length c9, .func (.func 67) #[] #[]] (by rfl) rfl rfl (by (try simp only [List.map_toArray, List.map_cons, List.map_nil]); first | done | rfl) ?_
 with_reducible refine (impl_each_int.calls k A9 c9 l9 0 t9 x9 L9 _ (Kd.C_below HR9.out HS.out.bel) HC9.out E9.out).mono ?_
 rintro e w13 ⟨v, rfl, ho, hb⟩
 refine ⟨_, rfl, ?_⟩
 have HN_ := Aside0.mk (Kd.R_lower (Kd.R_mono (Kd.R_bound ho) (fun k_ hk => ⟨Nat.le_trans HS.out.bel.size hk.2.1, Nat.ne_of_gt (Nat.lt_of_lt_of_le HS.out.lt2 hk.2.1)⟩)) HS.out.bel.size : Kd.R k26 26 w13 w.heap.size (fun k_ => w.heap.size ≤ k_ ∧ k_ ≠ g2) v _)
 replace HS := Aside0.mk (HS.out.below hb)
 replace HX := Aside0.mk (blk_below HX.out hb)
 replace HVT := Aside0.mk (Kd.R_below HVT.out hb)
 obtain ⟨D24, d24, ev⟩ := Kd.R_slice ho
 subst ev
 have HV24 := HN_
 clear HN_
 clear ho hb
 refine hK.out _ _ ⟨HS.out.c1, HX.out⟩ (fun hHeld => ?_)
 clear hK K
 refine norm_ (a' := ?_) ?_ ?_
 rotate_left
 ·show Act.put _ (some 36) _ = _
  simp only [Act.put, List.setIfInBounds_toArray, List.set_cons_zero, List.set_cons_succ, i64_w, i32_w]
  rfl
 refine one_ (i := 27) (N := some 39) #[true, true, true, true, true, true, true, true, true, true, true, true, true, true, true, true, true, true, true, true, true, true, true, true, true, true, true, true, true, true, false, false, false, false] rfl rfl (one_of HT_.out (by kernel_rfl)) (by decide) (fun K hK => ?_)
 refine goes_ Try.func72 (by kernel_rfl) rfl #[.slice A10 l10.length c10, .func (.func 68) #[] #[]] (by rfl) rfl rfl (by (try simp only [List.map_toArray, List.map_cons, List.map_nil]); first | done | rfl) ?_
 with_reducible refine (impl_each_string.calls k A10 c10 l10 0 t10 x10 L10 _ (Kd.C_below HR10.out HS.out.bel) HC10.out E10.out).mono ?_
 rintro e w14 ⟨v, rfl, ho, hb⟩
 refine ⟨_, rfl, ?_⟩
 have HN_ := Aside0.mk (Kd.R_lower (Kd.R_mono (Kd.R_bound ho) (fun k_ hk => ⟨Nat.le_trans HS.out.bel.size hk.2.1, Nat.ne_of_gt (Nat.lt_of_lt_of_le HS.out.lt2 hk.2.1)⟩)) HS.out.bel.size : Kd.R k26 26 w14 w.heap.size (fun k_ => w.heap.size ≤ k_ ∧ k_ ≠ g2) v _)
 replace HS := Aside0.mk (HS.out.below hb)
 replace HX := Aside0.mk (blk_below HX.out hb)
 replace HVT := Aside0.mk (Kd.R_below HVT.out hb)
 replace HV24 := Aside0.mk (Kd.R_below HV24.out hb)
 obtain ⟨D27, d27, ev⟩ := Kd.R_slice ho
 subst ev
 have HV27 := HN_
 clear HN_
 clear ho hb
 refine hK.out _ _ ⟨HS.out.c1, HX.out⟩ (fun hHeld => ?_)
 clear hK K
 refine norm_ (a' := ?_) ?_ ?_
 rotate_left
 ·show Act.put _ (some 39) _ = _
  simp only [Act.put, List.setIfInBounds_toArray, List.set_cons_zero, List.set_cons_succ, i64_w, i32_w]
  rfl
 refine one_ (i := 30) (N := some 42) #[true, true, true, true, true, true, true, true, true, true, true, true, true, true, true, true, true, true, true, true, true, true, true, true, true, true, true, true, true, true, true, false, false, false] rfl rfl (one_of HT_.out (by kernel_rfl)) (by decide) (fun K hK => ?_)
 refine goes_ Try.func72 (by kernel_rfl) rfl #[.slice A11 l11.length c11, .func (.func 68) #[] #[]] (by rfl) rfl rfl (by (try simp only [List.map_toArray, List.map_cons, List.map_nil]); first | done | rfl) ?_
 with_reducible refine (impl_each_string.calls k A11 c11 l11 0 t11 x11 L11 _ (Kd.C_below HR11.out HS.out.bel) HC11.out E11.out).mono ?_
 rintro e w15 ⟨v, rfl, ho, hb⟩
 refine ⟨_, rfl, ?_⟩
 have HN_ := Aside0.mk (Kd.R_lower (Kd.R_mono (Kd.R_bound ho) (fun k_ hk => ⟨Nat.le_trans HS.out.bel.size hk.2.1, Nat.ne_of_gt (Nat.lt_of_lt_of_le HS.out.lt2 hk.2.1)⟩)) HS.out.bel.size : Kd.R k26 26 w15 w.heap.size (fun k_ => w.heap.size ≤ k_ ∧ k_ ≠ g2) v _)
 replace HS := Aside0.mk (HS.out.below hb)
 replace HX := Aside0.mk (blk_below HX.out hb)
 replace HVT := Aside0.mk (Kd.R_below HVT.out hb)
 replace HV24 := Aside0.mk (Kd.R_below HV24.out hb)
 replace HV27 := Aside0.mk (Kd.R_below HV27.out hb)
 obtain ⟨D30, d30, ev⟩ := Kd.R_slice ho
 subst ev
 have HV30 := HN_
 clear HN_
 clear ho hb
 refine hK.out _ _ ⟨HS.out.c1, HX.out⟩ (fun hHeld => ?_)
 clear hK K
 refine norm_ (a' := ?_) ?_ ?_
 rotate_left
 ·show Act.put _ (some 42) _ = _
  simp only [Act.put, List.setIfInBounds_toArray, List.set_cons_zero, List.set_cons_succ, i64_w, i32_w]
  rfl
 refine one_ (i := 31) (N := some 43) #[true, true, true, true, true, true, true, true, true, true, true, true, true, true, true, true, true, true, true, true, true, true, true, true, true, true, true, true, true, true, true, true, false, false] rfl rfl (one_of HT_.out (by kernel_rfl)) (by decide) (fun K hK => ?_)
 have hb := below_alloc (Below.refl w15.heap.size w15) (.cells #[.int .i64 t0, .string x0, .slice D2 0 d2, .int .i64 t1, .string x1, .slice D5 0 d5, .int .i64 tT, .string xT, .slice AT LT.length cT, .int .i64 t2, .string x2, .slice D9 0 d9, .int .i64 t5, .string x5, .slice D12 0 d12, .int .i64 t6, .string x6, .slice D15 0 d15, .int .i64 t7, .string x7, .slice D18 0 d18, .int .i64 t8, .string x8, .slice D21 0 d21, .int .i64 t9, .string x9, .slice D24 L9.length d24, .int .i64 t10, .string x10, .slice D27 L10.length d27, .int .i64 t11, .string x11, .slice D30 L11.length d30] 26)
 have hnew := heap_alloc_new w15 (.cells #[.int .i64 t0, .string x0, .slice D2 0 d2, .int .i64 t1, .string x1, .slice D5 0 d5, .int .i64 tT, .string xT, .slice AT LT.length cT, .int .i64 t2, .string x2, .slice D9 0 d9, .int .i64 t5, .string x5, .slice D12 0 d12, .int .i64 t6, .string x6, .slice D15 0 d15, .int .i64 t7, .string x7, .slice D18 0 d18, .int .i64 t8, .string x8, .slice D21 0 d21, .int .i64 t9, .string x9, .slice D24 L9.length d24, .int .i64 t10, .string x10, .slice D27 L10.length d27, .int .i64 t11, .string x11, .slice D30 L11.length d30] 26)
 refine value_ (w1 := w15.alloc (.cells #[.int .i64 t0, .string x0, .slice D2 0 d2, .int .i64 t1, .string x1, .slice D5 0 d5, .int .i64 tT, .string xT, .slice AT LT.length cT, .int .i64 t2, .string x2, .slice D9 0 d9, .int .i64 t5, .string x5, .slice D12 0 d12, .int .i64 t6, .string x6, .slice D15 0 d15, .int .i64 t7, .string x7, .slice D18 0 d18, .int .i64 t8, .string x8, .slice D21 0 d21, .int .i64 t9, .string x9, .slice D24 L9.length d24, .int .i64 t10, .string x10, .slice D27 L10.length d27, .int .i64 t11, .string x11, .slice D30 L11.length d30] 26)) (v := .slice (some ⟨w15.heap.size, 0, none⟩) 11 11) (by rfl) rfl ?_ ?_
 ·go_simp
  try rfl
 have HL := Aside0.mk (N_alloc_lit (W := w15) (base := w.heap.size) (ok := fun k_ => w.heap.size ≤ k_ ∧ k_ ≠ g2) (L := [(⟨t0, x0, []⟩ : S26), (⟨t1, x1, []⟩ : S26), (⟨tT, xT, LT⟩ : S26), (⟨t2, x2, []⟩ : S26), (⟨t5, x5, []⟩ : S26), (⟨t6, x6, []⟩ : S26), (⟨t7, x7, []⟩ : S26), (⟨t8, x8, []⟩ : S26), (⟨t9, x9, L9⟩ : S26), (⟨t10, x10, L10⟩ : S26), (⟨t11, x11, L11⟩ : S26)]) (inner := [.int .i64 t0, .string x0, .slice D2 0 d2, .int .i64 t1, .string x1, .slice D5 0 d5, .int .i64 tT, .string xT, .slice AT LT.length cT, .int .i64 t2, .string x2, .slice D9 0 d9, .int .i64 t5, .string x5, .slice D12 0 d12, .int .i64 t6, .string x6, .slice D15 0 d15, .int .i64 t7, .string x7, .slice D18 0 d18, .int .i64 t8, .string x8, .slice D21 0 d21, .int .i64 t9, .string x9, .slice D24 L9.length d24, .int .i64 t10, .string x10, .slice D27 L10.length d27, .int .i64 t11, .string x11, .slice D30 L11.length d30]) (reps3 (leaf_F _ _ t0 x0 D2 d2) (reps3 (leaf_F _ _ t1 x1 D5 d5) (reps3 (row_F tT xT HVT.out) (reps3 (leaf_F _ _ t2 x2 D9 d9) (reps3 (leaf_F _ _ t5 x5 D12 d12) (reps3 (leaf_F _ _ t6 x6 D15 d15) (reps3 (leaf_F _ _ t7 x7 D18 d18) (reps3 (leaf_F _ _ t8 x8 D21 d21) (reps3 (row_F t9 x9 HV24.out) (reps3 (row_F t10 x10 HV27.out) (reps3 (row_F t11 x11 HV30.out) (Reps.none _ _)))))))))))) ⟨HS.out.bel.size, Nat.ne_of_gt HS.out.lt2⟩ HS.out.bel.size (by simp only [List.length_cons, List.length_nil]; omega))
 generalize w15.alloc (.cells _ 26) = wb at hb hnew HL ⊢
 obtain ⟨gL, hgL⟩ : ∃ b, b = w15.heap.size := ⟨_, rfl⟩
 rw [← hgL] at HL hnew ⊢
 clear hgL
 replace HS := Aside0.mk (HS.out.below hb)
 replace HX := Aside0.mk (blk_below HX.out hb)
 clear hb hnew
 refine hK.out _ _ ⟨HS.out.c1, HX.out⟩ (fun hHeld => ?_)
 clear hK K
 refine norm_ (a' := ?_) ?_ ?_
 rotate_left
 ·show Act.put _ (some 43) _ = _
  simp only [Act.put, List.setIfInBounds_toArray, List.set_cons_zero, List.set_cons_succ, i64_w, i32_w]
  rfl
 refine one_ (i := 32) (N := some 44) #[true, true, true, true, true, true, true, true, true, true, true, true, true, true, true, true, true, true, true, true, true, true, true, true, true, true, true, true, true, true, true, true, true, false] rfl rfl (one_of HT_.out (by kernel_rfl)) (by decide) (fun K hK => ?_)
 refine goes_ Try.func23 (by kernel_rfl) rfl #[.slice (some ⟨gL, 0, none⟩) 11 11] (by rfl) rfl rfl (by (try simp only [List.map_toArray, List.map_cons, List.map_nil]); first | done | rfl) ?_
 have HLC : Kd.C k26 wb (some ⟨gL, 0, none⟩) 11 [(⟨t0, x0, []⟩ : S26), (⟨t1, x1, []⟩ : S26), (⟨tT, xT, LT⟩ : S26), (⟨t2, x2, []⟩ : S26), (⟨t5, x5, []⟩ : S26), (⟨t6, x6, []⟩ : S26), (⟨t7, x7, []⟩ : S26), (⟨t8, x8, []⟩ : S26), (⟨t9, x9, L9⟩ : S26), (⟨t10, x10, L10⟩ : S26), (⟨t11, x11, L11⟩ : S26)] := (Kd.N_reads' HL.out).2.2
 have hc_ := impl_ListItem.calls k (some ⟨gL, 0, none⟩) 11 [(⟨t0, x0, []⟩ : S26), (⟨t1, x1, []⟩ : S26), (⟨tT, xT, LT⟩ : S26), (⟨t2, x2, []⟩ : S26), (⟨t5, x5, []⟩ : S26), (⟨t6, x6, []⟩ : S26), (⟨t7, x7, []⟩ : S26), (⟨t8, x8, []⟩ : S26), (⟨t9, x9, L9⟩ : S26), (⟨t10, x10, L10⟩ : S26), (⟨t11, x11, L11⟩ : S26)] tL xL LL wb HLC (Nat.le_refl 11) EL.out
 refine hc_.mono ?_
 rintro e wl ⟨v, rfl, ho, hb⟩
 refine ⟨_, rfl, ?_⟩
 clear hc_
 have HV := Aside0.mk (Kd.R_lower (Kd.R_mono (Kd.R_bound ho) (fun k_ hk => Nat.ne_of_gt (Nat.lt_of_lt_of_le HS.out.lt2 hk.2.1))) HS.out.bel.size : Kd.R k26 26 wl w.heap.size (fun k_ => k_ ≠ g2) v LL)
 replace HS := Aside0.mk (HS.out.below hb)
 replace HX := Aside0.mk (blk_below HX.out hb)
 clear ho hb
 obtain ⟨AL, cL, ev⟩ := Kd.R_slice HV.out
 subst ev
 refine hK.out _ _ ⟨HS.out.c1, HX.out⟩ (fun hHeld => ?_)
 clear hK K
 refine norm_ (a' := ?_) ?_ ?_
 rotate_left
 ·show Act.put _ (some 44) _ = _
  simp only [Act.put, List.setIfInBounds_toArray, List.set_cons_zero, List.set_cons_succ, i64_w, i32_w]
  rfl
 refine last_ (i := 33) (N := none) #[true, true, true, true, true, true, true, true, true, true, true, true, true, true, true, true, true, true, true, true, true, true, true, true, true, true, true, true, true, true, true, true, true, true] rfl rfl (one_of HT_.out (by kernel_rfl)) (by decide) (fun K hK => ?_)
 have hrun := lk_store_run wl g2 _ HS.out.c2 rfl tL xL (.slice AL LL.length cL) rfl
 refine skip_ (w1 := wl.setRow g2 #[.int .i64 tL, .string xL, .slice AL LL.length cL]) (by rfl) rfl ?_ ?_
 ·show (execOp _ _).run _ _ = _
  simp [execOp, Act.eval, hrun, Result.andThen]
 refine hK.out _ _ ?_
 clear hK K
 refine done_ (done_of HT_.out (by kernel_rfl)) ?_
 try go_wp2
 have hfin := setRow_heap wl g2 _ #[.int .i64 tL, .string xL, .slice AL LL.length cL] 26 _ HS.out.c2
 have hn2 : w.heap.size ≤ g2 := Nat.le_trans HS.out.n1 (Nat.le_of_lt HS.out.n12)
 refine bodyPost_ret (results_cell_row rfl _ _ g2 26 #[.int .i64 tL, .string xL, .slice AL LL.length cL] (0, 0) _ rfl hfin Try.underlying26 rfl (by kernel_rfl)) rfl ?_
 exact ⟨_, rfl, Kd.R_mono (Kd.R_step HV.out (fun k_ hk _ => setRow_other _ g2 k_ _ hk)) (fun _ _ => trivial), below_setRow HS.out.bel hn2 _⟩
theorem impl_BodyItem.calls (k : Nat) (a0_0 : Int) (a0_1 : ByteArray) (a0_2 : ByteArray) (a0_3 : Int) (a0_4 : Int) (a0_5 : ByteArray) (a0_6 : Bool) (a0_7 : Int) (a0_8 : Int) (A0_9 : Option Addr) (c0_9 : Nat) (l0_9 : List Int) (A0_10 : Option Addr) (c0_10 : Nat) (l0_10 : List ByteArray) (A0_11 : Option Addr) (c0_11 : Nat) (l0_11 : List ByteArray) (a0_12 : ByteArray) (r1 : Int) (r2 : ByteArray) (r3 : List (S26)) (w : World) (hr0_9 : Kd.C (Kd.int .i64) w A0_9 l0_9.length l0_9) (hc0_9 : l0_9.length ≤ c0_9) (hr0_10 : Kd.C Kd.string w A0_10 l0_10.length l0_10) (hc0_10 : l0_10.length ≤ c0_10) (hr0_11 : Kd.C Kd.string w A0_11 l0_11.length l0_11) (hc0_11 : l0_11.length ≤ c0_11) (h : impl_BodyItem.f k a0_0 a0_1 a0_2 a0_3 a0_4 a0_5 a0_6 a0_7 a0_8 l0_9 l0_10 l0_11 a0_12 = some (r1, r2, r3)) :
  Calls Try.prog 32 #[.agg #[.int .i64 a0_0, .string a0_1, .string a0_2, .int .i64 a0_3, .int .i64 a0_4, .string a0_5, .bool a0_6, .int .i64 a0_7, .int .i64 a0_8, .slice A0_9 l0_9.length c0_9, .slice A0_10 l0_10.length c0_10, .slice A0_11 l0_11.length c0_11, .string a0_12]] w fun e w' => ∃ v2_ : Value, e = .returned (.agg #[.int .i64 r1, .string r2, v2_]) ∧ Kd.N k26 26 w' w.heap.size (fun k_ => (w.heap.size ≤ k_)) v2_ r3 ∧ Below w.heap.size w w' := by
 simp only [impl_BodyItem.f] at h
 replace h := Option.bind_eq_some_iff.mp h
 obtain ⟨⟨t3, x3, L3⟩, e3, h⟩ := h
 replace h := Option.bind_eq_some_iff.mp h
 obtain ⟨⟨t4, x4, L4⟩, e4, h⟩ := h
 replace h := Option.bind_eq_some_iff.mp h
 obtain ⟨⟨tT, xT, LT⟩, eT, h⟩ := h
 replace h := Option.bind_eq_some_iff.mp h
 obtain ⟨⟨t0, x0, L0⟩, e0, h⟩ := h
 replace h := Option.bind_eq_some_iff.mp h
 obtain ⟨⟨t1, x1, L1⟩, e1, h⟩ := h
 replace h := Option.bind_eq_some_iff.mp h
 obtain ⟨⟨t2, x2, L2⟩, e2, h⟩ := h
 replace h := Option.bind_eq_some_iff.mp h
 obtain ⟨⟨t5, x5, L5⟩, e5, h⟩ := h
 replace h := Option.bind_eq_some_iff.mp h
 obtain ⟨⟨t6, x6, L6⟩, e6, h⟩ := h
 replace h := Option.bind_eq_some_iff.mp h
 obtain ⟨⟨t7, x7, L7⟩, e7, h⟩ := h
 replace h := Option.bind_eq_some_iff.mp h
 obtain ⟨⟨t8, x8, L8⟩, e8, h⟩ := h
 replace h := Option.bind_eq_some_iff.mp h
 obtain ⟨⟨t9, x9, L9⟩, e9, h⟩ := h
 replace h := Option.bind_eq_some_iff.mp h
 obtain ⟨⟨t10, x10, L10⟩, e10, h⟩ := h
 replace h := Option.bind_eq_some_iff.mp h
 obtain ⟨⟨t11, x11, L11⟩, e11, h⟩ := h
 replace h := Option.bind_eq_some_iff.mp h
 obtain ⟨⟨tL, xL, LL⟩, eL, h⟩ := h
 cases h
 obtain rfl := impl_IntItem.f_nil e3
 obtain rfl := impl_IntItem.f_nil e4
 obtain rfl := impl_IntItem.f_nil e0
 obtain rfl := impl_IntItem.f_nil e7
 obtain rfl := impl_IntItem.f_nil e8
 obtain rfl : L1 = [] := by cases e1; rfl
 obtain rfl : L2 = [] := by cases e2; rfl
 obtain rfl : L5 = [] := by cases e5; rfl
 obtain rfl : L6 = [] := by
  unfold impl_boolItem.f at e6
  split at e6
  ·cases e6
   rfl
  ·cases e6
   rfl
 refine (impl_BodyItem.core k a0_0 a0_3 a0_4 a0_7 a0_8 a0_1 a0_2 a0_5 a0_12 a0_6 A0_9 c0_9 l0_9 A0_10 c0_10 l0_10 A0_11 c0_11 l0_11 t0 t1 t2 t3 t4 t5 t6 t7 t8 t9 t10 t11 x0 x1 x2 x3 x4 x5 x6 x7 x8 x9 x10 x11 L9 L10 L11 tT tL xT xL LT LL w hr0_9 hc0_9 hr0_10 hc0_10 hr0_11 hc0_11 e3 e4 e0 e1 e2 e5 e6 e7 e8 e9 e10 e11 eT eL).mono ?_
 rintro e w' ⟨v, he, hr, hb⟩
 exact ⟨v, he, Kd.N_mono (Kd.R_N (Kd.R_bound hr)) (fun _ hk => hk.2.1), hb⟩

end Go.Proofs.Ytknalcnbkbkjdaa.GFnExactBodyText
