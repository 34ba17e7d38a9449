-- Written by a program of this session.
import Derived.Test.YtknalcnbkbkjdaaVLawKitR
namespace Go.Proofs.Ytknalcnbkbkjdaa.GAFnExactReadItem
open Go.RowKit Go.Proofs.YtknalcnbkbkjdaaW.PrintWords Go.Proofs.YtknalcnbkbkjdaaW.PrintLast Go.Proofs.YtknalcnbkbkjdaaW.PrintMore Go.Proofs.Ytknalcnbkbkjdaa.GFnExactReadItem
attribute [local go_sem] max2_int min2_int max_two min_two max_three min_three max_four min_four
set_option linter.unusedVariables false
set_option linter.unusedSimpArgs false
/-! ### laws_FnExactReadItem: function 5, by hand -/
def laws_FnExactReadItem.f (k : Nat) (a0 : ByteArray) : Option Bool :=
  if (a0.size : Int) > 1048576 then some true else
  ((spec_ReadItem.f k a0).bind fun w => (impl_ReadItem.f k a0).bind fun g =>
  (laws_eqItem.f k g.1 g.2.1 g.2.2.1 w.1 w.2.1 w.2.2.1).bind fun b1 => if b1 = true then (if g.2.2.2 = w.2.2.2 then
  ((laws_markItem.f k g.1 g.2.1 g.2.2.1 1).bind fun q => (laws_heldItem.f k g.1 g.2.1 q.2 1).bind fun hq => if hq < 0 then none else if hq = q.1 then some true else none) else none) else none)
/-- What is so at W: the boxes of w0 and g0, the row of w0's kids (below bx), g0's row (from bx on). -/
structure LS (w W : World) (g4 g6 bx : Nat) (tw : Int) (xw : ByteArray) (tg : Int) (xg : ByteArray) (vw vg : Value) (Lw Lg : List (S26)) : Prop where
  bel : Below w.heap.size w W
  b4 : W.heap[g4]? = some (.cells #[.int .i64 tw, .string xw, vw] 26 (0, 0))
  b6 : W.heap[g6]? = some (.cells #[.int .i64 tg, .string xg, vg] 26 (0, 0))
  rw : Kd.R Go.Proofs.Ytknalcnbkbkjdaa.GFnExactReadItem.k26 26 W w.heap.size (fun k => k < bx) vw Lw
  rg : Kd.S k26 26 W w.heap.size (fun k => bx ≤ k ∧ k ≠ g6) vg Lg
  n4 : g4 < bx
  n6 : bx ≤ g6
section
variable {w W W' : World} {g4 g6 bx : Nat} {tw tg : Int} {xw xg : ByteArray} {vw vg : Value} {Lw Lg Lg' : List (S26)}
theorem LS.below (h : LS w W g4 g6 bx tw xw tg xg vw vg Lw Lg) (hb : Below W.heap.size W W') : LS w W' g4 g6 bx tw xw tg xg vw vg Lw Lg :=
  ⟨below_step h.bel hb, blk_below h.b4 hb, blk_below h.b6 hb, Kd.R_below h.rw hb, Kd.S_below h.rg hb, h.n4, h.n6⟩
theorem LS.markg (h : LS w W g4 g6 bx tw xw tg xg vw vg Lw Lg) (hi : Kd.S k26 26 W' w.heap.size (fun k => bx ≤ k ∧ k ≠ g6) vg Lg') (hb : Below w.heap.size w W') (hk : Kept W W' (fun k => bx ≤ k ∧ k ≠ g6)) : LS w W' g4 g6 bx tw xw tg xg vw vg Lw Lg' := by
  have h4 := h.n4
  have h6 := h.n6
  exact ⟨hb, blk_kept h.b4 hk (by omega), blk_kept h.b6 hk (by omega), Kd.R_kept h.rw hk (fun k hk => by omega), hi, h4, h6⟩
end
set_option maxHeartbeats 8000000 in
set_option maxRecDepth 100000 in
theorem laws_FnExactReadItem.calls (k : Nat) (a0 : ByteArray) (r : Bool) (w : World) (h : laws_FnExactReadItem.f k a0 = some r) :
    Calls Try.prog 5 #[.string a0] w fun e w' => e = .returned (.bool r) ∧ Below w.heap.size w w' := by
  have hu26 := Try.underlying26
  have HB := Aside0.mk (Below.refl w.heap.size w)
  simp only [laws_FnExactReadItem.f] at h
  by_cases c1 : (a0.size : Int) > 1048576
  · rw [if_pos c1] at h
    obtain rfl := Option.some.inj h
    have c1b : decide ((1048576 : Int) < (a0.size : Int)) = true := decide_eq_true c1
    clear h c1
    go_enter Try.func5, Try.ntmps5
    go_wp2
    go_ret
    exact ⟨rfl, HB.out⟩
  · rw [if_neg c1] at h
    have c1b : decide ((1048576 : Int) < (a0.size : Int)) = false := decide_eq_false c1
    obtain ⟨⟨w1, w2, Lw, wb⟩, A3, h⟩ := Option.bind_eq_some_iff.mp h
    obtain ⟨⟨g1, g2, Lg, gb⟩, A4, h⟩ := Option.bind_eq_some_iff.mp h
    obtain ⟨b1, A5, h⟩ := Option.bind_eq_some_iff.mp h
    by_cases e1 : b1 = true
    case neg => rw [if_neg e1] at h; cases h
    rw [if_pos e1] at h
    subst e1
    by_cases e2 : gb = wb
    case neg => exact absurd h (by rw [if_neg e2]; simp)
    subst e2
    rw [if_pos rfl] at h
    obtain ⟨⟨q1, Lq⟩, A8, h⟩ := Option.bind_eq_some_iff.mp h
    obtain ⟨hq, A9, h⟩ := Option.bind_eq_some_iff.mp h
    by_cases c3 : hq < 0
    case pos => rw [if_pos c3] at h; cases h
    rw [if_neg c3] at h
    by_cases c4 : hq = q1
    case neg => exact absurd h (by rw [if_neg c4]; simp)
    obtain rfl := Option.some.inj ((if_pos c4).symm.trans h)
    subst c4
    have c3b : decide (hq < 0) = false := decide_eq_false c3
    have c4b : (hq != hq) = false := by simp
    have c5b : (gb != gb) = false := by simp
    have S3 := Aside0.mk A3
    have S4 := Aside0.mk A4
    have S5 := Aside0.mk A5
    have S8 := Aside0.mk A8
    have S9 := Aside0.mk A9
    clear h c1 c3 A3 A4 A5 A8 A9
    go_enter Try.func5, Try.ntmps5
    go_upto_region 4 with (first | ((with_reducible refine gate_callee (f := 13) rfl ?_); refine goesL_ (some 16) rfl rfl Try.func13 (by kernel_rfl) rfl #[.string a0] rfl (by (try simp only [List.map_toArray, List.map_cons, List.map_nil]); first | done | rfl) ?_; (with_reducible refine (spec_ReadItem.calls k a0 w1 w2 Lw gb _ S3.out).mono ?_); rintro e w4_ ⟨vw, rfl, hw, hb⟩; refine ⟨_, rfl, ?_⟩; have HW := Aside0.mk (Kd.R_lower hw HB.out.size); replace HB := Aside0.mk (below_step HB.out hb); clear hb hw; obtain ⟨Aw, cw, ew⟩ := Kd.R_slice HW.out; subst ew) | (refine lk_alloc _ _ rfl 26 _ rfl (lk_alloc_run _) ?_) | (refine lk_store _ _ rfl 26 (.tmp 3) (.tmp 17) _ _ rfl rfl rfl rfl (lk_store_run _ _ _ (heap_alloc_new _ _) rfl _ _ _ rfl) ?_))
    (try simp only [Act.put, List.setIfInBounds_toArray, List.set_cons_zero, List.set_cons_succ])
    have hx_ := (lk_boxed w4_ #[.int .i64 w1, .string w2, .slice Aw Lw.length cw] rfl).1
    have hb_ := (lk_boxed w4_ #[.int .i64 w1, .string w2, .slice Aw Lw.length cw] rfl).2
    generalize (w4_.alloc (.cells #[.int .i64 0, .string (⟨#[]⟩ : ByteArray), .slice none 0 0] 26)).setRow w4_.heap.size #[.int .i64 w1, .string w2, .slice Aw Lw.length cw] = w5_ at hx_ hb_ ⊢
    obtain ⟨g4, hg4⟩ : ∃ b, b = w4_.heap.size := ⟨_, rfl⟩
    rw [← hg4] at hx_ ⊢
    have HX4 := Aside0.mk hx_
    have HW5 := Aside0.mk (Kd.R_mono (Kd.R_bound (Kd.R_below HW.out hb_)) (fun k hk => hk.2.2.1) : Kd.R Go.Proofs.Ytknalcnbkbkjdaa.GFnExactReadItem.k26 26 w5_ w.heap.size (fun k => k < w5_.heap.size) _ Lw)
    replace HB := Aside0.mk (below_step HB.out hb_)
    clear hx_ hb_ hg4 HW
    go_upto_region 5 with (first | ((with_reducible refine gate_callee (f := 11) rfl ?_); refine goesL_ (some 21) rfl rfl Try.func11 (by kernel_rfl) rfl #[.string a0] rfl (by (try simp only [List.map_toArray, List.map_cons, List.map_nil]); first | done | rfl) ?_; (with_reducible refine (impl_ReadItem.calls k a0 g1 g2 Lg gb _ S4.out).mono ?_); rintro e w7_ ⟨vg, rfl, ht, hb⟩; refine ⟨_, rfl, ?_⟩; have HG := Aside0.mk (Kd.S_lower (Kd.S_mono (Kd.S_bound ht) (fun k hk => ⟨hk.2.1, hk.2.2.1⟩)) HB.out.size : Kd.S k26 26 w7_ w.heap.size (fun k => w5_.heap.size ≤ k ∧ k < w7_.heap.size) vg Lg); have N4 := Aside0.mk (blk_lt HX4.out); have HX4' := Aside0.mk (blk_below HX4.out hb); have HW6 := Aside0.mk (Kd.R_below HW5.out hb); have N67 := Aside0.mk hb.size; replace HB := Aside0.mk (below_step HB.out hb); clear hb ht HX4 HW5; obtain ⟨Ag, cg, eg⟩ := Kd.S_slice HG.out; subst eg) | (refine lk_alloc _ _ rfl 26 _ rfl (lk_alloc_run _) ?_) | (refine lk_store _ _ rfl 26 (.tmp 5) (.tmp 22) _ _ rfl rfl rfl rfl (lk_store_run _ _ _ (heap_alloc_new _ _) rfl _ _ _ rfl) ?_))
    (try simp only [Act.put, List.setIfInBounds_toArray, List.set_cons_zero, List.set_cons_succ])
    have hx_ := (lk_boxed w7_ #[.int .i64 g1, .string g2, .slice Ag Lg.length cg] rfl).1
    have hb_ := (lk_boxed w7_ #[.int .i64 g1, .string g2, .slice Ag Lg.length cg] rfl).2
    generalize (w7_.alloc (.cells #[.int .i64 0, .string (⟨#[]⟩ : ByteArray), .slice none 0 0] 26)).setRow w7_.heap.size #[.int .i64 g1, .string g2, .slice Ag Lg.length cg] = w8_ at hx_ hb_ ⊢
    obtain ⟨g6, hg6⟩ : ∃ b, b = w7_.heap.size := ⟨_, rfl⟩
    rw [← hg6] at hx_ ⊢
    have HS : Aside0 (LS w w8_ g4 g6 w5_.heap.size w1 w2 g1 g2 (.slice Aw Lw.length cw) (.slice Ag Lg.length cg) Lw Lg) :=
      ⟨⟨below_step HB.out hb_, blk_below HX4'.out hb_, hx_, Kd.R_below HW6.out hb_, Kd.S_mono (Kd.S_below HG.out hb_) (fun k hk => ⟨hk.1, by have := hk.2; omega⟩), N4.out, by have := N67.out; omega⟩⟩
    clear hx_ hb_ hg6 HX4' HW6 HG N67 N4 HB
    obtain ⟨bx, hbx⟩ : ∃ b, w5_.heap.size = b := ⟨_, rfl⟩
    rw [hbx] at HS
    clear hbx
    have hzg6_0 : w8_.cell? ⟨g6, 0, none⟩ = some (.int .i64 g1) := (blk_cell HS.out.b6 0).trans rfl
    have hzg6_1 : w8_.cell? ⟨g6, 1, none⟩ = some (.string g2) := (blk_cell HS.out.b6 1).trans rfl
    have hzg6_2 : w8_.cell? ⟨g6, 2, none⟩ = some (.slice Ag Lg.length cg) := (blk_cell HS.out.b6 2).trans rfl
    have hzg4_0 : w8_.cell? ⟨g4, 0, none⟩ = some (.int .i64 w1) := (blk_cell HS.out.b4 0).trans rfl
    have hzg4_1 : w8_.cell? ⟨g4, 1, none⟩ = some (.string w2) := (blk_cell HS.out.b4 1).trans rfl
    have hzg4_2 : w8_.cell? ⟨g4, 2, none⟩ = some (.slice Aw Lw.length cw) := (blk_cell HS.out.b4 2).trans rfl
    go_upto_region 7 with (first | ((with_reducible refine gate_callee (f := 24) rfl ?_); refine goesL_ (some 26) rfl rfl Try.func24 (by kernel_rfl) rfl #[.agg #[.int .i64 g1, .string g2, .slice Ag Lg.length cg], .agg #[.int .i64 w1, .string w2, .slice Aw Lw.length cw]] rfl (by (try simp only [List.map_toArray, List.map_cons, List.map_nil]); first | done | rfl) ?_; (with_reducible refine (laws_eqItem.calls k g1 g2 _ _ Lg w1 w2 _ _ Lw true _ (Kd.R_reads' (S_plain HS.out.rg)).2.2 (Kd.R_reads' (S_plain HS.out.rg)).2.1 (Kd.R_reads' HS.out.rw).2.2 (Kd.R_reads' HS.out.rw).2.1 S5.out).mono ?_); rintro e w9_ ⟨rfl, hb⟩; refine ⟨_, rfl, ?_⟩; replace HS := Aside0.mk (HS.out.below hb); clear hb))
    clear hzg6_0 hzg6_1 hzg6_2
    clear hzg4_0 hzg4_1 hzg4_2
    have hzg6_0 : w9_.cell? ⟨g6, 0, none⟩ = some (.int .i64 g1) := (blk_cell HS.out.b6 0).trans rfl
    have hzg6_1 : w9_.cell? ⟨g6, 1, none⟩ = some (.string g2) := (blk_cell HS.out.b6 1).trans rfl
    have hzg6_2 : w9_.cell? ⟨g6, 2, none⟩ = some (.slice Ag Lg.length cg) := (blk_cell HS.out.b6 2).trans rfl
    go_upto_region 9 with (first | ((with_reducible refine gate_callee (f := 27) rfl ?_); refine goesL_ (some 35) rfl rfl Try.func27 (by kernel_rfl) rfl #[.agg #[.int .i64 g1, .string g2, .slice Ag Lg.length cg], .int .i64 1] rfl (by (try simp only [List.map_toArray, List.map_cons, List.map_nil]); first | done | rfl) ?_; (with_reducible refine (laws_markItem.calls k _ _ g1 g2 Lg 1 hq Lq w _ HS.out.bel HS.out.rg S8.out).mono ?_); rintro e w14_ ⟨rfl, hi, hb, hk⟩; refine ⟨_, rfl, ?_⟩; replace HS := Aside0.mk (HS.out.markg hi hb hk); clear hi hb hk))
    clear hzg6_0 hzg6_1 hzg6_2
    have HL := Aside0.mk (Kd.R_reads' (S_plain HS.out.rg)).1
    have hzg6_0 : w14_.cell? ⟨g6, 0, none⟩ = some (.int .i64 g1) := (blk_cell HS.out.b6 0).trans rfl
    have hzg6_1 : w14_.cell? ⟨g6, 1, none⟩ = some (.string g2) := (blk_cell HS.out.b6 1).trans rfl
    have hzg6_2 : w14_.cell? ⟨g6, 2, none⟩ = some (.slice Ag Lg.length cg) := (blk_cell HS.out.b6 2).trans rfl
    go_upto_region 11 with (first | ((with_reducible refine gate_callee (f := 28) rfl ?_); refine goesL_ (some 38) rfl rfl Try.func28 (by kernel_rfl) rfl #[.agg #[.int .i64 g1, .string g2, .slice Ag Lg.length cg], .int .i64 1] rfl (by (try simp only [List.map_toArray, List.map_cons, List.map_nil]); first | done | rfl) ?_; (with_reducible refine ((show Calls Try.prog 28 #[.agg #[.int .i64 g1, .string g2, .slice Ag Lg.length cg], .int .i64 1] _ (fun e w' => e = .returned (.int .i64 hq) ∧ Below _ _ w') from by rw [HL.out]; exact laws_heldItem.calls k g1 g2 _ _ Lq 1 hq _ (Kd.R_reads' (S_plain HS.out.rg)).2.2 (HL.out ▸ (Kd.R_reads' (S_plain HS.out.rg)).2.1) S9.out)).mono ?_); rintro e w15_ ⟨rfl, hb⟩; refine ⟨_, rfl, ?_⟩; replace HS := Aside0.mk (HS.out.below hb); clear hb))
    clear hzg6_0 hzg6_1 hzg6_2
    go_upto_region 15 with (first | fail)
    go_upto_region 16 with (first | ((with_reducible refine gate_callee (f := 11) rfl ?_); refine goesL_ (some 46) rfl rfl Try.func11 (by kernel_rfl) rfl #[.string a0] rfl (by (try simp only [List.map_toArray, List.map_cons, List.map_nil]); first | done | rfl) ?_; (with_reducible refine (impl_ReadItem.calls k a0 g1 g2 Lg gb _ S4.out).mono ?_); rintro e w17_ ⟨vh, rfl, ht, hb⟩; refine ⟨_, rfl, ?_⟩; have HH := Aside0.mk (S_plain ht); clear ht; replace HS := Aside0.mk (HS.out.below hb); clear hb; obtain ⟨Ah, ch, eh⟩ := Kd.R_slice HH.out; subst eh) | (refine lk_alloc _ _ rfl 26 _ rfl (lk_alloc_run _) ?_) | (refine lk_store _ _ rfl 26 (.tmp 9) (.tmp 47) _ _ rfl rfl rfl rfl (lk_store_run _ _ _ (heap_alloc_new _ _) rfl _ _ _ rfl) ?_))
    (try simp only [Act.put, List.setIfInBounds_toArray, List.set_cons_zero, List.set_cons_succ])
    have hx_ := (lk_boxed w17_ #[.int .i64 g1, .string g2, .slice Ah Lg.length ch] rfl).1
    have hb_ := (lk_boxed w17_ #[.int .i64 g1, .string g2, .slice Ah Lg.length ch] rfl).2
    generalize (w17_.alloc (.cells #[.int .i64 0, .string (⟨#[]⟩ : ByteArray), .slice none 0 0] 26)).setRow w17_.heap.size #[.int .i64 g1, .string g2, .slice Ah Lg.length ch] = w18_ at hx_ hb_ ⊢
    obtain ⟨g10, hg10⟩ : ∃ b, b = w17_.heap.size := ⟨_, rfl⟩
    rw [← hg10] at hx_ ⊢
    replace HS := Aside0.mk (HS.out.below hb_)
    replace HH := Aside0.mk (Kd.R_below HH.out hb_)
    have hzh_0 : w18_.cell? ⟨g10, 0, none⟩ = some (.int .i64 g1) := (blk_cell hx_ 0).trans rfl
    have hzh_1 : w18_.cell? ⟨g10, 1, none⟩ = some (.string g2) := (blk_cell hx_ 1).trans rfl
    have hzh_2 : w18_.cell? ⟨g10, 2, none⟩ = some (.slice Ah Lg.length ch) := (blk_cell hx_ 2).trans rfl
    clear hx_ hb_ hg10
    have hzg4_0 : w18_.cell? ⟨g4, 0, none⟩ = some (.int .i64 w1) := (blk_cell HS.out.b4 0).trans rfl
    have hzg4_1 : w18_.cell? ⟨g4, 1, none⟩ = some (.string w2) := (blk_cell HS.out.b4 1).trans rfl
    have hzg4_2 : w18_.cell? ⟨g4, 2, none⟩ = some (.slice Aw Lw.length cw) := (blk_cell HS.out.b4 2).trans rfl
    go_upto_region 18 with (first | ((with_reducible refine gate_callee (f := 24) rfl ?_); refine goesL_ (some 51) rfl rfl Try.func24 (by kernel_rfl) rfl #[.agg #[.int .i64 g1, .string g2, .slice Ah Lg.length ch], .agg #[.int .i64 w1, .string w2, .slice Aw Lw.length cw]] rfl (by (try simp only [List.map_toArray, List.map_cons, List.map_nil]); first | done | rfl) ?_; (with_reducible refine (laws_eqItem.calls k g1 g2 _ _ Lg w1 w2 _ _ Lw true _ (Kd.R_reads' HH.out).2.2 (Kd.R_reads' HH.out).2.1 (Kd.R_reads' HS.out.rw).2.2 (Kd.R_reads' HS.out.rw).2.1 S5.out).mono ?_); rintro e w19_ ⟨rfl, hb⟩; refine ⟨_, rfl, ?_⟩; replace HS := Aside0.mk (HS.out.below hb); clear hb; clear HH))
    clear hzg4_0 hzg4_1 hzg4_2
    clear hzh_0 hzh_1 hzh_2
    have hzg6_0 : w19_.cell? ⟨g6, 0, none⟩ = some (.int .i64 g1) := (blk_cell HS.out.b6 0).trans rfl
    have hzg6_1 : w19_.cell? ⟨g6, 1, none⟩ = some (.string g2) := (blk_cell HS.out.b6 1).trans rfl
    have hzg6_2 : w19_.cell? ⟨g6, 2, none⟩ = some (.slice Ag Lg.length cg) := (blk_cell HS.out.b6 2).trans rfl
    go_upto_region 20 with (first | ((with_reducible refine gate_callee (f := 28) rfl ?_); refine goesL_ (some 60) rfl rfl Try.func28 (by kernel_rfl) rfl #[.agg #[.int .i64 g1, .string g2, .slice Ag Lg.length cg], .int .i64 1] rfl (by (try simp only [List.map_toArray, List.map_cons, List.map_nil]); first | done | rfl) ?_; (with_reducible refine ((show Calls Try.prog 28 #[.agg #[.int .i64 g1, .string g2, .slice Ag Lg.length cg], .int .i64 1] _ (fun e w' => e = .returned (.int .i64 hq) ∧ Below _ _ w') from by rw [HL.out]; exact laws_heldItem.calls k g1 g2 _ _ Lq 1 hq _ (Kd.R_reads' (S_plain HS.out.rg)).2.2 (HL.out ▸ (Kd.R_reads' (S_plain HS.out.rg)).2.1) S9.out)).mono ?_); rintro e w20_ ⟨rfl, hb⟩; refine ⟨_, rfl, ?_⟩; replace HS := Aside0.mk (HS.out.below hb); clear hb))
    clear hzg6_0 hzg6_1 hzg6_2
    go_wp2
    go_ret
    exact ⟨rfl, HS.out.bel⟩
end Go.Proofs.Ytknalcnbkbkjdaa.GAFnExactReadItem
