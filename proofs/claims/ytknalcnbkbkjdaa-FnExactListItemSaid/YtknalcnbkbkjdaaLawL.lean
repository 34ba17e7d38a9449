-- Written by a program of this session.
import Derived.Test.YtknalcnbkbkjdaaLawKit
namespace Go.Proofs.Ytknalcnbkbkjdaa.GAFnExactListItem
open Go.RowKit Go.Proofs.YtknalcnbkbkjdaaW.PrintWords Go.Proofs.YtknalcnbkbkjdaaW.PrintLast Go.Proofs.YtknalcnbkbkjdaaW.PrintMore Go.Proofs.Ytknalcnbkbkjdaa.GFnExactListItem
attribute [local go_sem] max2_int min2_int max_two min_two max_three min_three max_four min_four
set_option linter.unusedVariables false
set_option linter.unusedSimpArgs false
/-! ### laws_FnExactListItem: function 4, by hand -/
def laws_FnExactListItem.f (k : Nat) (l0 : List (S75)) : Option Bool :=
  (laws_szItemS.f k l0 1048576).bind fun n => if n < 0 then some true else
  (laws_toItemS.f k l0).bind fun L => (spec_ListItem.f k L).bind fun w => (impl_ListItem.f k L).bind fun g =>
  (laws_eqItem.f k g.1 g.2.1 g.2.2 w.1 w.2.1 w.2.2).bind fun b1 => if b1 = true then ((laws_eqItemS.f k L L).bind fun b2 => if b2 = true then
  ((laws_markItemS.f k L 1).bind fun m => if m.1 < 0 then none else (laws_markItem.f k g.1 g.2.1 g.2.2 1).bind fun q =>
  (laws_heldItem.f k g.1 g.2.1 q.2 1).bind fun hq => if hq < 0 then none else if hq = q.1 then some true else none) else none) else none
/-- What is so at W: the boxes of w0 and g0, the row of w0's kids (bx: the heap's size behind it), x0's row, g0's row (from by_ on). -/
structure LS (w W : World) (g4 g6 bx by_ : Nat) (tw : Int) (xw : ByteArray) (tg : Int) (xg : ByteArray) (vw vx vg : Value) (Lw Lx Lg : List (S26)) : Prop where
  bel : Below w.heap.size w W
  b4 : W.heap[g4]? = some (.cells #[.int .i64 tw, .string xw, vw] 26 (0, 0))
  b6 : W.heap[g6]? = some (.cells #[.int .i64 tg, .string xg, vg] 26 (0, 0))
  rw : Kd.R Go.Proofs.Ytknalcnbkbkjdaa.GFnExactListItem.k26 26 W w.heap.size (fun k => k < bx) vw Lw
  rx : Kd.S k26 26 W w.heap.size (fun k => bx ≤ k ∧ k < by_) vx Lx
  rg : Kd.S k26 26 W w.heap.size (fun k => by_ ≤ k ∧ k ≠ g6) vg Lg
  n4 : g4 < bx
  n6 : by_ ≤ g6
  nx : bx ≤ by_
section
variable {w W W' : World} {g4 g6 bx by_ : Nat} {tw tg : Int} {xw xg : ByteArray} {vw vx vg : Value} {Lw Lx Lg Lx' Lg' : List (S26)}
theorem LS.below (h : LS w W g4 g6 bx by_ tw xw tg xg vw vx vg Lw Lx Lg) (hb : Below W.heap.size W W') : LS w W' g4 g6 bx by_ tw xw tg xg vw vx vg Lw Lx Lg :=
  ⟨below_step h.bel hb, blk_below h.b4 hb, blk_below h.b6 hb, Kd.R_below h.rw hb, Kd.S_below h.rx hb, Kd.S_below h.rg hb, h.n4, h.n6, h.nx⟩
theorem LS.markx (h : LS w W g4 g6 bx by_ tw xw tg xg vw vx vg Lw Lx Lg) (hi : Kd.S k26 26 W' w.heap.size (fun k => bx ≤ k ∧ k < by_) vx Lx') (hb : Below w.heap.size w W') (hk : Kept W W' (fun k => bx ≤ k ∧ k < by_)) : LS w W' g4 g6 bx by_ tw xw tg xg vw vx vg Lw Lx' Lg := by
  have h4 := h.n4
  have h6 := h.n6
  exact ⟨hb, blk_kept h.b4 hk (by omega), blk_kept h.b6 hk (by omega), Kd.R_kept h.rw hk (fun k hk => by omega), hi, Kd.S_kept h.rg hk (fun k hk => by omega), h4, h6, h.nx⟩
theorem LS.markg (h : LS w W g4 g6 bx by_ tw xw tg xg vw vx vg Lw Lx Lg) (hi : Kd.S k26 26 W' w.heap.size (fun k => by_ ≤ k ∧ k ≠ g6) vg Lg') (hb : Below w.heap.size w W') (hk : Kept W W' (fun k => by_ ≤ k ∧ k ≠ g6)) : LS w W' g4 g6 bx by_ tw xw tg xg vw vx vg Lw Lx Lg' := by
  have h4 := h.n4
  have h6 := h.n6
  have hx := h.nx
  exact ⟨hb, blk_kept h.b4 hk (by omega), blk_kept h.b6 hk (by omega), Kd.R_kept h.rw hk (fun k hk => by omega), Kd.S_kept h.rx hk (fun k hk => by omega), hi, h4, h6, hx⟩
end
set_option maxHeartbeats 8000000 in
set_option maxRecDepth 100000 in
theorem laws_FnExactListItem.calls (k : Nat) (A0 : Option Addr) (c0 : Nat) (l0 : List (S75)) (r : Bool) (w : World) (hr0 : Kd.C k75 w A0 l0.length l0) (hc0 : l0.length ≤ c0) (h : laws_FnExactListItem.f k l0 = some r) :
    Calls Try.prog 4 #[.slice A0 l0.length c0] w fun e w' => e = .returned (.bool r) ∧ Below w.heap.size w w' := by
  have hu26 := Try.underlying26
  have HR0 := Aside0.mk hr0
  have HC0 := Aside0.mk hc0
  have HB := Aside0.mk (Below.refl w.heap.size w)
  simp only [laws_FnExactListItem.f] at h
  obtain ⟨n, A1, h⟩ := Option.bind_eq_some_iff.mp h
  have S1 := Aside0.mk A1
  clear A1
  by_cases c1 : n < 0
  · rw [if_pos c1] at h
    obtain rfl := Option.some.inj h
    have c1b : decide (n < 0) = true := decide_eq_true c1
    clear hr0 hc0 h c1
    go_enter Try.func4, Try.ntmps4
    go_wp2_with ((with_reducible refine gate_callee (f := 20) rfl ?_); refine goesL_ (some 13) rfl rfl Try.func20 (by kernel_rfl) rfl #[.slice A0 l0.length c0, .int .i64 1048576] rfl (by (try simp only [List.map_toArray, List.map_cons, List.map_nil]); first | done | rfl) ?_; (with_reducible refine (laws_szItemS.calls k _ _ l0 1048576 n _ HR0.out HC0.out S1.out).mono ?_); rintro e w2 ⟨rfl, hb⟩; refine ⟨_, rfl, ?_⟩; replace HB := Aside0.mk (below_step HB.out hb); clear hb)
    go_ret
    exact ⟨rfl, HB.out⟩
  · rw [if_neg c1] at h
    have c1b : decide (n < 0) = false := decide_eq_false c1
    obtain ⟨L, A2, h⟩ := Option.bind_eq_some_iff.mp h
    obtain ⟨⟨w1, w2, Lw⟩, A3, h⟩ := Option.bind_eq_some_iff.mp h
    obtain ⟨⟨g1, g2, Lg⟩, A4, h⟩ := Option.bind_eq_some_iff.mp h
    obtain ⟨b1, A5, h⟩ := Option.bind_eq_some_iff.mp h
    by_cases e1 : b1 = true
    case neg => rw [if_neg e1] at h; cases h
    rw [if_pos e1] at h
    subst e1
    obtain ⟨b2, A6, h⟩ := Option.bind_eq_some_iff.mp h
    by_cases e2 : b2 = true
    case neg => rw [if_neg e2] at h; cases h
    rw [if_pos e2] at h
    subst e2
    obtain ⟨⟨m1, Lm⟩, A7, h⟩ := Option.bind_eq_some_iff.mp h
    by_cases c2 : m1 < 0
    case pos => rw [if_pos c2] at h; cases h
    rw [if_neg c2] at h
    obtain ⟨⟨q1, Lq⟩, A8, h⟩ := Option.bind_eq_some_iff.mp h
    obtain ⟨hq, A9, h⟩ := Option.bind_eq_some_iff.mp h
    by_cases c3 : hq < 0
    case pos => rw [if_pos c3] at h; cases h
    rw [if_neg c3] at h
    by_cases c4 : hq = q1
    case neg => exact absurd h (by rw [if_neg c4]; simp)
    obtain rfl := Option.some.inj ((if_pos c4).symm.trans h)
    subst c4
    have c2b : decide (m1 < 0) = false := decide_eq_false c2
    have c3b : decide (hq < 0) = false := decide_eq_false c3
    have S2 := Aside0.mk A2
    have S3 := Aside0.mk A3
    have S4 := Aside0.mk A4
    have S5 := Aside0.mk A5
    have S6 := Aside0.mk A6
    have S7 := Aside0.mk A7
    have S8 := Aside0.mk A8
    have S9 := Aside0.mk A9
    clear hr0 hc0 h c1 c2 c3 A2 A3 A4 A5 A6 A7 A8 A9
    go_enter Try.func4, Try.ntmps4
    go_upto_region 5 with ((with_reducible refine gate_callee (f := 20) rfl ?_); refine goesL_ (some 13) rfl rfl Try.func20 (by kernel_rfl) rfl #[.slice A0 l0.length c0, .int .i64 1048576] rfl (by (try simp only [List.map_toArray, List.map_cons, List.map_nil]); first | done | rfl) ?_; (with_reducible refine (laws_szItemS.calls k _ _ l0 1048576 n _ HR0.out HC0.out S1.out).mono ?_); rintro e w2_ ⟨rfl, hb⟩; refine ⟨_, rfl, ?_⟩; replace HB := Aside0.mk (below_step HB.out hb); clear hb)
    go_upto_region 6 with (first | ((with_reducible refine gate_callee (f := 22) rfl ?_); refine goesL_ (some 17) rfl rfl Try.func22 (by kernel_rfl) rfl #[.slice A0 l0.length c0] rfl (by (try simp only [List.map_toArray, List.map_cons, List.map_nil]); first | done | rfl) ?_; (with_reducible refine (laws_toItemS.calls k _ _ l0 L _ (Kd.C_below HR0.out HB.out) HC0.out S2.out).mono ?_); rintro e w3_ ⟨vt, rfl, ht, hb⟩; refine ⟨_, rfl, ?_⟩; replace HB := Aside0.mk (below_step HB.out hb); have HT := Aside0.mk (S_plain ht); clear hb ht; obtain ⟨At, ct, et⟩ := Kd.R_slice HT.out; subst et) | ((with_reducible refine gate_callee (f := 21) rfl ?_); refine goesL_ (some 18) rfl rfl Try.func21 (by kernel_rfl) rfl #[.slice At L.length ct] rfl (by (try simp only [List.map_toArray, List.map_cons, List.map_nil]); first | done | rfl) ?_; (with_reducible refine (spec_ListItem.calls k _ _ L w1 w2 Lw _ (Kd.R_reads' HT.out).2.2 (Kd.R_reads' HT.out).2.1 S3.out).mono ?_); rintro e w4_ ⟨vw, rfl, hw, hb⟩; refine ⟨_, rfl, ?_⟩; have HW := Aside0.mk (Kd.R_lower hw HB.out.size); replace HB := Aside0.mk (below_step HB.out hb); clear hb hw HT; obtain ⟨Aw, cw, ew⟩ := Kd.R_slice HW.out; subst ew) | (refine lk_alloc _ _ rfl 26 _ rfl (lk_alloc_run _) ?_) | (refine lk_store _ _ rfl 26 (.tmp 4) (.tmp 18) _ _ rfl rfl rfl rfl (lk_store_run _ _ _ (heap_alloc_new _ _) rfl _ _ _ rfl) ?_))
    (try simp only [Act.put, List.setIfInBounds_toArray, List.set_cons_zero, List.set_cons_succ])
    have hx_ := (lk_boxed w4_ #[.int .i64 w1, .string w2, .slice Aw Lw.length cw] rfl).1
    have hb_ := (lk_boxed w4_ #[.int .i64 w1, .string w2, .slice Aw Lw.length cw] rfl).2
    generalize (w4_.alloc (.cells #[.int .i64 0, .string (⟨#[]⟩ : ByteArray), .slice none 0 0] 26)).setRow w4_.heap.size #[.int .i64 w1, .string w2, .slice Aw Lw.length cw] = w5_ at hx_ hb_ ⊢
    obtain ⟨g4, hg4⟩ : ∃ b, b = w4_.heap.size := ⟨_, rfl⟩
    rw [← hg4] at hx_ ⊢
    have HX4 := Aside0.mk hx_
    have HW5 := Aside0.mk (Kd.R_mono (Kd.R_bound (Kd.R_below HW.out hb_)) (fun k hk => hk.2.2.1) : Kd.R Go.Proofs.Ytknalcnbkbkjdaa.GFnExactListItem.k26 26 w5_ w.heap.size (fun k => k < w5_.heap.size) _ Lw)
    replace HB := Aside0.mk (below_step HB.out hb_)
    clear hx_ hb_ hg4 HW
    go_upto_region 7 with (first | ((with_reducible refine gate_callee (f := 22) rfl ?_); refine goesL_ (some 20) rfl rfl Try.func22 (by kernel_rfl) rfl #[.slice A0 l0.length c0] rfl (by (try simp only [List.map_toArray, List.map_cons, List.map_nil]); first | done | rfl) ?_; (with_reducible refine (laws_toItemS.calls k _ _ l0 L _ (Kd.C_below HR0.out HB.out) HC0.out S2.out).mono ?_); rintro e w6_ ⟨vx, rfl, ht, hb⟩; refine ⟨_, rfl, ?_⟩; have HX := Aside0.mk (Kd.S_mono (Kd.S_bound (Kd.S_lower (Kd.S_mono (Kd.S_bound ht) (fun k hk => hk.2.1)) HB.out.size)) (fun k hk => ⟨hk.1, hk.2.2.1⟩) : Kd.S k26 26 w6_ w.heap.size (fun k => w5_.heap.size ≤ k ∧ k < w6_.heap.size) vx L); have HX4' := Aside0.mk (blk_below HX4.out hb); have HW6 := Aside0.mk (Kd.R_below HW5.out hb); have N56 := Aside0.mk hb.size; have N4 := Aside0.mk (blk_lt HX4.out); replace HB := Aside0.mk (below_step HB.out hb); clear hb ht HX4 HW5; obtain ⟨Ax, cx, ex⟩ := Kd.S_slice HX.out; subst ex))
    go_upto_region 8 with (first | ((with_reducible refine gate_callee (f := 23) rfl ?_); refine goesL_ (some 22) rfl rfl Try.func23 (by kernel_rfl) rfl #[.slice Ax L.length cx] rfl (by (try simp only [List.map_toArray, List.map_cons, List.map_nil]); first | done | rfl) ?_; (with_reducible refine (impl_ListItem.calls k _ _ L g1 g2 Lg _ (C_apart (Kd.R_reads' (S_plain HX.out)).2.2) (Kd.R_reads' (S_plain HX.out)).2.1 S4.out).mono ?_); rintro e w7_ ⟨vg, rfl, ht, hb⟩; refine ⟨_, rfl, ?_⟩; have HG := Aside0.mk (Kd.S_lower (Kd.S_mono (Kd.S_bound ht) (fun k hk => ⟨hk.2.1, hk.2.2.1⟩)) HB.out.size : Kd.S k26 26 w7_ w.heap.size (fun k => w6_.heap.size ≤ k ∧ k < w7_.heap.size) vg Lg); replace HX4' := Aside0.mk (blk_below HX4'.out hb); replace HW6 := Aside0.mk (Kd.R_below HW6.out hb); replace HX := Aside0.mk (Kd.S_below HX.out hb); have N67 := Aside0.mk hb.size; replace HB := Aside0.mk (below_step HB.out hb); clear hb ht; obtain ⟨Ag, cg, eg⟩ := Kd.S_slice HG.out; subst eg) | (refine lk_alloc _ _ rfl 26 _ rfl (lk_alloc_run _) ?_) | (refine lk_store _ _ rfl 26 (.tmp 6) (.tmp 22) _ _ rfl rfl rfl rfl (lk_store_run _ _ _ (heap_alloc_new _ _) rfl _ _ _ rfl) ?_))
    (try simp only [Act.put, List.setIfInBounds_toArray, List.set_cons_zero, List.set_cons_succ])
    have hx_ := (lk_boxed w7_ #[.int .i64 g1, .string g2, .slice Ag Lg.length cg] rfl).1
    have hb_ := (lk_boxed w7_ #[.int .i64 g1, .string g2, .slice Ag Lg.length cg] rfl).2
    generalize (w7_.alloc (.cells #[.int .i64 0, .string (⟨#[]⟩ : ByteArray), .slice none 0 0] 26)).setRow w7_.heap.size #[.int .i64 g1, .string g2, .slice Ag Lg.length cg] = w8_ at hx_ hb_ ⊢
    obtain ⟨g6, hg6⟩ : ∃ b, b = w7_.heap.size := ⟨_, rfl⟩
    rw [← hg6] at hx_ ⊢
    have HS : Aside0 (LS w w8_ g4 g6 w5_.heap.size w6_.heap.size w1 w2 g1 g2 (.slice Aw Lw.length cw) (.slice Ax L.length cx) (.slice Ag Lg.length cg) Lw L Lg) :=
      ⟨⟨below_step HB.out hb_, blk_below HX4'.out hb_, hx_, Kd.R_below HW6.out hb_, Kd.S_below HX.out hb_, Kd.S_mono (Kd.S_below HG.out hb_) (fun k hk => ⟨hk.1, by have := hk.2; omega⟩), N4.out, by have := N67.out; omega, N56.out⟩⟩
    clear hx_ hb_ hg6 HX4' HW6 HX HG N56 N67 N4 HB
    obtain ⟨bx, hbx⟩ : ∃ b, w5_.heap.size = b := ⟨_, rfl⟩
    obtain ⟨by_, hby⟩ : ∃ b, w6_.heap.size = b := ⟨_, rfl⟩
    rw [hbx, hby] at HS
    clear hbx hby
    have hzg6_0 : w8_.cell? ⟨g6, 0, none⟩ = some (.int .i64 g1) := (blk_cell HS.out.b6 0).trans rfl
    have hzg6_1 : w8_.cell? ⟨g6, 1, none⟩ = some (.string g2) := (blk_cell HS.out.b6 1).trans rfl
    have hzg6_2 : w8_.cell? ⟨g6, 2, none⟩ = some (.slice Ag Lg.length cg) := (blk_cell HS.out.b6 2).trans rfl
    have hzg4_0 : w8_.cell? ⟨g4, 0, none⟩ = some (.int .i64 w1) := (blk_cell HS.out.b4 0).trans rfl
    have hzg4_1 : w8_.cell? ⟨g4, 1, none⟩ = some (.string w2) := (blk_cell HS.out.b4 1).trans rfl
    have hzg4_2 : w8_.cell? ⟨g4, 2, none⟩ = some (.slice Aw Lw.length cw) := (blk_cell HS.out.b4 2).trans rfl
    go_upto_region 10 with (first | ((with_reducible refine gate_callee (f := 24) rfl ?_); refine goesL_ (some 25) rfl rfl Try.func24 (by kernel_rfl) rfl #[.agg #[.int .i64 g1, .string g2, .slice Ag Lg.length cg], .agg #[.int .i64 w1, .string w2, .slice Aw Lw.length cw]] rfl (by (try simp only [List.map_toArray, List.map_cons, List.map_nil]); first | done | rfl) ?_; (with_reducible refine (laws_eqItem.calls k g1 g2 _ _ Lg w1 w2 _ _ Lw true _ (Kd.R_reads' (S_plain HS.out.rg)).2.2 (Kd.R_reads' (S_plain HS.out.rg)).2.1 (Kd.R_reads' HS.out.rw).2.2 (Kd.R_reads' HS.out.rw).2.1 S5.out).mono ?_); rintro e w9_ ⟨rfl, hb⟩; refine ⟨_, rfl, ?_⟩; replace HS := Aside0.mk (HS.out.below hb); clear hb))
    clear hzg6_0 hzg6_1 hzg6_2
    clear hzg4_0 hzg4_1 hzg4_2
    go_upto_region 12 with (first | ((with_reducible refine gate_callee (f := 22) rfl ?_); refine goesL_ (some 29) rfl rfl Try.func22 (by kernel_rfl) rfl #[.slice A0 l0.length c0] rfl (by (try simp only [List.map_toArray, List.map_cons, List.map_nil]); first | done | rfl) ?_; (with_reducible refine (laws_toItemS.calls k _ _ l0 L _ (Kd.C_below HR0.out HS.out.bel) HC0.out S2.out).mono ?_); rintro e w10_ ⟨vt, rfl, ht, hb⟩; refine ⟨_, rfl, ?_⟩; have HT := Aside0.mk (S_plain ht); clear ht; replace HS := Aside0.mk (HS.out.below hb); clear hb; obtain ⟨At, ct, et⟩ := Kd.R_slice HT.out; subst et) | ((with_reducible refine gate_callee (f := 25) rfl ?_); refine goesL_ (some 30) rfl rfl Try.func25 (by kernel_rfl) rfl #[.slice Ax L.length cx, .slice At L.length ct] rfl (by (try simp only [List.map_toArray, List.map_cons, List.map_nil]); first | done | rfl) ?_; (with_reducible refine (laws_eqItemS.calls k _ _ L _ _ L true _ (Kd.R_reads' (S_plain HS.out.rx)).2.2 (Kd.R_reads' (S_plain HS.out.rx)).2.1 (Kd.R_reads' HT.out).2.2 (Kd.R_reads' HT.out).2.1 S6.out).mono ?_); rintro e w11_ ⟨rfl, hb⟩; refine ⟨_, rfl, ?_⟩; replace HS := Aside0.mk (HS.out.below hb); clear hb; clear HT))
    go_upto_region 14 with (first | ((with_reducible refine gate_callee (f := 26) rfl ?_); refine goesL_ (some 34) rfl rfl Try.func26 (by kernel_rfl) rfl #[.slice Ax L.length cx, .int .i64 1] rfl (by (try simp only [List.map_toArray, List.map_cons, List.map_nil]); first | done | rfl) ?_; (with_reducible refine (laws_markItemS.calls k _ _ L 1 m1 Lm w _ HS.out.bel HS.out.rx S7.out).mono ?_); rintro e w12_ ⟨rfl, hi, hb, hk⟩; refine ⟨_, rfl, ?_⟩; replace HS := Aside0.mk (HS.out.markx hi hb hk); clear hi hb hk))
    have hzg6_0 : w12_.cell? ⟨g6, 0, none⟩ = some (.int .i64 g1) := (blk_cell HS.out.b6 0).trans rfl
    have hzg6_1 : w12_.cell? ⟨g6, 1, none⟩ = some (.string g2) := (blk_cell HS.out.b6 1).trans rfl
    have hzg6_2 : w12_.cell? ⟨g6, 2, none⟩ = some (.slice Ag Lg.length cg) := (blk_cell HS.out.b6 2).trans rfl
    have hzg4_0 : w12_.cell? ⟨g4, 0, none⟩ = some (.int .i64 w1) := (blk_cell HS.out.b4 0).trans rfl
    have hzg4_1 : w12_.cell? ⟨g4, 1, none⟩ = some (.string w2) := (blk_cell HS.out.b4 1).trans rfl
    have hzg4_2 : w12_.cell? ⟨g4, 2, none⟩ = some (.slice Aw Lw.length cw) := (blk_cell HS.out.b4 2).trans rfl
    go_upto_region 16 with (first | (go_at_call 24; (with_reducible refine (laws_eqItem.calls k g1 g2 _ _ Lg w1 w2 _ _ Lw true _ (Kd.R_reads' (S_plain HS.out.rg)).2.2 (Kd.R_reads' (S_plain HS.out.rg)).2.1 (Kd.R_reads' HS.out.rw).2.2 (Kd.R_reads' HS.out.rw).2.1 S5.out).mono ?_); rintro e w13_ ⟨rfl, hb⟩; replace HS := Aside0.mk (HS.out.below hb); clear hb))
    clear hzg6_0 hzg6_1 hzg6_2
    clear hzg4_0 hzg4_1 hzg4_2
    have hzg6_0 : w13_.cell? ⟨g6, 0, none⟩ = some (.int .i64 g1) := (blk_cell HS.out.b6 0).trans rfl
    have hzg6_1 : w13_.cell? ⟨g6, 1, none⟩ = some (.string g2) := (blk_cell HS.out.b6 1).trans rfl
    have hzg6_2 : w13_.cell? ⟨g6, 2, none⟩ = some (.slice Ag Lg.length cg) := (blk_cell HS.out.b6 2).trans rfl
    go_upto_region 18 with (first | ((with_reducible refine gate_callee (f := 27) rfl ?_); refine goesL_ (some 45) rfl rfl Try.func27 (by kernel_rfl) rfl #[.agg #[.int .i64 g1, .string g2, .slice Ag Lg.length cg], .int .i64 1] rfl (by (try simp only [List.map_toArray, List.map_cons, List.map_nil]); first | done | rfl) ?_; (with_reducible refine (laws_markItem.calls k _ _ g1 g2 Lg 1 hq Lq w _ HS.out.bel HS.out.rg S8.out).mono ?_); rintro e w14_ ⟨rfl, hi, hb, hk⟩; refine ⟨_, rfl, ?_⟩; replace HS := Aside0.mk (HS.out.markg hi hb hk); clear hi hb hk))
    clear hzg6_0 hzg6_1 hzg6_2
    have HL := Aside0.mk (Kd.R_reads' (S_plain HS.out.rg)).1
    have c4b : (hq != hq) = false := by simp
    have hzg6_0 : w14_.cell? ⟨g6, 0, none⟩ = some (.int .i64 g1) := (blk_cell HS.out.b6 0).trans rfl
    have hzg6_1 : w14_.cell? ⟨g6, 1, none⟩ = some (.string g2) := (blk_cell HS.out.b6 1).trans rfl
    have hzg6_2 : w14_.cell? ⟨g6, 2, none⟩ = some (.slice Ag Lg.length cg) := (blk_cell HS.out.b6 2).trans rfl
    go_upto_region 20 with (first | ((with_reducible refine gate_callee (f := 28) rfl ?_); refine goesL_ (some 48) rfl rfl Try.func28 (by kernel_rfl) rfl #[.agg #[.int .i64 g1, .string g2, .slice Ag Lg.length cg], .int .i64 1] rfl (by (try simp only [List.map_toArray, List.map_cons, List.map_nil]); first | done | rfl) ?_; (with_reducible refine ((show Calls Try.prog 28 #[.agg #[.int .i64 g1, .string g2, .slice Ag Lg.length cg], .int .i64 1] _ (fun e w' => e = .returned (.int .i64 hq) ∧ Below _ _ w') from by rw [HL.out]; exact laws_heldItem.calls k g1 g2 _ _ Lq 1 hq _ (Kd.R_reads' (S_plain HS.out.rg)).2.2 (HL.out ▸ (Kd.R_reads' (S_plain HS.out.rg)).2.1) S9.out)).mono ?_); rintro e w15_ ⟨rfl, hb⟩; refine ⟨_, rfl, ?_⟩; replace HS := Aside0.mk (HS.out.below hb); clear hb))
    clear hzg6_0 hzg6_1 hzg6_2
    go_upto_region 24 with (first | fail)
    go_upto_region 25 with (first | ((with_reducible refine gate_callee (f := 22) rfl ?_); refine goesL_ (some 55) rfl rfl Try.func22 (by kernel_rfl) rfl #[.slice A0 l0.length c0] rfl (by (try simp only [List.map_toArray, List.map_cons, List.map_nil]); first | done | rfl) ?_; (with_reducible refine (laws_toItemS.calls k _ _ l0 L _ (Kd.C_below HR0.out HS.out.bel) HC0.out S2.out).mono ?_); rintro e w16_ ⟨vt, rfl, ht, hb⟩; refine ⟨_, rfl, ?_⟩; have HT := Aside0.mk (S_plain ht); clear ht; replace HS := Aside0.mk (HS.out.below hb); clear hb; obtain ⟨At, ct, et⟩ := Kd.R_slice HT.out; subst et) | ((with_reducible refine gate_callee (f := 23) rfl ?_); refine goesL_ (some 56) rfl rfl Try.func23 (by kernel_rfl) rfl #[.slice At L.length ct] rfl (by (try simp only [List.map_toArray, List.map_cons, List.map_nil]); first | done | rfl) ?_; (with_reducible refine (impl_ListItem.calls k _ _ L g1 g2 Lg _ (C_apart (Kd.R_reads' HT.out).2.2) (Kd.R_reads' HT.out).2.1 S4.out).mono ?_); rintro e w17_ ⟨vh, rfl, ht, hb⟩; refine ⟨_, rfl, ?_⟩; have HH := Aside0.mk (S_plain ht); clear ht; replace HS := Aside0.mk (HS.out.below hb); clear hb; clear HT; obtain ⟨Ah, ch, eh⟩ := Kd.R_slice HH.out; subst eh) | (refine lk_alloc _ _ rfl 26 _ rfl (lk_alloc_run _) ?_) | (refine lk_store _ _ rfl 26 (.tmp 10) (.tmp 56) _ _ rfl rfl rfl rfl (lk_store_run _ _ _ (heap_alloc_new _ _) rfl _ _ _ rfl) ?_))
    (try simp only [Act.put, List.setIfInBounds_toArray, List.set_cons_zero, List.set_cons_succ])
    have hx_ := (lk_boxed w17_ #[.int .i64 g1, .string g2, .slice Ah Lg.length ch] rfl).1
    have hb_ := (lk_boxed w17_ #[.int .i64 g1, .string g2, .slice Ah Lg.length ch] rfl).2
    generalize (w17_.alloc (.cells #[.int .i64 0, .string (⟨#[]⟩ : ByteArray), .slice none 0 0] 26)).setRow w17_.heap.size #[.int .i64 g1, .string g2, .slice Ah Lg.length ch] = w18_ at hx_ hb_ ⊢
    obtain ⟨g10, hg10⟩ : ∃ b, b = w17_.heap.size := ⟨_, rfl⟩
    rw [← hg10] at hx_ ⊢
    replace HS := Aside0.mk (HS.out.below hb_)
    replace HH := Aside0.mk (Kd.R_below HH.out hb_)
    have hzh_0 : w18_.cell? ⟨g10, 0, none⟩ = some (.int .i64 g1) := (blk_cell hx_ 0).trans rfl
    have hzh_1 : w18_.cell? ⟨g10, 1, none⟩ = some (.string g2) := (blk_cell hx_ 1).trans rfl
    have hzh_2 : w18_.cell? ⟨g10, 2, none⟩ = some (.slice Ah Lg.length ch) := (blk_cell hx_ 2).trans rfl
    clear hx_ hb_ hg10
    have hzg4_0 : w18_.cell? ⟨g4, 0, none⟩ = some (.int .i64 w1) := (blk_cell HS.out.b4 0).trans rfl
    have hzg4_1 : w18_.cell? ⟨g4, 1, none⟩ = some (.string w2) := (blk_cell HS.out.b4 1).trans rfl
    have hzg4_2 : w18_.cell? ⟨g4, 2, none⟩ = some (.slice Aw Lw.length cw) := (blk_cell HS.out.b4 2).trans rfl
    go_upto_region 27 with (first | ((with_reducible refine gate_callee (f := 24) rfl ?_); refine goesL_ (some 59) rfl rfl Try.func24 (by kernel_rfl) rfl #[.agg #[.int .i64 g1, .string g2, .slice Ah Lg.length ch], .agg #[.int .i64 w1, .string w2, .slice Aw Lw.length cw]] rfl (by (try simp only [List.map_toArray, List.map_cons, List.map_nil]); first | done | rfl) ?_; (with_reducible refine (laws_eqItem.calls k g1 g2 _ _ Lg w1 w2 _ _ Lw true _ (Kd.R_reads' HH.out).2.2 (Kd.R_reads' HH.out).2.1 (Kd.R_reads' HS.out.rw).2.2 (Kd.R_reads' HS.out.rw).2.1 S5.out).mono ?_); rintro e w19_ ⟨rfl, hb⟩; refine ⟨_, rfl, ?_⟩; replace HS := Aside0.mk (HS.out.below hb); clear hb; clear HH))
    clear hzg4_0 hzg4_1 hzg4_2
    clear hzh_0 hzh_1 hzh_2
    have hzg6_0 : w19_.cell? ⟨g6, 0, none⟩ = some (.int .i64 g1) := (blk_cell HS.out.b6 0).trans rfl
    have hzg6_1 : w19_.cell? ⟨g6, 1, none⟩ = some (.string g2) := (blk_cell HS.out.b6 1).trans rfl
    have hzg6_2 : w19_.cell? ⟨g6, 2, none⟩ = some (.slice Ag Lg.length cg) := (blk_cell HS.out.b6 2).trans rfl
    go_upto_region 29 with (first | ((with_reducible refine gate_callee (f := 28) rfl ?_); refine goesL_ (some 63) rfl rfl Try.func28 (by kernel_rfl) rfl #[.agg #[.int .i64 g1, .string g2, .slice Ag Lg.length cg], .int .i64 1] rfl (by (try simp only [List.map_toArray, List.map_cons, List.map_nil]); first | done | rfl) ?_; (with_reducible refine ((show Calls Try.prog 28 #[.agg #[.int .i64 g1, .string g2, .slice Ag Lg.length cg], .int .i64 1] _ (fun e w' => e = .returned (.int .i64 hq) ∧ Below _ _ w') from by rw [HL.out]; exact laws_heldItem.calls k g1 g2 _ _ Lq 1 hq _ (Kd.R_reads' (S_plain HS.out.rg)).2.2 (HL.out ▸ (Kd.R_reads' (S_plain HS.out.rg)).2.1) S9.out)).mono ?_); rintro e w20_ ⟨rfl, hb⟩; refine ⟨_, rfl, ?_⟩; replace HS := Aside0.mk (HS.out.below hb); clear hb))
    clear hzg6_0 hzg6_1 hzg6_2
    go_wp2
    go_ret
    exact ⟨rfl, HS.out.bel⟩
end Go.Proofs.Ytknalcnbkbkjdaa.GAFnExactListItem
