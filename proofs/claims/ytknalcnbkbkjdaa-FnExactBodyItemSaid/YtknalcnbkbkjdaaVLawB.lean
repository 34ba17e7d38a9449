-- Written by a program of this session.
import Derived.Test.YtknalcnbkbkjdaaVMarkB
import Derived.Test.YtknalcnbkbkjdaaVLawKitB
import Derived.Test.YtknalcnbkbkjdaaVBodyB
namespace Go.Proofs.Ytknalcnbkbkjdaa.GAFnExactBodyItem
open Go.RowKit Go.Proofs.YtknalcnbkbkjdaaW.PrintWords Go.Proofs.YtknalcnbkbkjdaaW.PrintLast Go.Proofs.YtknalcnbkbkjdaaW.PrintMore Go.Proofs.Ytknalcnbkbkjdaa.GFnExactBodyItem
attribute [local go_sem] max2_int min2_int max_two min_two max_three min_three max_four min_four
set_option linter.unusedVariables false
set_option linter.unusedSimpArgs false
/-! ### laws_FnExactBodyItem: function 6, by hand (lawbody.py) -/
def laws_FnExactBodyItem.f (k : Nat) (a0 : Int) (a1 a2 : ByteArray) (a3 a4 : Int) (a5 : ByteArray) (a6 : Bool) (a7 a8 : Int) (l9 : List Int) (l10 l11 : List ByteArray) (a12 : ByteArray) : Option Bool :=
  (laws_szCert.f k a0 a1 a2 a3 a4 a5 a6 a7 a8 l9 l10 l11 a12 1048576).bind fun n => if n < 0 then some true else
  ((laws_toCert.f k a0 a1 a2 a3 a4 a5 a6 a7 a8 l9 l10 l11 a12).bind fun x => (spec_BodyItem.f k x.1 x.2.1 x.2.2.1 x.2.2.2.1 x.2.2.2.2.1 x.2.2.2.2.2.1 x.2.2.2.2.2.2.1 x.2.2.2.2.2.2.2.1 x.2.2.2.2.2.2.2.2.1 x.2.2.2.2.2.2.2.2.2.1 x.2.2.2.2.2.2.2.2.2.2.1 x.2.2.2.2.2.2.2.2.2.2.2.1 x.2.2.2.2.2.2.2.2.2.2.2.2).bind fun w => (impl_BodyItem.f k x.1 x.2.1 x.2.2.1 x.2.2.2.1 x.2.2.2.2.1 x.2.2.2.2.2.1 x.2.2.2.2.2.2.1 x.2.2.2.2.2.2.2.1 x.2.2.2.2.2.2.2.2.1 x.2.2.2.2.2.2.2.2.2.1 x.2.2.2.2.2.2.2.2.2.2.1 x.2.2.2.2.2.2.2.2.2.2.2.1 x.2.2.2.2.2.2.2.2.2.2.2.2).bind fun g =>
  (laws_eqItem.f k g.1 g.2.1 g.2.2 w.1 w.2.1 w.2.2).bind fun b1 => if b1 = true then ((laws_eqCert.f k x.1 x.2.1 x.2.2.1 x.2.2.2.1 x.2.2.2.2.1 x.2.2.2.2.2.1 x.2.2.2.2.2.2.1 x.2.2.2.2.2.2.2.1 x.2.2.2.2.2.2.2.2.1 x.2.2.2.2.2.2.2.2.2.1 x.2.2.2.2.2.2.2.2.2.2.1 x.2.2.2.2.2.2.2.2.2.2.2.1 x.2.2.2.2.2.2.2.2.2.2.2.2 x.1 x.2.1 x.2.2.1 x.2.2.2.1 x.2.2.2.2.1 x.2.2.2.2.2.1 x.2.2.2.2.2.2.1 x.2.2.2.2.2.2.2.1 x.2.2.2.2.2.2.2.2.1 x.2.2.2.2.2.2.2.2.2.1 x.2.2.2.2.2.2.2.2.2.2.1 x.2.2.2.2.2.2.2.2.2.2.2.1 x.2.2.2.2.2.2.2.2.2.2.2.2).bind fun b2 => if b2 = true then
  ((laws_markCert.f k x.1 x.2.1 x.2.2.1 x.2.2.2.1 x.2.2.2.2.1 x.2.2.2.2.2.1 x.2.2.2.2.2.2.1 x.2.2.2.2.2.2.2.1 x.2.2.2.2.2.2.2.2.1 x.2.2.2.2.2.2.2.2.2.1 x.2.2.2.2.2.2.2.2.2.2.1 x.2.2.2.2.2.2.2.2.2.2.2.1 x.2.2.2.2.2.2.2.2.2.2.2.2 1).bind fun m => if m.1 < 0 then none else
  ((laws_markItem.f k g.1 g.2.1 g.2.2 1).bind fun q => (laws_heldItem.f k g.1 g.2.1 q.2 1).bind fun hq => if hq < 0 then none else if hq = q.1 then some true else none)) else none) else none)
def laws_FnExactBodyItem.T10 : Bool × List (List Nat × List Nat) := (true, [([], []), ([], []), ([1], [1]), ([0, 2, 2], [0, 2]), ([3], [3])])
def laws_FnExactBodyItem.B10 : List Nat := [0, 0, 2, 7, 15]
theorem laws_FnExactBodyItem.tab10 : rtab .any (opsOf Try.f6 10) = laws_FnExactBodyItem.T10 := by kernel_rfl
theorem laws_FnExactBodyItem.bits10 : waitsOk laws_FnExactBodyItem.T10.2 laws_FnExactBodyItem.B10 = true := by kernel_rfl
theorem lk_alloc_run52 (w : World) : (Instr.alloc 52 true (.tuple #[])).run Try.prog w = .ok (.pointer (some ⟨w.heap.size, 0, none⟩)) (w.alloc (.cells #[.int .i64 0, .string (⟨#[]⟩ : ByteArray), .string (⟨#[]⟩ : ByteArray), .int .i64 0, .int .i64 0, .string (⟨#[]⟩ : ByteArray), .bool false, .int .i64 0, .int .i64 0, .slice none 0 0, .slice none 0 0, .slice none 0 0, .string (⟨#[]⟩ : ByteArray)] 52)) := by kernel_rfl
theorem lk_store_run52 (w : World) (b : Nat) (old : Array Value) (hb : w.heap[b]? = some (.cells old 52 (0, 0))) (ho : old.size = 13) (n0 : Int) (s1 s2 : ByteArray) (n3 n4 : Int) (s5 : ByteArray) (f6 : Bool) (n7 n8 : Int) (s12 : ByteArray) (A9 A10 A11 : Option Addr) (m9 m10 m11 c9 c10 c11 : Nat) :
    (Instr.storeAt 52 (.pointer (some ⟨b, 0, none⟩)) (.agg #[.int .i64 n0, .string s1, .string s2, .int .i64 n3, .int .i64 n4, .string s5, .bool f6, .int .i64 n7, .int .i64 n8, .slice A9 m9 c9, .slice A10 m10 c10, .slice A11 m11 c11, .string s12])).run Try.prog w = .ok () (w.setRow b #[.int .i64 n0, .string s1, .string s2, .int .i64 n3, .int .i64 n4, .string s5, .bool f6, .int .i64 n7, .int .i64 n8, .slice A9 m9 c9, .slice A10 m10 c10, .slice A11 m11 c11, .string s12]) := by
  simp only [Instr.storeAt, Instr.sureAddr, Sem.run_bind, Sem.run_pure, Result.andThen]
  refine run_storeVar_row w b 52 52 old _ hb (by kernel_rfl) ho ?_
  rw [Array.all_eq_true_iff_forall_mem]
  intro u hu
  simp only [List.mem_toArray, List.mem_cons, List.not_mem_nil, or_false] at hu
  rcases hu with rfl | rfl | rfl | rfl | rfl | rfl | rfl | rfl | rfl | rfl | rfl | rfl | rfl <;> rfl
theorem lk_boxedG (W : World) (z cs : Array Value) (t : TypeId) : ((W.alloc (.cells z t)).setRow W.heap.size cs).heap[W.heap.size]? = some (.cells cs t (0, 0)) ∧ Below W.heap.size W ((W.alloc (.cells z t)).setRow W.heap.size cs) :=
  ⟨setRow_heap _ _ _ _ t _ (heap_alloc_new W _), below_setRow (below_alloc (Below.refl _ _) _) (Nat.le_refl _) _⟩
structure LS (w W : World) (ga g4 g5 g6 bx bm bz : Nat) (csA csX : Array Value) (tw : Int) (xw : ByteArray) (tg : Int) (xg : ByteArray) (vw vg : Value) (Lw Lg : List S26) : Prop where
  bel : Below w.heap.size w W
  ca : W.heap[ga]? = some (.cells csA 49 (0, 0))
  c4 : W.heap[g4]? = some (.cells #[.int .i64 tw, .string xw, vw] 26 (0, 0))
  c5 : W.heap[g5]? = some (.cells csX 52 (0, 0))
  c6 : W.heap[g6]? = some (.cells #[.int .i64 tg, .string xg, vg] 26 (0, 0))
  rw : Kd.N Go.Proofs.Ytknalcnbkbkjdaa.GFnExactBodyItem.k26 26 W w.heap.size (fun k => k < bx) vw Lw
  rg : Kd.S k26 26 W w.heap.size (fun k => bz ≤ k ∧ k ≠ g6) vg Lg
  na : ga < bx
  n4 : g4 < bx
  n5 : bm ≤ g5 ∧ g5 < bz
  n6 : bz ≤ g6
  nb : bx ≤ bm
section
variable {w W W' : World} {ga g4 g5 g6 bx bm bz : Nat} {csA csX : Array Value} {tw tg : Int} {xw xg : ByteArray} {vw vg : Value} {Lw Lg Lg' : List S26}
theorem LS.below (h : LS w W ga g4 g5 g6 bx bm bz csA csX tw xw tg xg vw vg Lw Lg) (hb : Below W.heap.size W W') : LS w W' ga g4 g5 g6 bx bm bz csA csX tw xw tg xg vw vg Lw Lg :=
  ⟨below_step h.bel hb, blk_below h.ca hb, blk_below h.c4 hb, blk_below h.c5 hb, blk_below h.c6 hb, Kd.N_below h.rw hb, Kd.S_below h.rg hb, h.na, h.n4, h.n5, h.n6, h.nb⟩
theorem LS.drew (h : LS w W ga g4 g5 g6 bx bm bz csA csX tw xw tg xg vw vg Lw Lg) : LS w W.drew ga g4 g5 g6 bx bm bz csA csX tw xw tg xg vw vg Lw Lg := h.below (below_drew1 (Below.refl _ _))
theorem LS.markx (h : LS w W ga g4 g5 g6 bx bm bz csA csX tw xw tg xg vw vg Lw Lg) {S : Nat → Prop} (hS : ∀ k, S k → bx ≤ k ∧ k < bm) (hb : Below w.heap.size w W') (hk : Kept W W' S) : LS w W' ga g4 g5 g6 bx bm bz csA csX tw xw tg xg vw vg Lw Lg := by
  have h1 := h.na
  have h2 := h.n4
  have h3 := h.n5
  have h4 := h.n6
  have h5 := h.nb
  exact ⟨hb, blk_kept h.ca hk (fun q => by have := hS _ q; omega), blk_kept h.c4 hk (fun q => by have := hS _ q; omega), blk_kept h.c5 hk (fun q => by have := hS _ q; omega), blk_kept h.c6 hk (fun q => by have := hS _ q; omega), Kd.N_kept h.rw hk (fun k hk q => by have := hS _ q; omega), Kd.S_kept h.rg hk (fun k hk q => by have := hS _ q; omega), h1, h2, h3, h4, h5⟩
theorem LS.markg (h : LS w W ga g4 g5 g6 bx bm bz csA csX tw xw tg xg vw vg Lw Lg) (hi : Kd.S k26 26 W' w.heap.size (fun k => bz ≤ k ∧ k ≠ g6) vg Lg') (hb : Below w.heap.size w W') (hk : Kept W W' (fun k => bz ≤ k ∧ k ≠ g6)) : LS w W' ga g4 g5 g6 bx bm bz csA csX tw xw tg xg vw vg Lw Lg' := by
  have h1 := h.na
  have h2 := h.n4
  have h3 := h.n5
  have h4 := h.n6
  have h5 := h.nb
  exact ⟨hb, blk_kept h.ca hk (by omega), blk_kept h.c4 hk (by omega), blk_kept h.c5 hk (by omega), blk_kept h.c6 hk (by omega), Kd.N_kept h.rw hk (fun k hk => by omega), hi, h1, h2, h3, h4, h5⟩
end
set_option maxHeartbeats 8000000 in
set_option maxRecDepth 100000 in
theorem laws_FnExactBodyItem.calls (k : Nat) (a0 : Int) (a1 a2 : ByteArray) (a3 a4 : Int) (a5 : ByteArray) (a6 : Bool) (a7 a8 : Int) (A9 : Option Addr) (c9 : Nat) (l9 : List Int) (A10 : Option Addr) (c10 : Nat) (l10 : List ByteArray) (A11 : Option Addr) (c11 : Nat) (l11 : List ByteArray) (a12 : ByteArray) (r : Bool) (w : World) (hr9 : Kd.C (Kd.int .i64) w A9 l9.length l9) (hc9 : l9.length ≤ c9) (hr10 : Kd.C Kd.string w A10 l10.length l10) (hc10 : l10.length ≤ c10) (hr11 : Kd.C Kd.string w A11 l11.length l11) (hc11 : l11.length ≤ c11) (h : laws_FnExactBodyItem.f k a0 a1 a2 a3 a4 a5 a6 a7 a8 l9 l10 l11 a12 = some r) :
    Calls Try.prog 6 #[.agg #[.int .i64 a0, .string a1, .string a2, .int .i64 a3, .int .i64 a4, .string a5, .bool a6, .int .i64 a7, .int .i64 a8, .slice A9 l9.length c9, .slice A10 l10.length c10, .slice A11 l11.length c11, .string a12]] w fun e w' => e = .returned (.bool r) ∧ Below w.heap.size w w' := by
  have hu26 := Try.underlying26
  have hu49 := Try.underlying49
  have hu52 := Try.underlying52
  have HB := Aside0.mk (Below.refl w.heap.size w)
  have R9 := Aside0.mk hr9
  have R10 := Aside0.mk hr10
  have R11 := Aside0.mk hr11
  have H9 := Aside0.mk hc9
  have H10 := Aside0.mk hc10
  have H11 := Aside0.mk hc11
  clear hr9 hc9 hr10 hc10 hr11 hc11
  simp only [laws_FnExactBodyItem.f] at h
  replace h := Option.bind_eq_some_iff.mp h
  obtain ⟨n, A1, h⟩ := h
  have S1 := Aside0.mk A1
  clear A1
  by_cases c1 : n < 0
  · rw [if_pos c1] at h
    obtain rfl := Option.some.inj h
    have c1b : decide (n < 0) = true := decide_eq_true c1
    clear h c1
    go_enter Try.func6, Try.ntmps6
    go_upto_region 2 with ((with_reducible refine gate_dst (N := 1) rfl ?_); refine box_event ?hg (N := 1) ?hd (cs := #[.int .i64 a0, .string a1, .string a2, .int .i64 a3, .int .i64 a4, .string a5, .bool a6, .int .i64 a7, .int .i64 a8, .slice A9 l9.length c9, .slice A10 l10.length c10, .slice A11 l11.length c11, .string a12]) (t := 49) ?hr ?_; (case hd => rfl); (case hg => rfl); (case hr => first | (go_simp; done) | (go_simp; rfl)); intro ga hga w1_ hbox hb; have HA := Aside0.mk hbox; have NA := Aside0.mk (show ga < w1_.heap.size from blk_lt hbox); replace HB := Aside0.mk (below_step HB.out hb); clear hbox hb hga)
    have hza_0 : w1_.cell? ⟨ga, 0, none⟩ = some (.int .i64 a0) := (blk_cell HA.out 0).trans rfl
    have hza_1 : w1_.cell? ⟨ga, 1, none⟩ = some (.string a1) := (blk_cell HA.out 1).trans rfl
    have hza_2 : w1_.cell? ⟨ga, 2, none⟩ = some (.string a2) := (blk_cell HA.out 2).trans rfl
    have hza_3 : w1_.cell? ⟨ga, 3, none⟩ = some (.int .i64 a3) := (blk_cell HA.out 3).trans rfl
    have hza_4 : w1_.cell? ⟨ga, 4, none⟩ = some (.int .i64 a4) := (blk_cell HA.out 4).trans rfl
    have hza_5 : w1_.cell? ⟨ga, 5, none⟩ = some (.string a5) := (blk_cell HA.out 5).trans rfl
    have hza_6 : w1_.cell? ⟨ga, 6, none⟩ = some (.bool a6) := (blk_cell HA.out 6).trans rfl
    have hza_7 : w1_.cell? ⟨ga, 7, none⟩ = some (.int .i64 a7) := (blk_cell HA.out 7).trans rfl
    have hza_8 : w1_.cell? ⟨ga, 8, none⟩ = some (.int .i64 a8) := (blk_cell HA.out 8).trans rfl
    have hza_9 : w1_.cell? ⟨ga, 9, none⟩ = some (.slice A9 l9.length c9) := (blk_cell HA.out 9).trans rfl
    have hza_10 : w1_.cell? ⟨ga, 10, none⟩ = some (.slice A10 l10.length c10) := (blk_cell HA.out 10).trans rfl
    have hza_11 : w1_.cell? ⟨ga, 11, none⟩ = some (.slice A11 l11.length c11) := (blk_cell HA.out 11).trans rfl
    have hza_12 : w1_.cell? ⟨ga, 12, none⟩ = some (.string a12) := (blk_cell HA.out 12).trans rfl
    go_wp2_with (first | ((with_reducible refine gate_callee (f := 29) rfl ?_); refine goesL_ (some 13) rfl rfl Try.func29 (by kernel_rfl) rfl #[.agg #[.int .i64 a0, .string a1, .string a2, .int .i64 a3, .int .i64 a4, .string a5, .bool a6, .int .i64 a7, .int .i64 a8, .slice A9 l9.length c9, .slice A10 l10.length c10, .slice A11 l11.length c11, .string a12], .int .i64 1048576] rfl (by (try simp only [List.map_toArray, List.map_cons, List.map_nil]); first | done | rfl) ?_; (with_reducible refine (laws_szCert.calls k a0 a1 a2 a3 a4 a5 a6 a7 a8 A9 c9 l9 A10 c10 l10 A11 c11 l11 a12 1048576 n _ (Kd.C_below R9.out HB.out) H9.out (Kd.C_below R10.out HB.out) H10.out (Kd.C_below R11.out HB.out) H11.out S1.out).mono ?_); rintro e w2_ ⟨rfl, hb⟩; refine ⟨_, rfl, ?_⟩; replace HA := Aside0.mk (blk_below HA.out hb); replace NA := Aside0.mk (Nat.lt_of_lt_of_le NA.out hb.size); replace HB := Aside0.mk (below_step HB.out hb); clear hb))
    go_ret
    exact ⟨rfl, HB.out⟩
  · rw [if_neg c1] at h
    have c1b : decide (n < 0) = false := decide_eq_false c1
    replace h := Option.bind_eq_some_iff.mp h
    obtain ⟨⟨n0, s1, s2, n3, n4, s5, f6, n7, n8, r9, r10, r11, s12⟩, A2, h⟩ := h
    replace h := Option.bind_eq_some_iff.mp h
    obtain ⟨⟨tw, xw, Lw⟩, A3, h⟩ := h
    replace h := Option.bind_eq_some_iff.mp h
    obtain ⟨⟨tg, xg, Lg⟩, A4, h⟩ := h
    replace h := Option.bind_eq_some_iff.mp h
    obtain ⟨b1, A5, h⟩ := h
    by_cases e1 : b1 = true
    case neg => rw [if_neg e1] at h; cases h
    rw [if_pos e1] at h
    subst e1
    replace h := Option.bind_eq_some_iff.mp h
    obtain ⟨b2, A6, h⟩ := h
    by_cases e2 : b2 = true
    case neg => rw [if_neg e2] at h; cases h
    rw [if_pos e2] at h
    subst e2
    replace h := Option.bind_eq_some_iff.mp h
    obtain ⟨⟨m1, M9, M10, M11⟩, A7, h⟩ := h
    by_cases c2 : m1 < 0
    case pos => rw [if_pos c2] at h; cases h
    rw [if_neg c2] at h
    replace h := Option.bind_eq_some_iff.mp h
    obtain ⟨⟨q1, Lq⟩, A8, h⟩ := h
    replace h := Option.bind_eq_some_iff.mp h
    obtain ⟨hq, A9_, h⟩ := h
    by_cases c3 : hq < 0
    case pos => rw [if_pos c3] at h; cases h
    rw [if_neg c3] at h
    by_cases c4 : hq = q1
    case neg => exact absurd h (by rw [if_neg c4]; simp)
    obtain rfl := Option.some.inj ((if_pos c4).symm.trans h)
    subst c4
    have c2b : decide (m1 < 0) = false := decide_eq_false c2
    have c3b : decide (hq < 0) = false := decide_eq_false c3
    have c4b : (hq != hq) = false := by simp
    have S2 := Aside0.mk A2
    have S3 := Aside0.mk A3
    have S4 := Aside0.mk A4
    have S5 := Aside0.mk A5
    have S6 := Aside0.mk A6
    have S7 := Aside0.mk A7
    have S8 := Aside0.mk A8
    have S9 := Aside0.mk A9_
    clear h c1 c2 c3 A2 A3 A4 A5 A6 A7 A8 A9_
    go_enter Try.func6, Try.ntmps6
    go_upto_region 2 with ((with_reducible refine gate_dst (N := 1) rfl ?_); refine box_event ?hg (N := 1) ?hd (cs := #[.int .i64 a0, .string a1, .string a2, .int .i64 a3, .int .i64 a4, .string a5, .bool a6, .int .i64 a7, .int .i64 a8, .slice A9 l9.length c9, .slice A10 l10.length c10, .slice A11 l11.length c11, .string a12]) (t := 49) ?hr ?_; (case hd => rfl); (case hg => rfl); (case hr => first | (go_simp; done) | (go_simp; rfl)); intro ga hga w1_ hbox hb; have HA := Aside0.mk hbox; have NA := Aside0.mk (show ga < w1_.heap.size from blk_lt hbox); replace HB := Aside0.mk (below_step HB.out hb); clear hbox hb hga)
    have hza_0 : w1_.cell? ⟨ga, 0, none⟩ = some (.int .i64 a0) := (blk_cell HA.out 0).trans rfl
    have hza_1 : w1_.cell? ⟨ga, 1, none⟩ = some (.string a1) := (blk_cell HA.out 1).trans rfl
    have hza_2 : w1_.cell? ⟨ga, 2, none⟩ = some (.string a2) := (blk_cell HA.out 2).trans rfl
    have hza_3 : w1_.cell? ⟨ga, 3, none⟩ = some (.int .i64 a3) := (blk_cell HA.out 3).trans rfl
    have hza_4 : w1_.cell? ⟨ga, 4, none⟩ = some (.int .i64 a4) := (blk_cell HA.out 4).trans rfl
    have hza_5 : w1_.cell? ⟨ga, 5, none⟩ = some (.string a5) := (blk_cell HA.out 5).trans rfl
    have hza_6 : w1_.cell? ⟨ga, 6, none⟩ = some (.bool a6) := (blk_cell HA.out 6).trans rfl
    have hza_7 : w1_.cell? ⟨ga, 7, none⟩ = some (.int .i64 a7) := (blk_cell HA.out 7).trans rfl
    have hza_8 : w1_.cell? ⟨ga, 8, none⟩ = some (.int .i64 a8) := (blk_cell HA.out 8).trans rfl
    have hza_9 : w1_.cell? ⟨ga, 9, none⟩ = some (.slice A9 l9.length c9) := (blk_cell HA.out 9).trans rfl
    have hza_10 : w1_.cell? ⟨ga, 10, none⟩ = some (.slice A10 l10.length c10) := (blk_cell HA.out 10).trans rfl
    have hza_11 : w1_.cell? ⟨ga, 11, none⟩ = some (.slice A11 l11.length c11) := (blk_cell HA.out 11).trans rfl
    have hza_12 : w1_.cell? ⟨ga, 12, none⟩ = some (.string a12) := (blk_cell HA.out 12).trans rfl
    go_upto_region 5 with (first | ((with_reducible refine gate_callee (f := 29) rfl ?_); refine goesL_ (some 13) rfl rfl Try.func29 (by kernel_rfl) rfl #[.agg #[.int .i64 a0, .string a1, .string a2, .int .i64 a3, .int .i64 a4, .string a5, .bool a6, .int .i64 a7, .int .i64 a8, .slice A9 l9.length c9, .slice A10 l10.length c10, .slice A11 l11.length c11, .string a12], .int .i64 1048576] rfl (by (try simp only [List.map_toArray, List.map_cons, List.map_nil]); first | done | rfl) ?_; (with_reducible refine (laws_szCert.calls k a0 a1 a2 a3 a4 a5 a6 a7 a8 A9 c9 l9 A10 c10 l10 A11 c11 l11 a12 1048576 n _ (Kd.C_below R9.out HB.out) H9.out (Kd.C_below R10.out HB.out) H10.out (Kd.C_below R11.out HB.out) H11.out S1.out).mono ?_); rintro e w2_ ⟨rfl, hb⟩; refine ⟨_, rfl, ?_⟩; replace HA := Aside0.mk (blk_below HA.out hb); replace NA := Aside0.mk (Nat.lt_of_lt_of_le NA.out hb.size); replace HB := Aside0.mk (below_step HB.out hb); clear hb))
    clear hza_0 hza_1 hza_2 hza_3 hza_4 hza_5 hza_6 hza_7 hza_8 hza_9 hza_10 hza_11 hza_12
    have hza_0 : w2_.cell? ⟨ga, 0, none⟩ = some (.int .i64 a0) := (blk_cell HA.out 0).trans rfl
    have hza_1 : w2_.cell? ⟨ga, 1, none⟩ = some (.string a1) := (blk_cell HA.out 1).trans rfl
    have hza_2 : w2_.cell? ⟨ga, 2, none⟩ = some (.string a2) := (blk_cell HA.out 2).trans rfl
    have hza_3 : w2_.cell? ⟨ga, 3, none⟩ = some (.int .i64 a3) := (blk_cell HA.out 3).trans rfl
    have hza_4 : w2_.cell? ⟨ga, 4, none⟩ = some (.int .i64 a4) := (blk_cell HA.out 4).trans rfl
    have hza_5 : w2_.cell? ⟨ga, 5, none⟩ = some (.string a5) := (blk_cell HA.out 5).trans rfl
    have hza_6 : w2_.cell? ⟨ga, 6, none⟩ = some (.bool a6) := (blk_cell HA.out 6).trans rfl
    have hza_7 : w2_.cell? ⟨ga, 7, none⟩ = some (.int .i64 a7) := (blk_cell HA.out 7).trans rfl
    have hza_8 : w2_.cell? ⟨ga, 8, none⟩ = some (.int .i64 a8) := (blk_cell HA.out 8).trans rfl
    have hza_9 : w2_.cell? ⟨ga, 9, none⟩ = some (.slice A9 l9.length c9) := (blk_cell HA.out 9).trans rfl
    have hza_10 : w2_.cell? ⟨ga, 10, none⟩ = some (.slice A10 l10.length c10) := (blk_cell HA.out 10).trans rfl
    have hza_11 : w2_.cell? ⟨ga, 11, none⟩ = some (.slice A11 l11.length c11) := (blk_cell HA.out 11).trans rfl
    have hza_12 : w2_.cell? ⟨ga, 12, none⟩ = some (.string a12) := (blk_cell HA.out 12).trans rfl
    go_upto_region 6 with (first | ((with_reducible refine gate_callee (f := 31) rfl ?_); refine goesL_ (some 17) rfl rfl Try.func31 (by kernel_rfl) rfl #[.agg #[.int .i64 a0, .string a1, .string a2, .int .i64 a3, .int .i64 a4, .string a5, .bool a6, .int .i64 a7, .int .i64 a8, .slice A9 l9.length c9, .slice A10 l10.length c10, .slice A11 l11.length c11, .string a12]] rfl (by (try simp only [List.map_toArray, List.map_cons, List.map_nil]); first | done | rfl) ?_; (with_reducible refine (laws_toCert.calls k a0 a1 a2 a3 a4 a5 a6 a7 a8 A9 c9 l9 A10 c10 l10 A11 c11 l11 a12 n0 s1 s2 n3 n4 s5 f6 n7 n8 r9 r10 r11 s12 _ (Kd.C_below R9.out HB.out) H9.out (Kd.C_below R10.out HB.out) H10.out (Kd.C_below R11.out HB.out) H11.out S2.out).mono ?_); rintro e w3_ ⟨u9, u10, u11, rfl, hi9, hi10, hi11, hb⟩; refine ⟨_, rfl, ?_⟩; obtain ⟨D9, Dc9, q9⟩ := Kd.R_slice hi9; subst q9; obtain ⟨D10, Dc10, q10⟩ := Kd.R_slice hi10; subst q10; obtain ⟨D11, Dc11, q11⟩ := Kd.R_slice hi11; subst q11; have KD9 := Aside0.mk (Kd.R_reads' hi9).2.2; have MD9 := Aside0.mk (Kd.R_reads' hi9).2.1; have KD10 := Aside0.mk (Kd.R_reads' hi10).2.2; have MD10 := Aside0.mk (Kd.R_reads' hi10).2.1; have KD11 := Aside0.mk (Kd.R_reads' hi11).2.2; have MD11 := Aside0.mk (Kd.R_reads' hi11).2.1; clear hi9 hi10 hi11; replace HA := Aside0.mk (blk_below HA.out hb); replace NA := Aside0.mk (Nat.lt_of_lt_of_le NA.out hb.size); replace HB := Aside0.mk (below_step HB.out hb); clear hb) | ((with_reducible refine gate_callee (f := 30) rfl ?_); refine goesL_ (some 18) rfl rfl Try.func30 (by kernel_rfl) rfl #[.agg #[.int .i64 n0, .string s1, .string s2, .int .i64 n3, .int .i64 n4, .string s5, .bool f6, .int .i64 n7, .int .i64 n8, .slice D9 r9.length Dc9, .slice D10 r10.length Dc10, .slice D11 r11.length Dc11, .string s12]] rfl (by (try simp only [List.map_toArray, List.map_cons, List.map_nil]); first | done | rfl) ?_; (with_reducible refine (spec_BodyItem.calls k n0 s1 s2 n3 n4 s5 f6 n7 n8 D9 Dc9 r9 D10 Dc10 r10 D11 Dc11 r11 s12 tw xw Lw _ KD9.out MD9.out KD10.out MD10.out KD11.out MD11.out S3.out).mono ?_); rintro e w4_ ⟨vw, rfl, hw, hb⟩; refine ⟨_, rfl, ?_⟩; have HW := Aside0.mk (Kd.N_lower hw HB.out.size); replace HA := Aside0.mk (blk_below HA.out hb); replace NA := Aside0.mk (Nat.lt_of_lt_of_le NA.out hb.size); replace HB := Aside0.mk (below_step HB.out hb); clear hb hw KD9 MD9 KD10 MD10 KD11 MD11; obtain ⟨Aw, cw, ew⟩ := Kd.N_slice HW.out; subst ew) | (refine lk_alloc _ _ rfl 26 _ rfl (lk_alloc_run _) ?_) | (refine lk_store _ _ rfl 26 (.tmp 4) (.tmp 18) _ _ rfl rfl rfl rfl (lk_store_run _ _ _ (heap_alloc_new _ _) rfl _ _ _ rfl) ?_))
    clear hza_0 hza_1 hza_2 hza_3 hza_4 hza_5 hza_6 hza_7 hza_8 hza_9 hza_10 hza_11 hza_12
    (try simp only [Act.put, List.setIfInBounds_toArray, List.set_cons_zero, List.set_cons_succ])
    have hx_ := (lk_boxed w4_ #[.int .i64 tw, .string xw, .slice Aw Lw.length cw] rfl).1
    have hb_ := (lk_boxed w4_ #[.int .i64 tw, .string xw, .slice Aw Lw.length cw] rfl).2
    generalize (w4_.alloc (.cells #[.int .i64 0, .string (⟨#[]⟩ : ByteArray), .slice none 0 0] 26)).setRow w4_.heap.size #[.int .i64 tw, .string xw, .slice Aw Lw.length cw] = w5_ at hx_ hb_ ⊢
    obtain ⟨g4, hg4⟩ : ∃ b, b = w4_.heap.size := ⟨_, rfl⟩
    rw [← hg4] at hx_ ⊢
    have HX4 := Aside0.mk hx_
    have HW5 := Aside0.mk (Kd.N_mono (Kd.N_bound (Kd.N_below HW.out hb_)) (fun k hk => hk.2) : Kd.N Go.Proofs.Ytknalcnbkbkjdaa.GFnExactBodyItem.k26 26 w5_ w.heap.size (fun k => k < w5_.heap.size) _ Lw)
    replace HA := Aside0.mk (blk_below HA.out hb_)
    replace NA := Aside0.mk (Nat.lt_of_lt_of_le NA.out hb_.size)
    replace HB := Aside0.mk (below_step HB.out hb_)
    clear hx_ hb_ hg4 HW
    have hza_0 : w5_.cell? ⟨ga, 0, none⟩ = some (.int .i64 a0) := (blk_cell HA.out 0).trans rfl
    have hza_1 : w5_.cell? ⟨ga, 1, none⟩ = some (.string a1) := (blk_cell HA.out 1).trans rfl
    have hza_2 : w5_.cell? ⟨ga, 2, none⟩ = some (.string a2) := (blk_cell HA.out 2).trans rfl
    have hza_3 : w5_.cell? ⟨ga, 3, none⟩ = some (.int .i64 a3) := (blk_cell HA.out 3).trans rfl
    have hza_4 : w5_.cell? ⟨ga, 4, none⟩ = some (.int .i64 a4) := (blk_cell HA.out 4).trans rfl
    have hza_5 : w5_.cell? ⟨ga, 5, none⟩ = some (.string a5) := (blk_cell HA.out 5).trans rfl
    have hza_6 : w5_.cell? ⟨ga, 6, none⟩ = some (.bool a6) := (blk_cell HA.out 6).trans rfl
    have hza_7 : w5_.cell? ⟨ga, 7, none⟩ = some (.int .i64 a7) := (blk_cell HA.out 7).trans rfl
    have hza_8 : w5_.cell? ⟨ga, 8, none⟩ = some (.int .i64 a8) := (blk_cell HA.out 8).trans rfl
    have hza_9 : w5_.cell? ⟨ga, 9, none⟩ = some (.slice A9 l9.length c9) := (blk_cell HA.out 9).trans rfl
    have hza_10 : w5_.cell? ⟨ga, 10, none⟩ = some (.slice A10 l10.length c10) := (blk_cell HA.out 10).trans rfl
    have hza_11 : w5_.cell? ⟨ga, 11, none⟩ = some (.slice A11 l11.length c11) := (blk_cell HA.out 11).trans rfl
    have hza_12 : w5_.cell? ⟨ga, 12, none⟩ = some (.string a12) := (blk_cell HA.out 12).trans rfl
    go_upto_region 7 with (first | ((with_reducible refine gate_callee (f := 31) rfl ?_); refine goesL_ (some 20) rfl rfl Try.func31 (by kernel_rfl) rfl #[.agg #[.int .i64 a0, .string a1, .string a2, .int .i64 a3, .int .i64 a4, .string a5, .bool a6, .int .i64 a7, .int .i64 a8, .slice A9 l9.length c9, .slice A10 l10.length c10, .slice A11 l11.length c11, .string a12]] rfl (by (try simp only [List.map_toArray, List.map_cons, List.map_nil]); first | done | rfl) ?_; (with_reducible refine (laws_toCert.calls k a0 a1 a2 a3 a4 a5 a6 a7 a8 A9 c9 l9 A10 c10 l10 A11 c11 l11 a12 n0 s1 s2 n3 n4 s5 f6 n7 n8 r9 r10 r11 s12 _ (Kd.C_below R9.out HB.out) H9.out (Kd.C_below R10.out HB.out) H10.out (Kd.C_below R11.out HB.out) H11.out S2.out).mono ?_); rintro e w6_ ⟨u9, u10, u11, rfl, hi9, hi10, hi11, hb⟩; refine ⟨_, rfl, ?_⟩; obtain ⟨X9, Xc9, q9⟩ := Kd.R_slice hi9; subst q9; obtain ⟨X10, Xc10, q10⟩ := Kd.R_slice hi10; subst q10; obtain ⟨X11, Xc11, q11⟩ := Kd.R_slice hi11; subst q11; have Y9 := Aside0.mk (Kd.R_lower (Kd.R_mono (Kd.R_bound hi9) (fun k hk => ⟨hk.2.1, hk.2.2.1⟩)) HB.out.size : Kd.R (Kd.int .i64) 3 w6_ w.heap.size (fun k => w5_.heap.size ≤ k ∧ k < w6_.heap.size) _ r9); have Y10 := Aside0.mk (Kd.R_lower (Kd.R_mono (Kd.R_bound hi10) (fun k hk => ⟨⟨hk.2.1, hk.2.2.1⟩, hk.1⟩)) HB.out.size : Kd.R Kd.string 9 w6_ w.heap.size (fun k => (w5_.heap.size ≤ k ∧ k < w6_.heap.size) ∧ some k ≠ (Value.slice X11 r11.length Xc11).ownBlock) _ r10); have Y11 := Aside0.mk (Kd.R_lower (Kd.R_mono (Kd.R_bound hi11) (fun k hk => ⟨hk.2.1, hk.2.2.1⟩)) HB.out.size : Kd.R Kd.string 9 w6_ w.heap.size (fun k => w5_.heap.size ≤ k ∧ k < w6_.heap.size) _ r11); clear hi9 hi10 hi11; have N4 := Aside0.mk (blk_lt HX4.out); replace HX4 := Aside0.mk (blk_below HX4.out hb); have HW6 := Aside0.mk (Kd.N_below HW5.out hb); replace HA := Aside0.mk (blk_below HA.out hb); have N67 := Aside0.mk hb.size; replace HB := Aside0.mk (below_step HB.out hb); clear hb) | (refine lk_alloc _ _ rfl 52 _ rfl (lk_alloc_run52 _) ?_) | (refine lk_store _ _ rfl 52 (.tmp 5) (.tmp 20) _ _ rfl rfl rfl rfl (lk_store_run52 _ _ _ (heap_alloc_new _ _) rfl _ _ _ _ _ _ _ _ _ _ _ _ _ _ _ _ _ _ _) ?_))
    clear hza_0 hza_1 hza_2 hza_3 hza_4 hza_5 hza_6 hza_7 hza_8 hza_9 hza_10 hza_11 hza_12
    (try simp only [Act.put, List.setIfInBounds_toArray, List.set_cons_zero, List.set_cons_succ])
    have hx_ := (lk_boxedG w6_ #[.int .i64 0, .string (⟨#[]⟩ : ByteArray), .string (⟨#[]⟩ : ByteArray), .int .i64 0, .int .i64 0, .string (⟨#[]⟩ : ByteArray), .bool false, .int .i64 0, .int .i64 0, .slice none 0 0, .slice none 0 0, .slice none 0 0, .string (⟨#[]⟩ : ByteArray)] #[.int .i64 n0, .string s1, .string s2, .int .i64 n3, .int .i64 n4, .string s5, .bool f6, .int .i64 n7, .int .i64 n8, .slice X9 r9.length Xc9, .slice X10 r10.length Xc10, .slice X11 r11.length Xc11, .string s12] 52).1
    have hb_ := (lk_boxedG w6_ #[.int .i64 0, .string (⟨#[]⟩ : ByteArray), .string (⟨#[]⟩ : ByteArray), .int .i64 0, .int .i64 0, .string (⟨#[]⟩ : ByteArray), .bool false, .int .i64 0, .int .i64 0, .slice none 0 0, .slice none 0 0, .slice none 0 0, .string (⟨#[]⟩ : ByteArray)] #[.int .i64 n0, .string s1, .string s2, .int .i64 n3, .int .i64 n4, .string s5, .bool f6, .int .i64 n7, .int .i64 n8, .slice X9 r9.length Xc9, .slice X10 r10.length Xc10, .slice X11 r11.length Xc11, .string s12] 52).2
    generalize (w6_.alloc (.cells #[.int .i64 0, .string (⟨#[]⟩ : ByteArray), .string (⟨#[]⟩ : ByteArray), .int .i64 0, .int .i64 0, .string (⟨#[]⟩ : ByteArray), .bool false, .int .i64 0, .int .i64 0, .slice none 0 0, .slice none 0 0, .slice none 0 0, .string (⟨#[]⟩ : ByteArray)] 52)).setRow w6_.heap.size #[.int .i64 n0, .string s1, .string s2, .int .i64 n3, .int .i64 n4, .string s5, .bool f6, .int .i64 n7, .int .i64 n8, .slice X9 r9.length Xc9, .slice X10 r10.length Xc10, .slice X11 r11.length Xc11, .string s12] = w7_ at hx_ hb_ ⊢
    obtain ⟨g5, hg5⟩ : ∃ b, b = w6_.heap.size := ⟨_, rfl⟩
    rw [← hg5] at hx_ ⊢
    have HX5 := Aside0.mk hx_
    have N5 := Aside0.mk (show w6_.heap.size ≤ g5 ∧ g5 < w7_.heap.size from ⟨Nat.le_of_eq hg5.symm, blk_lt hx_⟩)
    replace HX4 := Aside0.mk (blk_below HX4.out hb_)
    replace HW6 := Aside0.mk (Kd.N_below HW6.out hb_)
    replace HA := Aside0.mk (blk_below HA.out hb_)
    replace HB := Aside0.mk (below_step HB.out hb_)
    replace Y9 := Aside0.mk (Kd.R_below Y9.out hb_)
    replace Y10 := Aside0.mk (Kd.R_below Y10.out hb_)
    replace Y11 := Aside0.mk (Kd.R_below Y11.out hb_)
    clear hx_ hb_ hg5 HW5
    have hz5_0 : w7_.cell? ⟨g5, 0, none⟩ = some (.int .i64 n0) := (blk_cell HX5.out 0).trans rfl
    have hz5_1 : w7_.cell? ⟨g5, 1, none⟩ = some (.string s1) := (blk_cell HX5.out 1).trans rfl
    have hz5_2 : w7_.cell? ⟨g5, 2, none⟩ = some (.string s2) := (blk_cell HX5.out 2).trans rfl
    have hz5_3 : w7_.cell? ⟨g5, 3, none⟩ = some (.int .i64 n3) := (blk_cell HX5.out 3).trans rfl
    have hz5_4 : w7_.cell? ⟨g5, 4, none⟩ = some (.int .i64 n4) := (blk_cell HX5.out 4).trans rfl
    have hz5_5 : w7_.cell? ⟨g5, 5, none⟩ = some (.string s5) := (blk_cell HX5.out 5).trans rfl
    have hz5_6 : w7_.cell? ⟨g5, 6, none⟩ = some (.bool f6) := (blk_cell HX5.out 6).trans rfl
    have hz5_7 : w7_.cell? ⟨g5, 7, none⟩ = some (.int .i64 n7) := (blk_cell HX5.out 7).trans rfl
    have hz5_8 : w7_.cell? ⟨g5, 8, none⟩ = some (.int .i64 n8) := (blk_cell HX5.out 8).trans rfl
    have hz5_9 : w7_.cell? ⟨g5, 9, none⟩ = some (.slice X9 r9.length Xc9) := (blk_cell HX5.out 9).trans rfl
    have hz5_10 : w7_.cell? ⟨g5, 10, none⟩ = some (.slice X10 r10.length Xc10) := (blk_cell HX5.out 10).trans rfl
    have hz5_11 : w7_.cell? ⟨g5, 11, none⟩ = some (.slice X11 r11.length Xc11) := (blk_cell HX5.out 11).trans rfl
    have hz5_12 : w7_.cell? ⟨g5, 12, none⟩ = some (.string s12) := (blk_cell HX5.out 12).trans rfl
    go_upto_region 8 with (first | ((with_reducible refine gate_callee (f := 32) rfl ?_); refine goesL_ (some 22) rfl rfl Try.func32 (by kernel_rfl) rfl #[.agg #[.int .i64 n0, .string s1, .string s2, .int .i64 n3, .int .i64 n4, .string s5, .bool f6, .int .i64 n7, .int .i64 n8, .slice X9 r9.length Xc9, .slice X10 r10.length Xc10, .slice X11 r11.length Xc11, .string s12]] rfl (by (try simp only [List.map_toArray, List.map_cons, List.map_nil]); first | done | rfl) ?_; (with_reducible refine (impl_BodyItem.calls k n0 s1 s2 n3 n4 s5 f6 n7 n8 X9 Xc9 r9 X10 Xc10 r10 X11 Xc11 r11 s12 tg xg Lg _ (Kd.R_reads' Y9.out).2.2 (Kd.R_reads' Y9.out).2.1 (Kd.R_reads' Y10.out).2.2 (Kd.R_reads' Y10.out).2.1 (Kd.R_reads' Y11.out).2.2 (Kd.R_reads' Y11.out).2.1 S4.out).mono ?_); rintro e w8_ ⟨vg, rfl, ho, hb⟩; refine ⟨_, rfl, ?_⟩; have HG := Aside0.mk (Kd.S_lower (Kd.S_mono (Kd.S_bound ho) (fun k hk => ⟨hk.2.1, hk.2.2.1⟩)) HB.out.size : Kd.S k26 26 w8_ w.heap.size (fun k => w7_.heap.size ≤ k ∧ k < w8_.heap.size) vg Lg); have N78 := Aside0.mk hb.size; have HX4' := Aside0.mk (blk_below HX4.out hb); have HX5' := Aside0.mk (blk_below HX5.out hb); have HA' := Aside0.mk (blk_below HA.out hb); have HW7 := Aside0.mk (Kd.N_below HW6.out hb); replace Y9 := Aside0.mk (Kd.R_below Y9.out hb); replace Y10 := Aside0.mk (Kd.R_below Y10.out hb); replace Y11 := Aside0.mk (Kd.R_below Y11.out hb); replace HB := Aside0.mk (below_step HB.out hb); clear ho hb HX4 HX5 HA HW6; obtain ⟨Ag, cg, eg⟩ := Kd.S_slice HG.out; subst eg) | (refine lk_alloc _ _ rfl 26 _ rfl (lk_alloc_run _) ?_) | (refine lk_store _ _ rfl 26 (.tmp 6) (.tmp 22) _ _ rfl rfl rfl rfl (lk_store_run _ _ _ (heap_alloc_new _ _) rfl _ _ _ rfl) ?_))
    clear hz5_0 hz5_1 hz5_2 hz5_3 hz5_4 hz5_5 hz5_6 hz5_7 hz5_8 hz5_9 hz5_10 hz5_11 hz5_12
    (try simp only [Act.put, List.setIfInBounds_toArray, List.set_cons_zero, List.set_cons_succ])
    have hx_ := (lk_boxed w8_ #[.int .i64 tg, .string xg, .slice Ag Lg.length cg] rfl).1
    have hb_ := (lk_boxed w8_ #[.int .i64 tg, .string xg, .slice Ag Lg.length cg] rfl).2
    generalize (w8_.alloc (.cells #[.int .i64 0, .string (⟨#[]⟩ : ByteArray), .slice none 0 0] 26)).setRow w8_.heap.size #[.int .i64 tg, .string xg, .slice Ag Lg.length cg] = w9_ at hx_ hb_ ⊢
    obtain ⟨g6, hg6⟩ : ∃ b, b = w8_.heap.size := ⟨_, rfl⟩
    rw [← hg6] at hx_ ⊢
    have HS : Aside0 (LS w w9_ ga g4 g5 g6 w5_.heap.size w6_.heap.size w7_.heap.size #[.int .i64 a0, .string a1, .string a2, .int .i64 a3, .int .i64 a4, .string a5, .bool a6, .int .i64 a7, .int .i64 a8, .slice A9 l9.length c9, .slice A10 l10.length c10, .slice A11 l11.length c11, .string a12] #[.int .i64 n0, .string s1, .string s2, .int .i64 n3, .int .i64 n4, .string s5, .bool f6, .int .i64 n7, .int .i64 n8, .slice X9 r9.length Xc9, .slice X10 r10.length Xc10, .slice X11 r11.length Xc11, .string s12] tw xw tg xg (.slice Aw Lw.length cw) (.slice Ag Lg.length cg) Lw Lg) :=
      ⟨⟨below_step HB.out hb_, blk_below HA'.out hb_, blk_below HX4'.out hb_, blk_below HX5'.out hb_, hx_, Kd.N_below HW7.out hb_, Kd.S_mono (Kd.S_below HG.out hb_) (fun k hk => ⟨hk.1, by have := hk.2; omega⟩), NA.out, N4.out, N5.out, by have := N78.out; omega, N67.out⟩⟩
    replace Y9 := Aside0.mk (Kd.R_below Y9.out hb_)
    replace Y10 := Aside0.mk (Kd.R_below Y10.out hb_)
    replace Y11 := Aside0.mk (Kd.R_below Y11.out hb_)
    clear hx_ hb_ hg6 HA' HX4' HX5' HW7 HG NA N4 N5 N78 N67 HB
    obtain ⟨bx, hbx⟩ : ∃ b, w5_.heap.size = b := ⟨_, rfl⟩
    rw [hbx] at HS Y9 Y10 Y11
    obtain ⟨bm, hbm⟩ : ∃ b, w6_.heap.size = b := ⟨_, rfl⟩
    rw [hbm] at HS Y9 Y10 Y11
    obtain ⟨bz, hbz⟩ : ∃ b, w7_.heap.size = b := ⟨_, rfl⟩
    rw [hbz] at HS
    clear hbx hbm hbz
    have hz6_0 : w9_.cell? ⟨g6, 0, none⟩ = some (.int .i64 tg) := (blk_cell HS.out.c6 0).trans rfl
    have hz6_1 : w9_.cell? ⟨g6, 1, none⟩ = some (.string xg) := (blk_cell HS.out.c6 1).trans rfl
    have hz6_2 : w9_.cell? ⟨g6, 2, none⟩ = some (.slice Ag Lg.length cg) := (blk_cell HS.out.c6 2).trans rfl
    have hz4_0 : w9_.cell? ⟨g4, 0, none⟩ = some (.int .i64 tw) := (blk_cell HS.out.c4 0).trans rfl
    have hz4_1 : w9_.cell? ⟨g4, 1, none⟩ = some (.string xw) := (blk_cell HS.out.c4 1).trans rfl
    have hz4_2 : w9_.cell? ⟨g4, 2, none⟩ = some (.slice Aw Lw.length cw) := (blk_cell HS.out.c4 2).trans rfl
    go_upto_region 10 with (first | ((with_reducible refine gate_callee (f := 24) rfl ?_); refine goesL_ (some 25) rfl rfl Try.func24 (by kernel_rfl) rfl #[.agg #[.int .i64 tg, .string xg, .slice Ag Lg.length cg], .agg #[.int .i64 tw, .string xw, .slice Aw Lw.length cw]] rfl (by (try simp only [List.map_toArray, List.map_cons, List.map_nil]); first | done | rfl) ?_; (with_reducible refine (laws_eqItem.calls k tg xg _ _ Lg tw xw _ _ Lw true _ (Kd.R_reads' (S_plain HS.out.rg)).2.2 (Kd.R_reads' (S_plain HS.out.rg)).2.1 (Kd.N_reads' HS.out.rw).2.2 (Kd.N_reads' HS.out.rw).2.1 S5.out).mono ?_); rintro e w10_ ⟨rfl, hb⟩; refine ⟨_, rfl, ?_⟩; replace HS := Aside0.mk (HS.out.below hb); replace Y9 := Aside0.mk (Kd.R_below Y9.out hb); replace Y10 := Aside0.mk (Kd.R_below Y10.out hb); replace Y11 := Aside0.mk (Kd.R_below Y11.out hb); clear hb))
    clear hz6_0 hz6_1 hz6_2 hz4_0 hz4_1 hz4_2
    replace HS := Aside0.mk HS.out.drew
    replace Y9 := Aside0.mk (Kd.R_drew Y9.out)
    replace Y10 := Aside0.mk (Kd.R_drew Y10.out)
    replace Y11 := Aside0.mk (Kd.R_drew Y11.out)
    refine start_ (n := 5) (S := fun w' => w'.heap[ga]? = some (.cells #[.int .i64 a0, .string a1, .string a2, .int .i64 a3, .int .i64 a4, .string a5, .bool a6, .int .i64 a7, .int .i64 a8, .slice A9 l9.length c9, .slice A10 l10.length c10, .slice A11 l11.length c11, .string a12] 49 (0, 0)) ∧ w'.heap[g5]? = some (.cells #[.int .i64 n0, .string s1, .string s2, .int .i64 n3, .int .i64 n4, .string s5, .bool f6, .int .i64 n7, .int .i64 n8, .slice X9 r9.length Xc9, .slice X10 r10.length Xc10, .slice X11 r11.length Xc11, .string s12] 52 (0, 0))) (ds := []) #[false, false, false, false, false] (by kernel_rfl) rfl rfl ⟨HS.out.ca, HS.out.c5⟩ (fun hHeld => ?_); refine with_tabW laws_FnExactBodyItem.tab10 laws_FnExactBodyItem.bits10 (fun HT_ HW_ => ?_)
    generalize w10_.drew = w11_ at HS Y9 Y10 Y11 hHeld ⊢
    refine take_ (i := 0) (N := some 27) (v := ?_) (a' := ?_) #[true, false, false, false, false] rfl rfl (take_ofW HT_.out HW_.out (by kernel_rfl)) (fun _ _ _ h => h) (Or.inl ⟨by rfl, ?_⟩) hHeld ?_ ?_
    rotate_left
    · rintro w' ⟨h1_, h5_⟩
      have s0_ : w'.cell? ⟨g5, 0, none⟩ = some (.int .i64 n0) := (blk_cell h5_ 0).trans rfl
      have s1_ : w'.cell? ⟨g5, 1, none⟩ = some (.string s1) := (blk_cell h5_ 1).trans rfl
      have s2_ : w'.cell? ⟨g5, 2, none⟩ = some (.string s2) := (blk_cell h5_ 2).trans rfl
      have s3_ : w'.cell? ⟨g5, 3, none⟩ = some (.int .i64 n3) := (blk_cell h5_ 3).trans rfl
      have s4_ : w'.cell? ⟨g5, 4, none⟩ = some (.int .i64 n4) := (blk_cell h5_ 4).trans rfl
      have s5_ : w'.cell? ⟨g5, 5, none⟩ = some (.string s5) := (blk_cell h5_ 5).trans rfl
      have s6_ : w'.cell? ⟨g5, 6, none⟩ = some (.bool f6) := (blk_cell h5_ 6).trans rfl
      have s7_ : w'.cell? ⟨g5, 7, none⟩ = some (.int .i64 n7) := (blk_cell h5_ 7).trans rfl
      have s8_ : w'.cell? ⟨g5, 8, none⟩ = some (.int .i64 n8) := (blk_cell h5_ 8).trans rfl
      have s9_ : w'.cell? ⟨g5, 9, none⟩ = some (.slice X9 r9.length Xc9) := (blk_cell h5_ 9).trans rfl
      have s10_ : w'.cell? ⟨g5, 10, none⟩ = some (.slice X10 r10.length Xc10) := (blk_cell h5_ 10).trans rfl
      have s11_ : w'.cell? ⟨g5, 11, none⟩ = some (.slice X11 r11.length Xc11) := (blk_cell h5_ 11).trans rfl
      have s12_ : w'.cell? ⟨g5, 12, none⟩ = some (.string s12) := (blk_cell h5_ 12).trans rfl
      clear h1_ h5_
      go_simp
      with_reducible rfl
    rotate_left
    · simp only [Act.put, List.setIfInBounds_toArray, List.set_cons_zero, List.set_cons_succ, i64_w, i32_w]
      rfl
    refine take_ (i := 1) (N := some 28) (v := ?_) (a' := ?_) #[true, true, false, false, false] rfl rfl (take_ofW HT_.out HW_.out (by kernel_rfl)) (fun _ _ _ h => h) (Or.inl ⟨by rfl, ?_⟩) hHeld ?_ ?_
    rotate_left
    · rintro w' ⟨h1_, h5_⟩
      have s0_ : w'.cell? ⟨ga, 0, none⟩ = some (.int .i64 a0) := (blk_cell h1_ 0).trans rfl
      have s1_ : w'.cell? ⟨ga, 1, none⟩ = some (.string a1) := (blk_cell h1_ 1).trans rfl
      have s2_ : w'.cell? ⟨ga, 2, none⟩ = some (.string a2) := (blk_cell h1_ 2).trans rfl
      have s3_ : w'.cell? ⟨ga, 3, none⟩ = some (.int .i64 a3) := (blk_cell h1_ 3).trans rfl
      have s4_ : w'.cell? ⟨ga, 4, none⟩ = some (.int .i64 a4) := (blk_cell h1_ 4).trans rfl
      have s5_ : w'.cell? ⟨ga, 5, none⟩ = some (.string a5) := (blk_cell h1_ 5).trans rfl
      have s6_ : w'.cell? ⟨ga, 6, none⟩ = some (.bool a6) := (blk_cell h1_ 6).trans rfl
      have s7_ : w'.cell? ⟨ga, 7, none⟩ = some (.int .i64 a7) := (blk_cell h1_ 7).trans rfl
      have s8_ : w'.cell? ⟨ga, 8, none⟩ = some (.int .i64 a8) := (blk_cell h1_ 8).trans rfl
      have s9_ : w'.cell? ⟨ga, 9, none⟩ = some (.slice A9 l9.length c9) := (blk_cell h1_ 9).trans rfl
      have s10_ : w'.cell? ⟨ga, 10, none⟩ = some (.slice A10 l10.length c10) := (blk_cell h1_ 10).trans rfl
      have s11_ : w'.cell? ⟨ga, 11, none⟩ = some (.slice A11 l11.length c11) := (blk_cell h1_ 11).trans rfl
      have s12_ : w'.cell? ⟨ga, 12, none⟩ = some (.string a12) := (blk_cell h1_ 12).trans rfl
      clear h1_ h5_
      go_simp
      with_reducible rfl
    rotate_left
    · simp only [Act.put, List.setIfInBounds_toArray, List.set_cons_zero, List.set_cons_succ, i64_w, i32_w]
      rfl
    refine one_ (i := 2) (N := some 29) #[true, true, true, false, false] rfl rfl (one_of HT_.out (by kernel_rfl)) (by decide) (fun K hK => ?_)
    refine goes_ Try.func31 (by kernel_rfl) rfl #[.agg #[.int .i64 a0, .string a1, .string a2, .int .i64 a3, .int .i64 a4, .string a5, .bool a6, .int .i64 a7, .int .i64 a8, .slice A9 l9.length c9, .slice A10 l10.length c10, .slice A11 l11.length c11, .string a12]] (by rfl) rfl rfl (by (try simp only [List.map_toArray, List.map_cons, List.map_nil]); first | done | rfl) ?_
    with_reducible refine (laws_toCert.calls k a0 a1 a2 a3 a4 a5 a6 a7 a8 A9 c9 l9 A10 c10 l10 A11 c11 l11 a12 n0 s1 s2 n3 n4 s5 f6 n7 n8 r9 r10 r11 s12 _ (Kd.C_below R9.out HS.out.bel) H9.out (Kd.C_below R10.out HS.out.bel) H10.out (Kd.C_below R11.out HS.out.bel) H11.out S2.out).mono ?_
    rintro e w12_ ⟨u9, u10, u11, rfl, hi9, hi10, hi11, hb⟩
    refine ⟨_, rfl, ?_⟩
    obtain ⟨E9, Ec9, q9⟩ := Kd.R_slice hi9
    subst q9
    obtain ⟨E10, Ec10, q10⟩ := Kd.R_slice hi10
    subst q10
    obtain ⟨E11, Ec11, q11⟩ := Kd.R_slice hi11
    subst q11
    have KE9 := Aside0.mk (Kd.R_reads' hi9).2.2
    have ME9 := Aside0.mk (Kd.R_reads' hi9).2.1
    have KE10 := Aside0.mk (Kd.R_reads' hi10).2.2
    have ME10 := Aside0.mk (Kd.R_reads' hi10).2.1
    have KE11 := Aside0.mk (Kd.R_reads' hi11).2.2
    have ME11 := Aside0.mk (Kd.R_reads' hi11).2.1
    clear hi9 hi10 hi11
    replace HS := Aside0.mk (HS.out.below hb)
    replace Y9 := Aside0.mk (Kd.R_below Y9.out hb)
    replace Y10 := Aside0.mk (Kd.R_below Y10.out hb)
    replace Y11 := Aside0.mk (Kd.R_below Y11.out hb)
    clear hb
    refine hK.out _ _ ⟨HS.out.ca, HS.out.c5⟩ (fun hHeld => ?_)
    clear hK K
    refine norm_ (a' := ?_) ?_ ?_
    rotate_left
    · show Act.put _ (some 29) _ = _
      simp only [Act.put, List.setIfInBounds_toArray, List.set_cons_zero, List.set_cons_succ, i64_w, i32_w]
      rfl
    refine one_ (i := 3) (N := some 30) #[true, true, true, true, false] rfl rfl (one_of HT_.out (by kernel_rfl)) (by decide) (fun K hK => ?_)
    refine goes_ Try.func33 (by kernel_rfl) rfl #[.agg #[.int .i64 n0, .string s1, .string s2, .int .i64 n3, .int .i64 n4, .string s5, .bool f6, .int .i64 n7, .int .i64 n8, .slice X9 r9.length Xc9, .slice X10 r10.length Xc10, .slice X11 r11.length Xc11, .string s12], .agg #[.int .i64 n0, .string s1, .string s2, .int .i64 n3, .int .i64 n4, .string s5, .bool f6, .int .i64 n7, .int .i64 n8, .slice E9 r9.length Ec9, .slice E10 r10.length Ec10, .slice E11 r11.length Ec11, .string s12]] (by rfl) rfl rfl (by (try simp only [List.map_toArray, List.map_cons, List.map_nil]); first | done | rfl) ?_
    with_reducible refine (laws_eqCert.calls k n0 s1 s2 n3 n4 s5 f6 n7 n8 X9 Xc9 r9 X10 Xc10 r10 X11 Xc11 r11 s12 n0 s1 s2 n3 n4 s5 f6 n7 n8 E9 Ec9 r9 E10 Ec10 r10 E11 Ec11 r11 s12 true _ (Kd.R_reads' Y9.out).2.2 (Kd.R_reads' Y9.out).2.1 (Kd.R_reads' Y10.out).2.2 (Kd.R_reads' Y10.out).2.1 (Kd.R_reads' Y11.out).2.2 (Kd.R_reads' Y11.out).2.1 KE9.out ME9.out KE10.out ME10.out KE11.out ME11.out S6.out).mono ?_
    rintro e w13_ ⟨rfl, hb⟩
    refine ⟨_, rfl, ?_⟩
    replace HS := Aside0.mk (HS.out.below hb)
    replace Y9 := Aside0.mk (Kd.R_below Y9.out hb)
    replace Y10 := Aside0.mk (Kd.R_below Y10.out hb)
    replace Y11 := Aside0.mk (Kd.R_below Y11.out hb)
    clear hb
    clear KE9 ME9 KE10 ME10 KE11 ME11
    refine hK.out _ _ ⟨HS.out.ca, HS.out.c5⟩ (fun hHeld => ?_)
    clear hK K
    refine norm_ (a' := ?_) ?_ ?_
    rotate_left
    · show Act.put _ (some 30) _ = _
      simp only [Act.put, List.setIfInBounds_toArray, List.set_cons_zero, List.set_cons_succ, i64_w, i32_w]
      rfl
    refine pure_ (i := 4) (N := some 31) (v := ?_) (a' := ?_) #[true, true, true, true, true] rfl rfl (any_of HT_.out (by kernel_rfl)) (fun _ _ _ h => h) (Or.inl ⟨by rfl, ?_⟩) ?_ ?_
    rotate_left
    · intro w'
      go_simp
      with_reducible rfl
    rotate_left
    · simp only [Act.put, List.setIfInBounds_toArray, List.set_cons_zero, List.set_cons_succ, i64_w, i32_w]
      rfl
    refine done_ (done_of HT_.out (by kernel_rfl)) ?_
    clear hHeld
    have hz5_0 : w13_.cell? ⟨g5, 0, none⟩ = some (.int .i64 n0) := (blk_cell HS.out.c5 0).trans rfl
    have hz5_1 : w13_.cell? ⟨g5, 1, none⟩ = some (.string s1) := (blk_cell HS.out.c5 1).trans rfl
    have hz5_2 : w13_.cell? ⟨g5, 2, none⟩ = some (.string s2) := (blk_cell HS.out.c5 2).trans rfl
    have hz5_3 : w13_.cell? ⟨g5, 3, none⟩ = some (.int .i64 n3) := (blk_cell HS.out.c5 3).trans rfl
    have hz5_4 : w13_.cell? ⟨g5, 4, none⟩ = some (.int .i64 n4) := (blk_cell HS.out.c5 4).trans rfl
    have hz5_5 : w13_.cell? ⟨g5, 5, none⟩ = some (.string s5) := (blk_cell HS.out.c5 5).trans rfl
    have hz5_6 : w13_.cell? ⟨g5, 6, none⟩ = some (.bool f6) := (blk_cell HS.out.c5 6).trans rfl
    have hz5_7 : w13_.cell? ⟨g5, 7, none⟩ = some (.int .i64 n7) := (blk_cell HS.out.c5 7).trans rfl
    have hz5_8 : w13_.cell? ⟨g5, 8, none⟩ = some (.int .i64 n8) := (blk_cell HS.out.c5 8).trans rfl
    have hz5_9 : w13_.cell? ⟨g5, 9, none⟩ = some (.slice X9 r9.length Xc9) := (blk_cell HS.out.c5 9).trans rfl
    have hz5_10 : w13_.cell? ⟨g5, 10, none⟩ = some (.slice X10 r10.length Xc10) := (blk_cell HS.out.c5 10).trans rfl
    have hz5_11 : w13_.cell? ⟨g5, 11, none⟩ = some (.slice X11 r11.length Xc11) := (blk_cell HS.out.c5 11).trans rfl
    have hz5_12 : w13_.cell? ⟨g5, 12, none⟩ = some (.string s12) := (blk_cell HS.out.c5 12).trans rfl
    have D10 := Aside0.mk (show ∀ k_, (some k_ = (Value.slice X10 r10.length Xc10).ownBlock) → ¬ (some k_ = (Value.slice X11 r11.length Xc11).ownBlock) from fun k_ h1 h2 => (Y10.out.1 k_ h1.symm).2 h2)
    have D11 := Aside0.mk (show ∀ k_, (some k_ = (Value.slice X11 r11.length Xc11).ownBlock) → ¬ (some k_ = (Value.slice X10 r10.length Xc10).ownBlock) from fun k_ h1 h2 => (D10.out k_ h2) h1)
    have D9 := Aside0.mk (show ∀ k_, ((bx ≤ k_ ∧ k_ < bm) ∨ some k_ = (Value.slice X10 r10.length Xc10).ownBlock ∨ some k_ = (Value.slice X11 r11.length Xc11).ownBlock) → bx ≤ k_ ∧ k_ < bm from fun k_ h1 => h1.elim id (fun h2 => h2.elim (fun h3 => (Y10.out.1 k_ h3.symm).1) (fun h3 => Y11.out.1 k_ h3.symm)))
    go_upto_region 14 with (first | ((with_reducible refine gate_callee (f := 34) rfl ?_); refine goesL_ (some 34) rfl rfl Try.func34 (by kernel_rfl) rfl #[.agg #[.int .i64 n0, .string s1, .string s2, .int .i64 n3, .int .i64 n4, .string s5, .bool f6, .int .i64 n7, .int .i64 n8, .slice X9 r9.length Xc9, .slice X10 r10.length Xc10, .slice X11 r11.length Xc11, .string s12], .int .i64 1] rfl (by (try simp only [List.map_toArray, List.map_cons, List.map_nil]); first | done | rfl) ?_; (with_reducible refine (laws_markCert.calls k n0 s1 s2 n3 n4 s5 f6 n7 n8 (fun k_ => bx ≤ k_ ∧ k_ < bm) _ r9 (fun k_ => some k_ = (Value.slice X10 r10.length Xc10).ownBlock) _ r10 (fun k_ => some k_ = (Value.slice X11 r11.length Xc11).ownBlock) _ r11 s12 1 m1 M9 M10 M11 w _ HS.out.bel Y9.out (Kd.R_tight rfl Y10.out) D10.out (Kd.R_tight rfl Y11.out) D11.out S7.out).mono ?_); rintro e w14_ ⟨rfl, hi9, hi10, hi11, hb, hk⟩; refine ⟨_, rfl, ?_⟩; replace HS := Aside0.mk (HS.out.markx D9.out hb hk); clear hi9 hi10 hi11 hb hk Y9 Y10 Y11 D9 D10 D11))
    clear hz5_0 hz5_1 hz5_2 hz5_3 hz5_4 hz5_5 hz5_6 hz5_7 hz5_8 hz5_9 hz5_10 hz5_11 hz5_12
    have hz6_0 : w14_.cell? ⟨g6, 0, none⟩ = some (.int .i64 tg) := (blk_cell HS.out.c6 0).trans rfl
    have hz6_1 : w14_.cell? ⟨g6, 1, none⟩ = some (.string xg) := (blk_cell HS.out.c6 1).trans rfl
    have hz6_2 : w14_.cell? ⟨g6, 2, none⟩ = some (.slice Ag Lg.length cg) := (blk_cell HS.out.c6 2).trans rfl
    have hz4_0 : w14_.cell? ⟨g4, 0, none⟩ = some (.int .i64 tw) := (blk_cell HS.out.c4 0).trans rfl
    have hz4_1 : w14_.cell? ⟨g4, 1, none⟩ = some (.string xw) := (blk_cell HS.out.c4 1).trans rfl
    have hz4_2 : w14_.cell? ⟨g4, 2, none⟩ = some (.slice Aw Lw.length cw) := (blk_cell HS.out.c4 2).trans rfl
    go_upto_region 16 with (first | (go_at_call 24; (with_reducible refine (laws_eqItem.calls k tg xg _ _ Lg tw xw _ _ Lw true _ (Kd.R_reads' (S_plain HS.out.rg)).2.2 (Kd.R_reads' (S_plain HS.out.rg)).2.1 (Kd.N_reads' HS.out.rw).2.2 (Kd.N_reads' HS.out.rw).2.1 S5.out).mono ?_); rintro e w15_ ⟨rfl, hb⟩; replace HS := Aside0.mk (HS.out.below hb); clear hb))
    clear hz6_0 hz6_1 hz6_2 hz4_0 hz4_1 hz4_2
    have hz6_0 : w15_.cell? ⟨g6, 0, none⟩ = some (.int .i64 tg) := (blk_cell HS.out.c6 0).trans rfl
    have hz6_1 : w15_.cell? ⟨g6, 1, none⟩ = some (.string xg) := (blk_cell HS.out.c6 1).trans rfl
    have hz6_2 : w15_.cell? ⟨g6, 2, none⟩ = some (.slice Ag Lg.length cg) := (blk_cell HS.out.c6 2).trans rfl
    go_upto_region 18 with (first | ((with_reducible refine gate_callee (f := 27) rfl ?_); refine goesL_ (some 45) rfl rfl Try.func27 (by kernel_rfl) rfl #[.agg #[.int .i64 tg, .string xg, .slice Ag Lg.length cg], .int .i64 1] rfl (by (try simp only [List.map_toArray, List.map_cons, List.map_nil]); first | done | rfl) ?_; (with_reducible refine (laws_markItem.calls k _ _ tg xg Lg 1 hq Lq w _ HS.out.bel HS.out.rg S8.out).mono ?_); rintro e w16_ ⟨rfl, hi, hb, hk⟩; refine ⟨_, rfl, ?_⟩; replace HS := Aside0.mk (HS.out.markg hi hb hk); clear hi hb hk))
    clear hz6_0 hz6_1 hz6_2
    have HL := Aside0.mk (Kd.R_reads' (S_plain HS.out.rg)).1
    have hz6_0 : w16_.cell? ⟨g6, 0, none⟩ = some (.int .i64 tg) := (blk_cell HS.out.c6 0).trans rfl
    have hz6_1 : w16_.cell? ⟨g6, 1, none⟩ = some (.string xg) := (blk_cell HS.out.c6 1).trans rfl
    have hz6_2 : w16_.cell? ⟨g6, 2, none⟩ = some (.slice Ag Lg.length cg) := (blk_cell HS.out.c6 2).trans rfl
    go_upto_region 20 with (first | ((with_reducible refine gate_callee (f := 28) rfl ?_); refine goesL_ (some 48) rfl rfl Try.func28 (by kernel_rfl) rfl #[.agg #[.int .i64 tg, .string xg, .slice Ag Lg.length cg], .int .i64 1] rfl (by (try simp only [List.map_toArray, List.map_cons, List.map_nil]); first | done | rfl) ?_; (with_reducible refine ((show Calls Try.prog 28 #[.agg #[.int .i64 tg, .string xg, .slice Ag Lg.length cg], .int .i64 1] _ (fun e w' => e = .returned (.int .i64 hq) ∧ Below _ _ w') from by rw [HL.out]; exact laws_heldItem.calls k tg xg _ _ Lq 1 hq _ (Kd.R_reads' (S_plain HS.out.rg)).2.2 (HL.out ▸ (Kd.R_reads' (S_plain HS.out.rg)).2.1) S9.out)).mono ?_); rintro e w17_ ⟨rfl, hb⟩; refine ⟨_, rfl, ?_⟩; replace HS := Aside0.mk (HS.out.below hb); clear hb))
    clear hz6_0 hz6_1 hz6_2
    go_upto_region 24 with (first | fail)
    have hza_0 : w17_.cell? ⟨ga, 0, none⟩ = some (.int .i64 a0) := (blk_cell HS.out.ca 0).trans rfl
    have hza_1 : w17_.cell? ⟨ga, 1, none⟩ = some (.string a1) := (blk_cell HS.out.ca 1).trans rfl
    have hza_2 : w17_.cell? ⟨ga, 2, none⟩ = some (.string a2) := (blk_cell HS.out.ca 2).trans rfl
    have hza_3 : w17_.cell? ⟨ga, 3, none⟩ = some (.int .i64 a3) := (blk_cell HS.out.ca 3).trans rfl
    have hza_4 : w17_.cell? ⟨ga, 4, none⟩ = some (.int .i64 a4) := (blk_cell HS.out.ca 4).trans rfl
    have hza_5 : w17_.cell? ⟨ga, 5, none⟩ = some (.string a5) := (blk_cell HS.out.ca 5).trans rfl
    have hza_6 : w17_.cell? ⟨ga, 6, none⟩ = some (.bool a6) := (blk_cell HS.out.ca 6).trans rfl
    have hza_7 : w17_.cell? ⟨ga, 7, none⟩ = some (.int .i64 a7) := (blk_cell HS.out.ca 7).trans rfl
    have hza_8 : w17_.cell? ⟨ga, 8, none⟩ = some (.int .i64 a8) := (blk_cell HS.out.ca 8).trans rfl
    have hza_9 : w17_.cell? ⟨ga, 9, none⟩ = some (.slice A9 l9.length c9) := (blk_cell HS.out.ca 9).trans rfl
    have hza_10 : w17_.cell? ⟨ga, 10, none⟩ = some (.slice A10 l10.length c10) := (blk_cell HS.out.ca 10).trans rfl
    have hza_11 : w17_.cell? ⟨ga, 11, none⟩ = some (.slice A11 l11.length c11) := (blk_cell HS.out.ca 11).trans rfl
    have hza_12 : w17_.cell? ⟨ga, 12, none⟩ = some (.string a12) := (blk_cell HS.out.ca 12).trans rfl
    go_upto_region 25 with (first | ((with_reducible refine gate_callee (f := 31) rfl ?_); refine goesL_ (some 55) rfl rfl Try.func31 (by kernel_rfl) rfl #[.agg #[.int .i64 a0, .string a1, .string a2, .int .i64 a3, .int .i64 a4, .string a5, .bool a6, .int .i64 a7, .int .i64 a8, .slice A9 l9.length c9, .slice A10 l10.length c10, .slice A11 l11.length c11, .string a12]] rfl (by (try simp only [List.map_toArray, List.map_cons, List.map_nil]); first | done | rfl) ?_; (with_reducible refine (laws_toCert.calls k a0 a1 a2 a3 a4 a5 a6 a7 a8 A9 c9 l9 A10 c10 l10 A11 c11 l11 a12 n0 s1 s2 n3 n4 s5 f6 n7 n8 r9 r10 r11 s12 _ (Kd.C_below R9.out HS.out.bel) H9.out (Kd.C_below R10.out HS.out.bel) H10.out (Kd.C_below R11.out HS.out.bel) H11.out S2.out).mono ?_); rintro e w18_ ⟨u9, u10, u11, rfl, hi9, hi10, hi11, hb⟩; refine ⟨_, rfl, ?_⟩; obtain ⟨F9, Fc9, q9⟩ := Kd.R_slice hi9; subst q9; obtain ⟨F10, Fc10, q10⟩ := Kd.R_slice hi10; subst q10; obtain ⟨F11, Fc11, q11⟩ := Kd.R_slice hi11; subst q11; have KF9 := Aside0.mk (Kd.R_reads' hi9).2.2; have MF9 := Aside0.mk (Kd.R_reads' hi9).2.1; have KF10 := Aside0.mk (Kd.R_reads' hi10).2.2; have MF10 := Aside0.mk (Kd.R_reads' hi10).2.1; have KF11 := Aside0.mk (Kd.R_reads' hi11).2.2; have MF11 := Aside0.mk (Kd.R_reads' hi11).2.1; clear hi9 hi10 hi11; replace HS := Aside0.mk (HS.out.below hb); clear hb) | ((with_reducible refine gate_callee (f := 32) rfl ?_); refine goesL_ (some 56) rfl rfl Try.func32 (by kernel_rfl) rfl #[.agg #[.int .i64 n0, .string s1, .string s2, .int .i64 n3, .int .i64 n4, .string s5, .bool f6, .int .i64 n7, .int .i64 n8, .slice F9 r9.length Fc9, .slice F10 r10.length Fc10, .slice F11 r11.length Fc11, .string s12]] rfl (by (try simp only [List.map_toArray, List.map_cons, List.map_nil]); first | done | rfl) ?_; (with_reducible refine (impl_BodyItem.calls k n0 s1 s2 n3 n4 s5 f6 n7 n8 F9 Fc9 r9 F10 Fc10 r10 F11 Fc11 r11 s12 tg xg Lg _ KF9.out MF9.out KF10.out MF10.out KF11.out MF11.out S4.out).mono ?_); rintro e w19_ ⟨vh, rfl, ho, hb⟩; refine ⟨_, rfl, ?_⟩; have HH := Aside0.mk (S_plain ho); clear ho; replace HS := Aside0.mk (HS.out.below hb); clear hb; clear KF9 MF9 KF10 MF10 KF11 MF11; obtain ⟨Ah, ch, eh⟩ := Kd.R_slice HH.out; subst eh) | (refine lk_alloc _ _ rfl 26 _ rfl (lk_alloc_run _) ?_) | (refine lk_store _ _ rfl 26 (.tmp 10) (.tmp 56) _ _ rfl rfl rfl rfl (lk_store_run _ _ _ (heap_alloc_new _ _) rfl _ _ _ rfl) ?_))
    clear hza_0 hza_1 hza_2 hza_3 hza_4 hza_5 hza_6 hza_7 hza_8 hza_9 hza_10 hza_11 hza_12
    (try simp only [Act.put, List.setIfInBounds_toArray, List.set_cons_zero, List.set_cons_succ])
    have hx_ := (lk_boxed w19_ #[.int .i64 tg, .string xg, .slice Ah Lg.length ch] rfl).1
    have hb_ := (lk_boxed w19_ #[.int .i64 tg, .string xg, .slice Ah Lg.length ch] rfl).2
    generalize (w19_.alloc (.cells #[.int .i64 0, .string (⟨#[]⟩ : ByteArray), .slice none 0 0] 26)).setRow w19_.heap.size #[.int .i64 tg, .string xg, .slice Ah Lg.length ch] = w20_ at hx_ hb_ ⊢
    obtain ⟨g10, hg10⟩ : ∃ b, b = w19_.heap.size := ⟨_, rfl⟩
    rw [← hg10] at hx_ ⊢
    replace HS := Aside0.mk (HS.out.below hb_)
    replace HH := Aside0.mk (Kd.R_below HH.out hb_)
    have hzh_0 : w20_.cell? ⟨g10, 0, none⟩ = some (.int .i64 tg) := (blk_cell hx_ 0).trans rfl
    have hzh_1 : w20_.cell? ⟨g10, 1, none⟩ = some (.string xg) := (blk_cell hx_ 1).trans rfl
    have hzh_2 : w20_.cell? ⟨g10, 2, none⟩ = some (.slice Ah Lg.length ch) := (blk_cell hx_ 2).trans rfl
    clear hx_ hb_ hg10
    have hz4_0 : w20_.cell? ⟨g4, 0, none⟩ = some (.int .i64 tw) := (blk_cell HS.out.c4 0).trans rfl
    have hz4_1 : w20_.cell? ⟨g4, 1, none⟩ = some (.string xw) := (blk_cell HS.out.c4 1).trans rfl
    have hz4_2 : w20_.cell? ⟨g4, 2, none⟩ = some (.slice Aw Lw.length cw) := (blk_cell HS.out.c4 2).trans rfl
    go_upto_region 27 with (first | ((with_reducible refine gate_callee (f := 24) rfl ?_); refine goesL_ (some 59) rfl rfl Try.func24 (by kernel_rfl) rfl #[.agg #[.int .i64 tg, .string xg, .slice Ah Lg.length ch], .agg #[.int .i64 tw, .string xw, .slice Aw Lw.length cw]] rfl (by (try simp only [List.map_toArray, List.map_cons, List.map_nil]); first | done | rfl) ?_; (with_reducible refine (laws_eqItem.calls k tg xg _ _ Lg tw xw _ _ Lw true _ (Kd.R_reads' HH.out).2.2 (Kd.R_reads' HH.out).2.1 (Kd.N_reads' HS.out.rw).2.2 (Kd.N_reads' HS.out.rw).2.1 S5.out).mono ?_); rintro e w21_ ⟨rfl, hb⟩; refine ⟨_, rfl, ?_⟩; replace HS := Aside0.mk (HS.out.below hb); clear hb; clear HH))
    clear hz4_0 hz4_1 hz4_2
    clear hzh_0 hzh_1 hzh_2
    have hz6_0 : w21_.cell? ⟨g6, 0, none⟩ = some (.int .i64 tg) := (blk_cell HS.out.c6 0).trans rfl
    have hz6_1 : w21_.cell? ⟨g6, 1, none⟩ = some (.string xg) := (blk_cell HS.out.c6 1).trans rfl
    have hz6_2 : w21_.cell? ⟨g6, 2, none⟩ = some (.slice Ag Lg.length cg) := (blk_cell HS.out.c6 2).trans rfl
    go_upto_region 29 with (first | ((with_reducible refine gate_callee (f := 28) rfl ?_); refine goesL_ (some 63) rfl rfl Try.func28 (by kernel_rfl) rfl #[.agg #[.int .i64 tg, .string xg, .slice Ag Lg.length cg], .int .i64 1] rfl (by (try simp only [List.map_toArray, List.map_cons, List.map_nil]); first | done | rfl) ?_; (with_reducible refine ((show Calls Try.prog 28 #[.agg #[.int .i64 tg, .string xg, .slice Ag Lg.length cg], .int .i64 1] _ (fun e w' => e = .returned (.int .i64 hq) ∧ Below _ _ w') from by rw [HL.out]; exact laws_heldItem.calls k tg xg _ _ Lq 1 hq _ (Kd.R_reads' (S_plain HS.out.rg)).2.2 (HL.out ▸ (Kd.R_reads' (S_plain HS.out.rg)).2.1) S9.out)).mono ?_); rintro e w22_ ⟨rfl, hb⟩; refine ⟨_, rfl, ?_⟩; replace HS := Aside0.mk (HS.out.below hb); clear hb))
    clear hz6_0 hz6_1 hz6_2
    go_wp2
    go_ret
    exact ⟨rfl, HS.out.bel⟩
end Go.Proofs.Ytknalcnbkbkjdaa.GAFnExactBodyItem
