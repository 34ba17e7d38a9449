-- Written by a program of this session (gp.py) over the kit's printer: no printed text.
import Derived.Test.YtknalcnbkbkjdaaVGFnItemsx0
import Derived.Test.YtknalcnbkbkjdaaVGFnItemsx1
namespace Go.Proofs.Ytknalcnbkbkjdaa.GFnItems
open Go.RowKit Go.Proofs.YtknalcnbkbkjdaaW.PrintWords Go.Proofs.YtknalcnbkbkjdaaW.PrintLast Go.Proofs.YtknalcnbkbkjdaaW.PrintMore
attribute [local go_sem] max2_int min2_int max_two min_two max_three min_three max_four min_four   -- for this text's walks alone
set_option linter.unusedVariables false
set_option linter.unusedSimpArgs false

/-! ### spec_l07Size: function 83 -/
mutual
def spec_l07Size.j0 : Nat → ByteArray → Int → Int → Bool → Option (Int × Int × Bool)
 | 0, _, _, _, _ => none
 | k + 1, x0, x1, x8, x37 => if x37 = true then (some (0, 0, false)) else (spec_l07Size.l0 k x0 x1 x8 0 0)
def spec_l07Size.l0 : Nat → ByteArray → Int → Int → Int → Int → Option (Int × Int × Bool)
 | 0, _, _, _, _, _ => none
 | k + 1, x0, x1, x8, x9, x10 => if x10 < x8 then (if 0 ≤ (wrap64 ((wrap64 (x1 + 1)) + x10)) then (if (wrap64 ((wrap64 (x1 + 1)) + x10)) < (x0.size : Int) then (spec_l07Size.l0 k x0 x1 x8 (wrap64 ((wrap64 (256 * x9)) + (wrap64 (bt x0 (wrap64 ((wrap64 (x1 + 1)) + x10)))))) (wrap64 (x10 + 1))) else (none)) else (none)) else (some (x9, wrap64 ((wrap64 (x1 + 1)) + x8), true))
end
def spec_l07Size.f (k : Nat) (a0 : ByteArray) (a1 : Int) : Option (Int × Int × Bool) := if a1 ≥ (a0.size : Int) then (some (0, 0, false)) else (if 0 ≤ a1 then (if a1 < (a0.size : Int) then (if (wrap64 (bt a0 a1)) < 128 then (some (wrap64 (bt a0 a1), wrap64 (a1 + 1), true)) else ((spec_l01In.f (wrap64 ((wrap64 (bt a0 a1)) - 128)) 1 2).bind fun t351 => (if t351 = true then (spec_l07Size.j0 k a0 a1 (wrap64 ((wrap64 (bt a0 a1)) - 128)) (decide ((wrap64 ((wrap64 (bt a0 a1)) - 128)) > (wrap64 ((wrap64 ((a0.size : Int) - a1)) - 1))))) else (spec_l07Size.j0 k a0 a1 (wrap64 ((wrap64 (bt a0 a1)) - 128)) true)))) else (none)) else (none))
theorem spec_l07Size.mono_l : ∀ k, (∀ y0 y1 y2 y3, LeO (spec_l07Size.j0 k y0 y1 y2 y3) (spec_l07Size.j0 (k + 1) y0 y1 y2 y3)) ∧ (∀ y0 y1 y2 y3 y4, LeO (spec_l07Size.l0 k y0 y1 y2 y3 y4) (spec_l07Size.l0 (k + 1) y0 y1 y2 y3 y4))
 | 0 => ⟨fun _ _ _ _ r h => by simp [spec_l07Size.j0] at h, fun _ _ _ _ _ r h => by simp [spec_l07Size.l0] at h⟩
 | k + 1 => by
  obtain ⟨ih0, ih1⟩ := spec_l07Size.mono_l k
  refine ⟨?_, ?_⟩
  ·intro y0 y1 y2 y3
   unfold spec_l07Size.j0
   repeat' first
   | (with_reducible exact ih0 _ _ _ _)
   | (with_reducible exact ih1 _ _ _ _ _)
   | (with_reducible exact LeO.refl _)
   | (with_reducible exact LeO.none _)
   | (with_reducible refine LeO.ite ?_ ?_)
   | (with_reducible refine LeO.bind ?_ (fun _ => ?_))
   | exact ih0 _ _ _ _
   | exact ih1 _ _ _ _ _
   | exact LeO.none _
   | refine LeO.ite ?_ ?_
   | refine LeO.bind ?_ (fun _ => ?_)
  ·intro y0 y1 y2 y3 y4
   unfold spec_l07Size.l0
   repeat' first
   | (with_reducible exact ih0 _ _ _ _)
   | (with_reducible exact ih1 _ _ _ _ _)
   | (with_reducible exact LeO.refl _)
   | (with_reducible exact LeO.none _)
   | (with_reducible refine LeO.ite ?_ ?_)
   | (with_reducible refine LeO.bind ?_ (fun _ => ?_))
   | exact ih0 _ _ _ _
   | exact ih1 _ _ _ _ _
   | exact LeO.none _
   | refine LeO.ite ?_ ?_
   | refine LeO.bind ?_ (fun _ => ?_)
theorem spec_l07Size.mono : ∀ a0 a1 k, LeO (spec_l07Size.f k a0 a1) (spec_l07Size.f (k + 1) a0 a1) := by
 intro a0 a1 k
 obtain ⟨ih0, ih1⟩ := spec_l07Size.mono_l k
 unfold spec_l07Size.f
 repeat' first
   | (with_reducible exact ih0 _ _ _ _)
   | (with_reducible exact ih1 _ _ _ _ _)
   | (with_reducible exact LeO.refl _)
   | (with_reducible exact LeO.none _)
   | (with_reducible refine LeO.ite ?_ ?_)
   | (with_reducible refine LeO.bind ?_ (fun _ => ?_))
   | exact ih0 _ _ _ _
   | exact ih1 _ _ _ _ _
   | exact LeO.none _
   | refine LeO.ite ?_ ?_
   | refine LeO.bind ?_ (fun _ => ?_)
set_option maxHeartbeats 8000000 in
set_option maxRecDepth 100000 in
theorem spec_l07Size.calls (k : Nat) (a0 : ByteArray) (a1 : Int) (r1 : Int) (r2 : Int) (r3 : Bool) (w : World) (h : spec_l07Size.f k a0 a1 = some (r1, r2, r3)) :
  Calls Try.prog 83 #[.string a0, .int .i64 a1] w fun e w' => e = .returned (.tuple #[.int .i64 r1, .int .i64 r2, .bool r3]) ∧ Drawn0 w w' := by
 have H : (if a1 ≥ (a0.size : Int) then (some (0, 0, false)) else (if 0 ≤ a1 then (if a1 < (a0.size : Int) then (if (wrap64 (bt a0 a1)) < 128 then (some (wrap64 (bt a0 a1), wrap64 (a1 + 1), true)) else ((spec_l01In.f (wrap64 ((wrap64 (bt a0 a1)) - 128)) 1 2).bind fun t351 => (if t351 = true then (spec_l07Size.j0 k a0 a1 (wrap64 ((wrap64 (bt a0 a1)) - 128)) (decide ((wrap64 ((wrap64 (bt a0 a1)) - 128)) > (wrap64 ((wrap64 ((a0.size : Int) - a1)) - 1))))) else (spec_l07Size.j0 k a0 a1 (wrap64 ((wrap64 (bt a0 a1)) - 128)) true)))) else (none)) else (none))) = some (r1, r2, r3) := h
 clear h
 by_cases c3 : a1 ≥ (a0.size : Int)
 ·rw [if_pos c3] at H
  have c3b0 : decide ((a0.size : Int) ≤ a1) = true := decide_eq_true c3
  clear c3
  simp only [Option.some.injEq, Prod.mk.injEq] at H
  obtain ⟨rfl, rfl, rfl⟩ := H
  go_enter Try.func83, Try.ntmps83
  go_wp2
  go_ret3
  exact ⟨by first | rfl | (simp; done) | (simp [*]; done), by repeat (first | exact Drawn0.refl _ | apply Drawn0.step)⟩
 ·rw [if_neg c3] at H
  have c3b0 : decide ((a0.size : Int) ≤ a1) = false := decide_eq_false c3
  clear c3
  by_cases c4 : 0 ≤ a1
  ·rw [if_pos c4] at H
   have c4b0 : decide (0 ≤ a1) = true := decide_eq_true c4
   clear c4
   by_cases c5 : a1 < (a0.size : Int)
   ·rw [if_pos c5] at H
    have c5b0 : decide (a1 < (a0.size : Int)) = true := decide_eq_true c5
    clear c5
    by_cases c7 : (wrap64 (bt a0 a1)) < 128
    ·rw [if_pos c7] at H
     have c7b0 : decide ((wrap64 (bt a0 a1)) < 128) = true := decide_eq_true c7
     clear c7
     simp only [Option.some.injEq, Prod.mk.injEq] at H
     obtain ⟨rfl, rfl, rfl⟩ := H
     have p6 : 0 ≤ (a1 : Int) := of_decide_eq_true (by first | (with_reducible assumption) | assumption)
     have q6 : a1 < (a0.size : Int) := of_decide_eq_true (by first | (with_reducible assumption) | assumption)
     have hx6 := bt_at a0 a1
     replace p6 := eq_true p6
     replace q6 := eq_true q6
     go_enter Try.func83, Try.ntmps83
     go_wp2
     go_ret3
     exact ⟨by first | rfl | (simp; done) | (simp [*]; done), by repeat (first | exact Drawn0.refl _ | apply Drawn0.step)⟩
    ·rw [if_neg c7] at H
     have c7b0 : decide ((wrap64 (bt a0 a1)) < 128) = false := decide_eq_false c7
     clear c7
     have HC8 := Aside0.mk H
     clear H
     have p6 : 0 ≤ (a1 : Int) := of_decide_eq_true (by first | (with_reducible assumption) | assumption)
     have q6 : a1 < (a0.size : Int) := of_decide_eq_true (by first | (with_reducible assumption) | assumption)
     have hx6 := bt_at a0 a1
     replace p6 := eq_true p6
     replace q6 := eq_true q6
     go_enter Try.func83, Try.ntmps83
     go_upto_region 7 with (fail)
     go_cut [37] (fun v37 wc => ∃ (kq : Nat) (x37_7 : Bool), v37 = .bool x37_7 ∧ Aside0 (spec_l07Size.j0 kq a0 a1 (wrap64 ((wrap64 (bt a0 a1)) - 128)) x37_7 = some (r1, r2, r3)) ∧ Aside0 (kq ≤ k) ∧ Drawn0 w wc)
     case first =>
      have H := HC8.out
      clear HC8
      replace H := Option.bind_eq_some_iff.mp H
      obtain ⟨t351, A90, H⟩ := H
      try dsimp only at H
      have A9 := Aside0.mk A90
      clear A90
      by_cases c10 : t351 = true
      ·subst c10
       rw [if_pos rfl] at H
       have H' := Aside0.mk H
       clear H
       go_wp2_with (first | ((with_reducible refine gate_callee (f := 87) rfl ?_); refine goesL_ (some 27) rfl rfl Try.func87 (by kernel_rfl) rfl #[.int .i64 (wrap64 ((wrap64 (bt a0 a1)) - 128)), .int .i64 1, .int .i64 2] rfl (by (try simp only [List.map_toArray, List.map_cons, List.map_nil]); first | done | rfl | (simp only [List.length_drop, List.length_take]; rfl)) ?_; (with_reducible refine (spec_l01In.calls (wrap64 ((wrap64 (bt a0 a1)) - 128)) 1 2 true _ A9.out).mono ?_); rintro e w' ⟨rfl, ⟨nd, rfl⟩⟩; refine ⟨_, rfl, ?_⟩))
       go_meet
       case rel => exact ⟨_, (decide ((wrap64 ((wrap64 (bt a0 a1)) - 128)) > (wrap64 ((wrap64 ((a0.size : Int) - a1)) - 1)))), (by first | rfl | (simp; done) | (simp [*]; done)), H', ⟨by first | omega | exact Nat.le_refl _⟩, by repeat (first | exact Drawn0.refl _ | apply Drawn0.step)⟩
      ·replace c10 := Bool.eq_false_iff.mpr c10
       subst c10
       rw [if_neg (show ¬ (false = true) by decide)] at H
       have H' := Aside0.mk H
       clear H
       go_wp2_with (first | ((with_reducible refine gate_callee (f := 87) rfl ?_); refine goesL_ (some 27) rfl rfl Try.func87 (by kernel_rfl) rfl #[.int .i64 (wrap64 ((wrap64 (bt a0 a1)) - 128)), .int .i64 1, .int .i64 2] rfl (by (try simp only [List.map_toArray, List.map_cons, List.map_nil]); first | done | rfl | (simp only [List.length_drop, List.length_take]; rfl)) ?_; (with_reducible refine (spec_l01In.calls (wrap64 ((wrap64 (bt a0 a1)) - 128)) 1 2 false _ A9.out).mono ?_); rintro e w' ⟨rfl, ⟨nd, rfl⟩⟩; refine ⟨_, rfl, ?_⟩))
       go_meet
       case rel => exact ⟨_, (true), (by first | rfl | (simp; done) | (simp [*]; done)), H', ⟨by first | omega | exact Nat.le_refl _⟩, by repeat (first | exact Drawn0.refl _ | apply Drawn0.step)⟩
     case rest =>
      clear HC8
      try clear c1
      try clear p2
      try clear c3
      try clear c3b0
      try clear c4
      try clear c4b0
      try clear c5
      try clear c5b0
      try clear p6
      try clear q6
      try clear hx6
      try clear c7
      try clear c7b0
      try clear c8
      try clear c10
      try clear p6
      try clear q6
      obtain ⟨kq, x37_7, rfl, HA, HJ7, ⟨mc7, rfl⟩⟩ := hcut
      cases kq with
      | zero => exact absurd HA.out (by simp [spec_l07Size.j0])
      | succ kj7 =>
       have H := HA.out
       clear HA
       simp only [spec_l07Size.j0] at H
       by_cases c11 : x37_7 = true
       ·subst c11
        rw [if_pos rfl] at H
        simp only [Option.some.injEq, Prod.mk.injEq] at H
        obtain ⟨rfl, rfl, rfl⟩ := H
        go_wp2
        go_ret3
        exact ⟨by first | rfl | (simp; done) | (simp [*]; done), by repeat (first | exact Drawn0.refl _ | apply Drawn0.step)⟩
       ·replace c11 := Bool.eq_false_iff.mpr c11
        subst c11
        rw [if_neg (show ¬ (false = true) by decide)] at H
        have H' := Aside0.mk H
        clear H
        go_wp2
        go_loopg [9, 10] kj7 (fun kq v9 v10 w' => ∃ (x9_2 : Int) (x10_2 : Int), v9 = .int .i64 x9_2 ∧ v10 = .int .i64 x10_2 ∧ Aside0 (spec_l07Size.l0 kq a0 a1 (wrap64 ((wrap64 (bt a0 a1)) - 128)) x9_2 x10_2 = some (r1, r2, r3)) ∧ Aside0 (kq ≤ kj7) ∧ Drawn0 w w')
        case atStart => exact ⟨(0), (0), (by first | rfl | (simp; done) | (simp [*]; done)), (by first | rfl | (simp; done) | (simp [*]; done)), H', ⟨Nat.le_refl _⟩, by repeat (first | exact Drawn0.refl _ | apply Drawn0.step)⟩
        case round =>
         clear H'
         try clear c1
         try clear p2
         try clear c3
         try clear c3b0
         try clear c4
         try clear c4b0
         try clear c5
         try clear c5b0
         try clear p6
         try clear q6
         try clear hx6
         try clear c7
         try clear c7b0
         try clear c8
         try clear c10
         try clear c11
         try clear p2
         try clear p6
         try clear q6
         obtain ⟨x9_2, x10_2, rfl, rfl, HA, HK2, ⟨m2, rfl⟩⟩ := hrel
         cases gk with
         | zero => exact absurd HA.out (by simp [spec_l07Size.l0])
         | succ k2 =>
          have H := HA.out
          clear HA
          simp only [spec_l07Size.l0] at H
          by_cases c12 : x10_2 < (wrap64 ((wrap64 (bt a0 a1)) - 128))
          ·rw [if_pos c12] at H
           have c12b0 : decide (x10_2 < (wrap64 ((wrap64 (bt a0 a1)) - 128))) = true := decide_eq_true c12
           clear c12
           obtain ⟨ji13, hji13⟩ : ∃ j_ : Int, (wrap64 ((wrap64 (a1 + 1)) + x10_2)) = j_ := ⟨_, rfl⟩
           replace H : (if 0 ≤ (ji13) then (if (ji13) < (a0.size : Int) then (spec_l07Size.l0 k2 a0 a1 (wrap64 ((wrap64 (bt a0 a1)) - 128)) (wrap64 ((wrap64 (256 * x9_2)) + (wrap64 (bt a0 (ji13))))) (wrap64 (x10_2 + 1))) else (none)) else (none)) = some (r1, r2, r3) := by first | (rw [hji13] at H; exact H) | (simp only [hji13] at H ⊢; exact H)
           have hji13w : (IntKind.i64.wrap ((wrap64 (a1 + 1)) + x10_2)) = ji13 := (i64_w _).trans hji13
           by_cases c14 : 0 ≤ (ji13)
           ·rw [if_pos c14] at H
            have c14b0 : decide (0 ≤ (ji13)) = true := decide_eq_true c14
            clear c14
            by_cases c15 : (ji13) < (a0.size : Int)
            ·rw [if_pos c15] at H
             have c15b0 : decide ((ji13) < (a0.size : Int)) = true := decide_eq_true c15
             clear c15
             have H' := Aside0.mk H
             clear H
             have p16 : 0 ≤ ((ji13) : Int) := of_decide_eq_true (by first | (with_reducible assumption) | assumption)
             have q16 : (ji13) < (a0.size : Int) := of_decide_eq_true (by first | (with_reducible assumption) | assumption)
             have hx16 := bt_at a0 (ji13)
             replace p16 := eq_true p16
             replace q16 := eq_true q16
             go_wp2
             go_roundg k2
             case measure => have := HJ7.out; have := HK2.out; omega
             case rel => exact ⟨(wrap64 ((wrap64 (256 * x9_2)) + (wrap64 (bt a0 (ji13))))), (wrap64 (x10_2 + 1)), (by first | rfl | (simp; done) | (simp only [← hji13] <;> (first | rfl | simp)) | (simp [*]; done)), (by first | rfl | (simp; done) | (simp [*]; done)), H', ⟨by have := HJ7.out; have := HK2.out; omega⟩, by repeat (first | exact Drawn0.refl _ | apply Drawn0.step)⟩
            ·rw [if_neg c15] at H
             exact absurd H (by simp)
           ·rw [if_neg c14] at H
            exact absurd H (by simp)
          ·rw [if_neg c12] at H
           have c12b0 : decide (x10_2 < (wrap64 ((wrap64 (bt a0 a1)) - 128))) = false := decide_eq_false c12
           clear c12
           simp only [Option.some.injEq, Prod.mk.injEq] at H
           obtain ⟨rfl, rfl, rfl⟩ := H
           go_wp2
           go_ret3
           exact ⟨by first | rfl | (simp; done) | (simp [*]; done), by repeat (first | exact Drawn0.refl _ | apply Drawn0.step)⟩
   ·rw [if_neg c5] at H
    exact absurd H (by simp)
  ·rw [if_neg c4] at H
   exact absurd H (by simp)

/-! ### spec_l07Read: function 46 -/
mutual
def spec_l07Read.j0 : Nat → ByteArray → Int → Int → Bool → Option (Int × ByteArray × (List (S26)) × Int × Bool)
 | 0, _, _, _, _ => none
 | k + 1, x0, x1, x2, x24 => if x24 = true then (some (0, (⟨#[]⟩ : ByteArray), ([] : List (S26)), 0, false)) else (if 0 ≤ x1 then (if x1 < (x0.size : Int) then ((spec_l07Size.f k x0 (wrap64 (x1 + 1))).bind fun bt354 => (if bt354.2.2 = true then (spec_l07Read.j1 k x0 x2 bt354.1 bt354.2.1 (decide (bt354.1 > (wrap64 ((x0.size : Int) - bt354.2.1)))) (wrap64 (bt x0 x1)) (⟨#[]⟩ : ByteArray)) else (spec_l07Read.j1 k x0 x2 bt354.1 bt354.2.1 true (wrap64 (bt x0 x1)) (⟨#[]⟩ : ByteArray)))) else (none)) else (none))
def spec_l07Read.j1 : Nat → ByteArray → Int → Int → Int → Bool → Int → ByteArray → Option (Int × ByteArray × (List (S26)) × Int × Bool)
 | 0, _, _, _, _, _, _, _ => none
 | k + 1, x0, x2, x10, x11, x48, x354000, x354001 => if x48 = true then (some (0, (⟨#[]⟩ : ByteArray), ([] : List (S26)), 0, false)) else (if x354000 = 48 then (spec_l07Read.l0 k x0 x2 x10 x11 x11 x354000 x354001 ([] : List (S26))) else (if 0 ≤ x11 then (if x11 ≤ (wrap64 (x11 + x10)) then (if (wrap64 (x11 + x10)) ≤ (x0.size : Int) then (some (x354000, x0.extract (x11 : Int).toNat ((wrap64 (x11 + x10)) : Int).toNat, ([] : List (S26)), wrap64 (x11 + x10), true)) else (none)) else (none)) else (none)))
def spec_l07Read.l0 : Nat → ByteArray → Int → Int → Int → Int → Int → ByteArray → List (S26) → Option (Int × ByteArray × (List (S26)) × Int × Bool)
 | 0, _, _, _, _, _, _, _, _ => none
 | k + 1, x0, x2, x10, x11, x13, x354000, x354001, x354002 => if x13 < (wrap64 (x11 + x10)) then (if 0 ≤ (wrap64 (x11 + x10)) then (if (wrap64 (x11 + x10)) ≤ (x0.size : Int) then ((spec_l07Read.f k (x0.extract 0 ((wrap64 (x11 + x10)) : Int).toNat) x13 (wrap64 (x2 + 1))).bind fun bt357 => (if bt357.2.2.2.2 = true then (if (x354002.length : Int) ≥ 40 then (some (0, (⟨#[]⟩ : ByteArray), ([] : List (S26)), 0, false)) else (if x354002.length < 2932031007402 then (spec_l07Read.l0 k x0 x2 x10 x11 bt357.2.2.2.1 x354000 x354001 (x354002 ++ [(⟨bt357.1, bt357.2.1, bt357.2.2.1⟩ : S26)])) else (none))) else (some (0, (⟨#[]⟩ : ByteArray), ([] : List (S26)), 0, false)))) else (none)) else (none)) else (some (x354000, x354001, x354002, wrap64 (x11 + x10), true))
def spec_l07Read.f : Nat → ByteArray → Int → Int → Option (Int × ByteArray × (List (S26)) × Int × Bool)
 | 0, _, _, _ => none
 | k + 1, a0, a1, a2 => if a1 ≥ (a0.size : Int) then (spec_l07Read.j0 k a0 a1 a2 true) else (spec_l07Read.j0 k a0 a1 a2 (decide (a2 > 6)))
end
theorem spec_l07Read.mono_l : ∀ k, (∀ y0 y1 y2, LeO (spec_l07Read.f k y0 y1 y2) (spec_l07Read.f (k + 1) y0 y1 y2)) ∧ (∀ y0 y1 y2 y3, LeO (spec_l07Read.j0 k y0 y1 y2 y3) (spec_l07Read.j0 (k + 1) y0 y1 y2 y3)) ∧ (∀ y0 y1 y2 y3 y4 y5 y6, LeO (spec_l07Read.j1 k y0 y1 y2 y3 y4 y5 y6) (spec_l07Read.j1 (k + 1) y0 y1 y2 y3 y4 y5 y6)) ∧ (∀ y0 y1 y2 y3 y4 y5 y6 y7, LeO (spec_l07Read.l0 k y0 y1 y2 y3 y4 y5 y6 y7) (spec_l07Read.l0 (k + 1) y0 y1 y2 y3 y4 y5 y6 y7))
 | 0 => ⟨fun _ _ _ r h => by simp [spec_l07Read.f] at h, fun _ _ _ _ r h => by simp [spec_l07Read.j0] at h, fun _ _ _ _ _ _ _ r h => by simp [spec_l07Read.j1] at h, fun _ _ _ _ _ _ _ _ r h => by simp [spec_l07Read.l0] at h⟩
 | k + 1 => by
  obtain ⟨ih0, ih1, ih2, ih3⟩ := spec_l07Read.mono_l k
  refine ⟨?_, ?_, ?_, ?_⟩
  ·intro y0 y1 y2
   unfold spec_l07Read.f
   repeat' first
   | (with_reducible exact ih0 _ _ _)
   | (with_reducible exact ih1 _ _ _ _)
   | (with_reducible exact ih2 _ _ _ _ _ _ _)
   | (with_reducible exact ih3 _ _ _ _ _ _ _ _)
   | (with_reducible exact spec_l07Size.mono _ _ _)
   | (with_reducible exact LeO.refl _)
   | (with_reducible exact LeO.none _)
   | (with_reducible refine LeO.ite ?_ ?_)
   | (with_reducible refine LeO.bind ?_ (fun _ => ?_))
   | exact ih0 _ _ _
   | exact ih1 _ _ _ _
   | exact ih2 _ _ _ _ _ _ _
   | exact ih3 _ _ _ _ _ _ _ _
   | exact LeO.none _
   | refine LeO.ite ?_ ?_
   | refine LeO.bind ?_ (fun _ => ?_)
  ·intro y0 y1 y2 y3
   unfold spec_l07Read.j0
   repeat' first
   | (with_reducible exact ih0 _ _ _)
   | (with_reducible exact ih1 _ _ _ _)
   | (with_reducible exact ih2 _ _ _ _ _ _ _)
   | (with_reducible exact ih3 _ _ _ _ _ _ _ _)
   | (with_reducible exact spec_l07Size.mono _ _ _)
   | (with_reducible exact LeO.refl _)
   | (with_reducible exact LeO.none _)
   | (with_reducible refine LeO.ite ?_ ?_)
   | (with_reducible refine LeO.bind ?_ (fun _ => ?_))
   | exact ih0 _ _ _
   | exact ih1 _ _ _ _
   | exact ih2 _ _ _ _ _ _ _
   | exact ih3 _ _ _ _ _ _ _ _
   | exact LeO.none _
   | refine LeO.ite ?_ ?_
   | refine LeO.bind ?_ (fun _ => ?_)
  ·intro y0 y1 y2 y3 y4 y5 y6
   unfold spec_l07Read.j1
   repeat' first
   | (with_reducible exact ih0 _ _ _)
   | (with_reducible exact ih1 _ _ _ _)
   | (with_reducible exact ih2 _ _ _ _ _ _ _)
   | (with_reducible exact ih3 _ _ _ _ _ _ _ _)
   | (with_reducible exact spec_l07Size.mono _ _ _)
   | (with_reducible exact LeO.refl _)
   | (with_reducible exact LeO.none _)
   | (with_reducible refine LeO.ite ?_ ?_)
   | (with_reducible refine LeO.bind ?_ (fun _ => ?_))
   | exact ih0 _ _ _
   | exact ih1 _ _ _ _
   | exact ih2 _ _ _ _ _ _ _
   | exact ih3 _ _ _ _ _ _ _ _
   | exact LeO.none _
   | refine LeO.ite ?_ ?_
   | refine LeO.bind ?_ (fun _ => ?_)
  ·intro y0 y1 y2 y3 y4 y5 y6 y7
   unfold spec_l07Read.l0
   repeat' first
   | (with_reducible exact ih0 _ _ _)
   | (with_reducible exact ih1 _ _ _ _)
   | (with_reducible exact ih2 _ _ _ _ _ _ _)
   | (with_reducible exact ih3 _ _ _ _ _ _ _ _)
   | (with_reducible exact spec_l07Size.mono _ _ _)
   | (with_reducible exact LeO.refl _)
   | (with_reducible exact LeO.none _)
   | (with_reducible refine LeO.ite ?_ ?_)
   | (with_reducible refine LeO.bind ?_ (fun _ => ?_))
   | exact ih0 _ _ _
   | exact ih1 _ _ _ _
   | exact ih2 _ _ _ _ _ _ _
   | exact ih3 _ _ _ _ _ _ _ _
   | exact LeO.none _
   | refine LeO.ite ?_ ?_
   | refine LeO.bind ?_ (fun _ => ?_)
theorem spec_l07Read.mono : ∀ a0 a1 a2 k, LeO (spec_l07Read.f k a0 a1 a2) (spec_l07Read.f (k + 1) a0 a1 a2) := by
 intro a0 a1 a2 k
 obtain ⟨ih0, ih1, ih2, ih3⟩ := spec_l07Read.mono_l k
 exact ih0 a0 a1 a2
set_option maxHeartbeats 8000000 in
set_option maxRecDepth 100000 in
theorem spec_l07Read.calls (k : Nat) : ∀ (a0 : ByteArray) (a1 : Int) (a2 : Int) (r1 : Int) (r2 : ByteArray) (r3 : List (S26)) (r4 : Int) (r5 : Bool) (w : World) (h : spec_l07Read.f k a0 a1 a2 = some (r1, r2, r3, r4, r5)),
  Calls Try.prog 46 #[.string a0, .int .i64 a1, .int .i64 a2] w fun e w' => ∃ v2_ : Value, e = .returned (.tuple #[.agg #[.int .i64 r1, .string r2, v2_], .int .i64 r4, .bool r5]) ∧ Kd.R k26 26 w' w.heap.size (fun _ => True) v2_ r3 ∧ Below w.heap.size w w' := by
 induction k using Nat.strongRecOn with
 | _ k ih =>
 intro a0 a1 a2 r1 r2 r3 r4 r5 w h
 cases k with
 | zero => exact absurd h (by simp [spec_l07Read.f])
 | succ k =>
 simp only [spec_l07Read.f] at h
 have hu26 := Try.underlying26
 have HB := Aside0.mk (Below.refl w.heap.size w)
 have H : (if a1 ≥ (a0.size : Int) then (spec_l07Read.j0 k a0 a1 a2 true) else (spec_l07Read.j0 k a0 a1 a2 (decide (a2 > 6)))) = some (r1, r2, r3, r4, r5) := h
 clear h
 have HC4 := Aside0.mk H
 clear H
 go_enter Try.func46, Try.ntmps46
 go_upto_region 1 with (first | ((with_reducible refine gate_dst (N := 6) rfl ?_); (try (refine gate_guard (by rfl) ?_; dsimp only)); refine box_event ?hg (N := 6) ?hd (cs := #[.int .i64 0, .string (⟨#[]⟩ : ByteArray), .slice none 0 0]) (t := 26) ?hr ?_; (case hd => rfl); (case hg => rfl); (case hr => first | (go_simp; done) | (go_simp; rfl)); intro gb352 hg w5 hbox hb; have n0_ := Aside0.mk (below_step bw_ hb); have n1_ := Aside0.mk (hbox); have n2_ := Aside0.mk ((by rw [hg]; exact (below_size bw_) : w.heap.size ≤ gb352)); have n3_ := Aside0.mk ((by rw [hg]; exact (below_size bw_) : w.heap.size ≤ gb352)); clear HB; have HB := n0_; have BK352 := n1_; have GW352 := n2_; have GE352 := n3_; clear n0_ n1_ n2_ n3_; clear hb hbox hg))
 (try simp only [Act.put, List.setIfInBounds_toArray, List.set_cons_zero, List.set_cons_succ])
 go_cut [24] (fun v24 wc => ∃ (kq : Nat) (x24_3 : Bool), v24 = .bool x24_3 ∧ Aside0 (spec_l07Read.j0 kq a0 a1 a2 x24_3 = some (r1, r2, r3, r4, r5)) ∧ Aside0 (kq ≤ k) ∧ Aside0 (wc.heap[gb352]? = some (.cells #[.int .i64 0, .string (⟨#[]⟩ : ByteArray), (.slice none 0 0)] 26 (0, 0))) ∧ Aside0 (Below w.heap.size w wc))
 case first =>
  have H := HC4.out
  clear HC4
  by_cases c6 : a1 ≥ (a0.size : Int)
  ·rw [if_pos c6] at H
   have c6b0 : decide ((a0.size : Int) ≤ a1) = true := decide_eq_true c6
   clear c6
   (first | rw [c6b0] | (simp only [i64_w, i32_w]; rw [c6b0]) | skip)
   have H' := Aside0.mk H
   clear H
   go_wp2
   go_meet
   case rel => exact ⟨_, (true), (by first | rfl | (simp; done) | (simp [*]; done)), H', ⟨by first | omega | exact Nat.le_refl _⟩, ⟨by (with_reducible repeat (first | apply blk_drewN | apply blk_drew | apply blk_alloc)); exact BK352.out⟩, ⟨bw_⟩⟩
  ·rw [if_neg c6] at H
   have c6b0 : decide ((a0.size : Int) ≤ a1) = false := decide_eq_false c6
   clear c6
   (first | rw [c6b0] | (simp only [i64_w, i32_w]; rw [c6b0]) | skip)
   have H' := Aside0.mk H
   clear H
   go_wp2
   go_meet
   case rel => exact ⟨_, (decide (a2 > 6)), (by first | rfl | (simp; done) | (simp [*]; done)), H', ⟨by first | omega | exact Nat.le_refl _⟩, ⟨by (with_reducible repeat (first | apply blk_drewN | apply blk_drew | apply blk_alloc)); exact BK352.out⟩, ⟨bw_⟩⟩
 case rest =>
  clear HC4
  try clear p2
  try clear c4
  try clear c6
  try clear c6b0
  obtain ⟨kq, x24_3, rfl, HA, HJ3, BK352, HB⟩ := hcut
  cases kq with
  | zero => exact absurd HA.out (by simp [spec_l07Read.j0])
  | succ kj3 =>
   have H := HA.out
   clear HA
   simp only [spec_l07Read.j0] at H
   by_cases c7 : x24_3 = true
   ·subst c7
    rw [if_pos rfl] at H
    simp only [Option.some.injEq, Prod.mk.injEq] at H
    obtain ⟨rfl, rfl, rfl, rfl, rfl⟩ := H
    have hcz8_0 : wc.cell? ⟨gb352, 0, none⟩ = some (.int .i64 0) := (blk_cell BK352.out 0).trans rfl
    have hcz8_1 : wc.cell? ⟨gb352, 1, none⟩ = some (.string (⟨#[]⟩ : ByteArray)) := (blk_cell BK352.out 1).trans rfl
    have hcz8_2 : wc.cell? ⟨gb352, 2, none⟩ = some (.slice none 0 0) := (blk_cell BK352.out 2).trans rfl
    have hfz8_0 := blk_frozen BK352.out 0
    have hfz8_1 := blk_frozen BK352.out 1
    have hfz8_2 := blk_frozen BK352.out 2
    go_wp2
    refine bodyPost_ret (results_ctt rfl _ _ gb352 26 #[.int .i64 0, .string (⟨#[]⟩ : ByteArray), .slice none 0 0] (0, 0) _ rfl (by (with_reducible repeat (first | apply blk_drewN | apply blk_drew | apply blk_alloc)); apply blk_put3_; (with_reducible repeat (first | apply blk_drewN | apply blk_drew | apply blk_alloc)); exact BK352.out) Try.underlying26 rfl (by kernel_rfl)) rfl ?_
    exact ⟨_, by first | rfl | (simp [errW_none, errW_some] <;> rfl) | (simp [*, errW_none, errW_some] <;> rfl), by first | exact Kd.R_nil _ _ _ _ _ | exact Kd.N_nil _ _ _ _ _ | exact Kd.V_nil _ _ _ _ _ | exact Kd.Q_nil _ _ _ _ _ | exact Kd.S_nil _ _ _ _ _, bw_⟩
   ·replace c7 := Bool.eq_false_iff.mpr c7
    subst c7
    rw [if_neg (show ¬ (false = true) by decide)] at H
    by_cases c9 : 0 ≤ a1
    ·rw [if_pos c9] at H
     have c9b0 : decide (0 ≤ a1) = true := decide_eq_true c9
     clear c9
     by_cases c10 : a1 < (a0.size : Int)
     ·rw [if_pos c10] at H
      have c10b0 : decide (a1 < (a0.size : Int)) = true := decide_eq_true c10
      clear c10
      replace H := Option.bind_eq_some_iff.mp H
      obtain ⟨⟨t354, t355, t356⟩, A120, H⟩ := H
      try dsimp only at H
      have A12 := Aside0.mk A120
      clear A120
      have HC13 := Aside0.mk H
      clear H
      have p11 : 0 ≤ (a1 : Int) := of_decide_eq_true (by first | (with_reducible assumption) | assumption)
      have q11 : a1 < (a0.size : Int) := of_decide_eq_true (by first | (with_reducible assumption) | assumption)
      have hx11 := bt_at a0 a1
      replace p11 := eq_true p11
      replace q11 := eq_true q11
      go_upto_region 5 with (first | ((with_reducible refine gate_dst (N := 9) rfl ?_); (try (refine gate_guard (by rfl) ?_; dsimp only)); refine box_event ?hg (N := 9) ?hd (cs := #[.int .i64 0, .string (⟨#[]⟩ : ByteArray), .slice none 0 0]) (t := 26) ?hr ?_; (case hd => rfl); (case hg => rfl); (case hr => first | (go_simp; done) | (go_simp; rfl)); intro gb353 hg w14 hbox hb; have n0_ := Aside0.mk (blk_below (g := gb352) (o := .cells #[.int .i64 0, .string (⟨#[]⟩ : ByteArray), .slice none 0 0] 26 (0, 0)) (by (with_reducible repeat (first | apply blk_drewN | apply blk_drew | apply blk_alloc)); exact BK352.out) hb); have n1_ := Aside0.mk (below_step bw_ hb); have n2_ := Aside0.mk (hbox); have n3_ := Aside0.mk ((by rw [hg]; exact (below_size bw_) : w.heap.size ≤ gb353)); have n4_ := Aside0.mk ((by rw [hg]; exact (below_size bw_) : w.heap.size ≤ gb353)); have n5_ := Aside0.mk ((by rw [hg]; exact Nat.ne_of_lt (blk_lt (g := gb352) (o := .cells #[.int .i64 0, .string (⟨#[]⟩ : ByteArray), .slice none 0 0] 26 (0, 0)) (by (with_reducible repeat (first | apply blk_drewN | apply blk_drew | apply blk_alloc)); exact BK352.out)) : gb352 ≠ gb353)); have n6_ := Aside0.mk ((by rw [hg]; exact Nat.ne_of_gt (blk_lt (g := gb352) (o := .cells #[.int .i64 0, .string (⟨#[]⟩ : ByteArray), .slice none 0 0] 26 (0, 0)) (by (with_reducible repeat (first | apply blk_drewN | apply blk_drew | apply blk_alloc)); exact BK352.out)) : gb353 ≠ gb352)); clear BK352; clear HB; have BK352 := n0_; have HB := n1_; have BK353 := n2_; have GW353 := n3_; have GE353 := n4_; have NB352_353 := n5_; have NB353_352 := n6_; clear n0_ n1_ n2_ n3_ n4_ n5_ n6_; clear hb hbox hg; have hnb15 := NB353_352.out; have hnc15 := NB352_353.out; have hcz16_0 : w14.cell? ⟨gb353, 0, none⟩ = some (.int .i64 0) := (blk_cell BK353.out 0).trans rfl; have hcz16_1 : w14.cell? ⟨gb353, 1, none⟩ = some (.string (⟨#[]⟩ : ByteArray)) := (blk_cell BK353.out 1).trans rfl; have hcz16_2 : w14.cell? ⟨gb353, 2, none⟩ = some (.slice none 0 0) := (blk_cell BK353.out 2).trans rfl; have hfz16_0 := blk_frozen BK353.out 0; have hfz16_1 := blk_frozen BK353.out 1; have hfz16_2 := blk_frozen BK353.out 2) | ((with_reducible refine gate_callee (f := 83) rfl ?_); refine goesL_ (some 35) rfl rfl Try.func83 (by kernel_rfl) rfl #[.string a0, .int .i64 (wrap64 (a1 + 1))] rfl (by (try simp only [List.map_toArray, List.map_cons, List.map_nil]); first | done | rfl | (simp only [List.length_drop, List.length_take]; rfl)) ?_; (with_reducible refine (spec_l07Size.calls kj3 a0 (wrap64 (a1 + 1)) t354 t355 t356 _ A12.out).mono ?_); rintro e w' ⟨rfl, ⟨nd, rfl⟩⟩; refine ⟨_, rfl, ?_⟩))
      (try simp only [Act.put, List.setIfInBounds_toArray, List.set_cons_zero, List.set_cons_succ])
      go_cut [48] (fun v48 wc => ∃ (kq : Nat) (x48_12 : Bool), v48 = .bool x48_12 ∧ Aside0 (spec_l07Read.j1 kq a0 a2 t354 t355 x48_12 (wrap64 (bt a0 a1)) (⟨#[]⟩ : ByteArray) = some (r1, r2, r3, r4, r5)) ∧ Aside0 (kq ≤ kj3) ∧ Aside0 (wc.heap[gb352]? = some (.cells #[.int .i64 0, .string (⟨#[]⟩ : ByteArray), (.slice none 0 0)] 26 (0, 0))) ∧ Aside0 (wc.heap[gb353]? = some (.cells #[.int .i64 (wrap64 (bt a0 a1)), .string (⟨#[]⟩ : ByteArray), (.slice none 0 0)] 26 (0, 0))) ∧ Aside0 (Below w.heap.size w wc))
      case first =>
       have H := HC13.out
       clear HC13
       by_cases c17 : t356 = true
       ·subst c17
        rw [if_pos rfl] at H
        have H' := Aside0.mk H
        clear H
        go_wp2
        go_meet
        case rel => exact ⟨_, (decide (t354 > (wrap64 ((a0.size : Int) - t355)))), (by first | rfl | (simp; done) | (simp [*]; done)), H', ⟨by have := HJ3.out; first | omega | exact Nat.le_refl _⟩, ⟨by (with_reducible repeat (first | apply blk_drewN | apply blk_drew | apply blk_alloc | refine blk_far ?_ NB352_353.out _)); exact BK352.out⟩, ⟨by (with_reducible repeat (first | apply blk_drewN | apply blk_drew | apply blk_alloc)); apply blk_put3_; (with_reducible repeat (first | apply blk_drewN | apply blk_drew | apply blk_alloc)); exact BK353.out⟩, ⟨bw_⟩⟩
       ·replace c17 := Bool.eq_false_iff.mpr c17
        subst c17
        rw [if_neg (show ¬ (false = true) by decide)] at H
        have H' := Aside0.mk H
        clear H
        go_wp2
        go_meet
        case rel => exact ⟨_, (true), (by first | rfl | (simp; done) | (simp [*]; done)), H', ⟨by have := HJ3.out; first | omega | exact Nat.le_refl _⟩, ⟨by (with_reducible repeat (first | apply blk_drewN | apply blk_drew | apply blk_alloc | refine blk_far ?_ NB352_353.out _)); exact BK352.out⟩, ⟨by (with_reducible repeat (first | apply blk_drewN | apply blk_drew | apply blk_alloc)); apply blk_put3_; (with_reducible repeat (first | apply blk_drewN | apply blk_drew | apply blk_alloc)); exact BK353.out⟩, ⟨bw_⟩⟩
      case rest =>
       clear HC13
       try clear c1
       try clear p1
       try clear q1
       try clear hx1
       try clear p2
       try clear c4
       try clear c6
       try clear c6b0
       try clear p6
       try clear c7
       try clear c8
       try clear c9
       try clear c9b0
       try clear c10
       try clear c10b0
       try clear p11
       try clear q11
       try clear hx11
       try clear c15
       try clear c17
       try clear hcz16_0
       try clear hcz16_1
       try clear hcz16_2
       try clear hcz8_0
       try clear hcz8_1
       try clear hcz8_2
       try clear hfz16_0
       try clear hfz16_1
       try clear hfz16_2
       try clear hfz8_0
       try clear hfz8_1
       try clear hfz8_2
       try clear p11
       try clear p2
       try clear q11
       obtain ⟨kq, x48_12, rfl, HA, HJ12, BK352, BK353, HB⟩ := hcut
       cases kq with
       | zero => exact absurd HA.out (by simp [spec_l07Read.j1])
       | succ kj12 =>
        have H := HA.out
        clear HA
        simp only [spec_l07Read.j1] at H
        by_cases c18 : x48_12 = true
        ·subst c18
         rw [if_pos rfl] at H
         simp only [Option.some.injEq, Prod.mk.injEq] at H
         obtain ⟨rfl, rfl, rfl, rfl, rfl⟩ := H
         have hnb19 := NB352_353.out
         have hnc19 := NB353_352.out
         have hcz20_0 : wc.cell? ⟨gb352, 0, none⟩ = some (.int .i64 0) := (blk_cell BK352.out 0).trans rfl
         have hcz20_1 : wc.cell? ⟨gb352, 1, none⟩ = some (.string (⟨#[]⟩ : ByteArray)) := (blk_cell BK352.out 1).trans rfl
         have hcz20_2 : wc.cell? ⟨gb352, 2, none⟩ = some (.slice none 0 0) := (blk_cell BK352.out 2).trans rfl
         have hfz20_0 := blk_frozen BK352.out 0
         have hfz20_1 := blk_frozen BK352.out 1
         have hfz20_2 := blk_frozen BK352.out 2
         go_wp2
         refine bodyPost_ret (results_ctt rfl _ _ gb352 26 #[.int .i64 0, .string (⟨#[]⟩ : ByteArray), .slice none 0 0] (0, 0) _ rfl (by (with_reducible repeat (first | apply blk_drewN | apply blk_drew | apply blk_alloc)); apply blk_put3_; (with_reducible repeat (first | apply blk_drewN | apply blk_drew | apply blk_alloc)); exact BK352.out) Try.underlying26 rfl (by kernel_rfl)) rfl ?_
         exact ⟨_, by first | rfl | (simp [errW_none, errW_some] <;> rfl) | (simp [*, errW_none, errW_some] <;> rfl), by first | exact Kd.R_nil _ _ _ _ _ | exact Kd.N_nil _ _ _ _ _ | exact Kd.V_nil _ _ _ _ _ | exact Kd.Q_nil _ _ _ _ _ | exact Kd.S_nil _ _ _ _ _, bw_⟩
        ·replace c18 := Bool.eq_false_iff.mpr c18
         subst c18
         rw [if_neg (show ¬ (false = true) by decide)] at H
         by_cases c21 : (wrap64 (bt a0 a1)) = 48
         ·rw [if_pos c21] at H
          have c21b0 : ((wrap64 (bt a0 a1)) == 48) = true := beq_iff_eq.mpr c21
          have c21b1 : ((wrap64 (bt a0 a1)) != 48) = false := bne_eq_false_iff_eq.mpr c21
          clear c21
          have H' := Aside0.mk H
          clear H
          have hnb22 := NB353_352.out
          have hnc22 := NB352_353.out
          have hcz23_0 : wc.cell? ⟨gb353, 0, none⟩ = some (.int .i64 (wrap64 (bt a0 a1))) := (blk_cell BK353.out 0).trans rfl
          have hcz23_1 : wc.cell? ⟨gb353, 1, none⟩ = some (.string (⟨#[]⟩ : ByteArray)) := (blk_cell BK353.out 1).trans rfl
          have hcz23_2 : wc.cell? ⟨gb353, 2, none⟩ = some (.slice none 0 0) := (blk_cell BK353.out 2).trans rfl
          have hfz23_0 := blk_frozen BK353.out 0
          have hfz23_1 := blk_frozen BK353.out 1
          have hfz23_2 := blk_frozen BK353.out 2
          go_wp2
          go_loopg [13] kj12 (fun kq v13 w' => ∃ (x13_3 : Int) (x353000_3 : Int) (x353001_3 : ByteArray) (x354002_3 : List (S26)) (u354002 : Value), v13 = .int .i64 x13_3 ∧ Aside0 (spec_l07Read.l0 kq a0 a2 t354 t355 x13_3 (wrap64 (bt a0 a1)) (⟨#[]⟩ : ByteArray) x354002_3 = some (r1, r2, r3, r4, r5)) ∧ Aside0 (kq ≤ kj12) ∧ Aside0 (Kd.R k26 26 w' w.heap.size (fun k_ => k_ ≠ gb352 ∧ k_ ≠ gb353) u354002 x354002_3) ∧ Aside0 (w'.heap[gb352]? = some (.cells #[.int .i64 x353000_3, .string x353001_3, (.slice none 0 0)] 26 (0, 0))) ∧ Aside0 (w'.heap[gb353]? = some (.cells #[.int .i64 (wrap64 (bt a0 a1)), .string (⟨#[]⟩ : ByteArray), u354002] 26 (0, 0))) ∧ Aside0 (Below w.heap.size w w'))
          case atStart => exact ⟨(t355), (0), ((⟨#[]⟩ : ByteArray)), (([] : List (S26))), (.slice none 0 0), (by first | rfl | (simp; done) | (simp [*]; done)), H', ⟨Nat.le_refl _⟩, ⟨by first | exact Kd.R_nil _ _ _ _ _ | exact Kd.N_nil _ _ _ _ _ | exact Kd.V_nil _ _ _ _ _ | exact Kd.Q_nil _ _ _ _ _ | exact Kd.S_nil _ _ _ _ _⟩, ⟨by (with_reducible repeat (first | apply blk_drewN | apply blk_drew | apply blk_alloc)); exact BK352.out⟩, ⟨by (with_reducible repeat (first | apply blk_drewN | apply blk_drew | apply blk_alloc)); exact BK353.out⟩, ⟨bw_⟩⟩
          case round =>
           clear H'
           try clear c1
           try clear p1
           try clear q1
           try clear hx1
           try clear c2
           try clear p2
           try clear c4
           try clear c6
           try clear c6b0
           try clear p6
           try clear c7
           try clear c8
           try clear c9
           try clear c9b0
           try clear c10
           try clear c10b0
           try clear p11
           try clear q11
           try clear hx11
           try clear c15
           try clear c17
           try clear c18
           try clear c19
           try clear c21
           try clear c21b0
           try clear c21b1
           try clear c22
           try clear hcz16_0
           try clear hcz16_1
           try clear hcz16_2
           try clear hcz20_0
           try clear hcz20_1
           try clear hcz20_2
           try clear hcz23_0
           try clear hcz23_1
           try clear hcz23_2
           try clear hcz8_0
           try clear hcz8_1
           try clear hcz8_2
           try clear hfz16_0
           try clear hfz16_1
           try clear hfz16_2
           try clear hfz20_0
           try clear hfz20_1
           try clear hfz20_2
           try clear hfz23_0
           try clear hfz23_1
           try clear hfz23_2
           try clear hfz8_0
           try clear hfz8_1
           try clear hfz8_2
           try clear p1
           try clear p11
           try clear p2
           try clear p6
           try clear q1
           try clear q11
           obtain ⟨x13_3, x353000_3, x353001_3, x354002_3, u354002, rfl, HA, HK3, HO_354002, BK352, BK353, HB⟩ := hrel
           cases gk with
           | zero => exact absurd HA.out (by simp [spec_l07Read.l0])
           | succ k3 =>
            have H := HA.out
            clear HA
            simp only [spec_l07Read.l0] at H
            by_cases c24 : x13_3 < (wrap64 (t355 + t354))
            ·rw [if_pos c24] at H
             have c24b0 : decide (x13_3 < (wrap64 (t355 + t354))) = true := decide_eq_true c24
             clear c24
             obtain ⟨ji25, hji25⟩ : ∃ j_ : Int, (wrap64 (t355 + t354)) = j_ := ⟨_, rfl⟩
             replace H : (if 0 ≤ (ji25) then (if (ji25) ≤ (a0.size : Int) then ((spec_l07Read.f k3 (a0.extract 0 ((ji25) : Int).toNat) x13_3 (wrap64 (a2 + 1))).bind fun bt357 => (if bt357.2.2.2.2 = true then (if (x354002_3.length : Int) ≥ 40 then (some (0, (⟨#[]⟩ : ByteArray), ([] : List (S26)), 0, false)) else (if x354002_3.length < 2932031007402 then (spec_l07Read.l0 k3 a0 a2 t354 t355 bt357.2.2.2.1 (wrap64 (bt a0 a1)) (⟨#[]⟩ : ByteArray) (x354002_3 ++ [(⟨bt357.1, bt357.2.1, bt357.2.2.1⟩ : S26)])) else (none))) else (some (0, (⟨#[]⟩ : ByteArray), ([] : List (S26)), 0, false)))) else (none)) else (none)) = some (r1, r2, r3, r4, r5) := by first | (rw [hji25] at H; exact H) | (simp only [hji25] at H ⊢; exact H)
             (try rw [hji25] at c24b0)
             have hji25w : (IntKind.i64.wrap (t355 + t354)) = ji25 := (i64_w _).trans hji25
             by_cases c26 : 0 ≤ (ji25)
             ·rw [if_pos c26] at H
              have c26b0 := eq_true c26
              have c26b1 : decide (0 ≤ (ji25)) = true := decide_eq_true c26
              clear c26
              by_cases c27 : (ji25) ≤ (a0.size : Int)
              ·rw [if_pos c27] at H
               have c27b0 := eq_true c27
               have c27b1 : decide ((ji25) ≤ (a0.size : Int)) = true := decide_eq_true c27
               clear c27
               replace H := Option.bind_eq_some_iff.mp H
               obtain ⟨⟨t357, t358, t359, t362, t363⟩, A280, H⟩ := H
               try dsimp only at H
               have A28 := Aside0.mk A280
               clear A280
               by_cases c29 : t363 = true
               ·subst c29
                rw [if_pos rfl] at H
                by_cases c30 : (x354002_3.length : Int) ≥ 40
                ·rw [if_pos c30] at H
                 have c30b0 : decide (40 ≤ (x354002_3.length : Int)) = true := decide_eq_true c30
                 have c30b1 : decide (40 ≤ x354002_3.length) = true := decide_eq_true (by omega)
                 clear c30
                 simp only [Option.some.injEq, Prod.mk.injEq] at H
                 obtain ⟨rfl, rfl, rfl, rfl, rfl⟩ := H
                 go_wp2_with (first | ((with_reducible refine gate_callee (f := 46) rfl ?_); refine goesL_ (some 79) rfl rfl Try.func46 (by kernel_rfl) rfl #[.string (a0.extract 0 ((ji25) : Int).toNat), .int .i64 x13_3, .int .i64 (wrap64 (a2 + 1))] rfl (by (try simp only [List.map_toArray, List.map_cons, List.map_nil]); first | done | (simp only [hji25]; rfl) | rfl | (simp only [List.length_drop, List.length_take]; rfl)) ?_; (with_reducible refine (ih k3 (by have := HJ3.out; have := HJ12.out; have := HK3.out; omega) (a0.extract 0 ((ji25) : Int).toNat) x13_3 (wrap64 (a2 + 1)) t357 t358 t359 t362 true _ A28.out).mono ?_); rintro e w31 ⟨v360, rfl, ho0, hb⟩; refine ⟨_, rfl, ?_⟩; have n0_ := Aside0.mk (Kd.R_elder' (by (with_reducible repeat (first | apply Kd.R_alloc | apply Kd.R_drewN | apply Kd.R_drew)); exact HO_354002.out) (Kd.R_base ho0) hb); have n1_ := Aside0.mk (Kd.R_lower (Kd.R_newB (Kd.R_newB (Kd.R_new' ho0 (Kd.R_lt (by (with_reducible repeat (first | apply Kd.R_alloc | apply Kd.R_drewN | apply Kd.R_drew)); exact HO_354002.out))) (g := gb352) (o := .cells #[.int .i64 x353000_3, .string x353001_3, .slice none 0 0] 26 (0, 0)) (by (with_reducible repeat (first | apply blk_drewN | apply blk_drew | apply blk_alloc)); exact BK352.out)) (g := gb353) (o := .cells #[.int .i64 (wrap64 (bt a0 a1)), .string (⟨#[]⟩ : ByteArray), u354002] 26 (0, 0)) (by (with_reducible repeat (first | apply blk_drewN | apply blk_drew | apply blk_alloc)); exact BK353.out)) (below_size bw_)); have n2_ := Aside0.mk (blk_below (g := gb352) (o := .cells #[.int .i64 x353000_3, .string x353001_3, .slice none 0 0] 26 (0, 0)) (by (with_reducible repeat (first | apply blk_drewN | apply blk_drew | apply blk_alloc)); exact BK352.out) hb); have n3_ := Aside0.mk (blk_below (g := gb353) (o := .cells #[.int .i64 (wrap64 (bt a0 a1)), .string (⟨#[]⟩ : ByteArray), u354002] 26 (0, 0)) (by (with_reducible repeat (first | apply blk_drewN | apply blk_drew | apply blk_alloc)); exact BK353.out) hb); have n4_ := Aside0.mk (below_step bw_ hb); clear HO_354002; clear BK352; clear BK353; clear HB; have HO_354002 := n0_; have HO361 := n1_; have BK352 := n2_; have BK353 := n3_; have HB := n4_; clear n0_ n1_ n2_ n3_ n4_; (try clear hb); (try clear hb2); (try clear hk); (try clear hi); (try clear ho0)) | ((with_reducible refine gate_dst (N := 14) rfl ?_); (try (refine gate_guard (by rfl) ?_; dsimp only)); refine box_event ?hg (N := 14) ?hd (cs := #[.int .i64 0, .string (⟨#[]⟩ : ByteArray), .slice none 0 0]) (t := 26) ?hr ?_; (case hd => rfl); (case hg => rfl); (case hr => first | (go_simp; done) | (go_simp; rfl)); intro gb364 hg w32 hbox hb; have n0_ := Aside0.mk (Kd.R_below (Kd.R_elderB (by (with_reducible repeat (first | apply Kd.R_alloc | apply Kd.R_drewN | apply Kd.R_drew)); exact HO_354002.out) gb364 (Nat.le_of_eq hg.symm)) hb); have n1_ := Aside0.mk (Kd.R_below (Kd.R_elderB (by (with_reducible repeat (first | apply Kd.R_alloc | apply Kd.R_drewN | apply Kd.R_drew)); exact HO361.out) gb364 (Nat.le_of_eq hg.symm)) hb); have n2_ := Aside0.mk (blk_below (g := gb352) (o := .cells #[.int .i64 x353000_3, .string x353001_3, .slice none 0 0] 26 (0, 0)) (by (with_reducible repeat (first | apply blk_drewN | apply blk_drew | apply blk_alloc)); exact BK352.out) hb); have n3_ := Aside0.mk (blk_below (g := gb353) (o := .cells #[.int .i64 (wrap64 (bt a0 a1)), .string (⟨#[]⟩ : ByteArray), u354002] 26 (0, 0)) (by (with_reducible repeat (first | apply blk_drewN | apply blk_drew | apply blk_alloc)); exact BK353.out) hb); have n4_ := Aside0.mk (below_step bw_ hb); have n5_ := Aside0.mk (hbox); have n6_ := Aside0.mk ((by rw [hg]; exact (below_size bw_) : w.heap.size ≤ gb364)); have n7_ := Aside0.mk ((by rw [hg]; exact (below_size bw_) : w.heap.size ≤ gb364)); have n8_ := Aside0.mk ((by rw [hg]; exact Nat.ne_of_lt (blk_lt (g := gb352) (o := .cells #[.int .i64 x353000_3, .string x353001_3, .slice none 0 0] 26 (0, 0)) (by (with_reducible repeat (first | apply blk_drewN | apply blk_drew | apply blk_alloc)); exact BK352.out)) : gb352 ≠ gb364)); have n9_ := Aside0.mk ((by rw [hg]; exact Nat.ne_of_gt (blk_lt (g := gb352) (o := .cells #[.int .i64 x353000_3, .string x353001_3, .slice none 0 0] 26 (0, 0)) (by (with_reducible repeat (first | apply blk_drewN | apply blk_drew | apply blk_alloc)); exact BK352.out)) : gb364 ≠ gb352)); have n10_ := Aside0.mk ((by rw [hg]; exact Nat.ne_of_lt (blk_lt (g := gb353) (o := .cells #[.int .i64 (wrap64 (bt a0 a1)), .string (⟨#[]⟩ : ByteArray), u354002] 26 (0, 0)) (by (with_reducible repeat (first | apply blk_drewN | apply blk_drew | apply blk_alloc)); exact BK353.out)) : gb353 ≠ gb364)); have n11_ := Aside0.mk ((by rw [hg]; exact Nat.ne_of_gt (blk_lt (g := gb353) (o := .cells #[.int .i64 (wrap64 (bt a0 a1)), .string (⟨#[]⟩ : ByteArray), u354002] 26 (0, 0)) (by (with_reducible repeat (first | apply blk_drewN | apply blk_drew | apply blk_alloc)); exact BK353.out)) : gb364 ≠ gb353)); clear HO_354002; clear HO361; clear BK352; clear BK353; clear HB; have HO_354002 := n0_; have HO361 := n1_; have BK352 := n2_; have BK353 := n3_; have HB := n4_; have BK364 := n5_; have GW364 := n6_; have GE364 := n7_; have NB352_364 := n8_; have NB364_352 := n9_; have NB353_364 := n10_; have NB364_353 := n11_; clear n0_ n1_ n2_ n3_ n4_ n5_ n6_ n7_ n8_ n9_ n10_ n11_; clear hb hbox hg; have hnb33 := NB364_352.out; have hnc33 := NB352_364.out; have hnb34 := NB364_353.out; have hnc34 := NB353_364.out; have hcz35_0 : w32.cell? ⟨gb364, 0, none⟩ = some (.int .i64 0) := (blk_cell BK364.out 0).trans rfl; have hcz35_1 : w32.cell? ⟨gb364, 1, none⟩ = some (.string (⟨#[]⟩ : ByteArray)) := (blk_cell BK364.out 1).trans rfl; have hcz35_2 : w32.cell? ⟨gb364, 2, none⟩ = some (.slice none 0 0) := (blk_cell BK364.out 2).trans rfl; have hfz35_0 := blk_frozen BK364.out 0; have hfz35_1 := blk_frozen BK364.out 1; have hfz35_2 := blk_frozen BK364.out 2; obtain ⟨Ao36, co36, eo36⟩ := Kd.R_slice HO361.out; subst eo36; have hnb37 := NB353_352.out; have hnc37 := NB352_353.out; have hcz38_0 : w32.cell? ⟨gb353, 0, none⟩ = some (.int .i64 (wrap64 (bt a0 a1))) := (blk_cell BK353.out 0).trans rfl; have hcz38_1 : w32.cell? ⟨gb353, 1, none⟩ = some (.string (⟨#[]⟩ : ByteArray)) := (blk_cell BK353.out 1).trans rfl; have hcz38_2 : w32.cell? ⟨gb353, 2, none⟩ = some (u354002) := (blk_cell BK353.out 2).trans rfl; have hfz38_0 := blk_frozen BK353.out 0; have hfz38_1 := blk_frozen BK353.out 1; have hfz38_2 := blk_frozen BK353.out 2; obtain ⟨Ao39, co39, eo39⟩ := Kd.R_slice HO_354002.out; subst eo39; have hcz40_0 : w32.cell? ⟨gb352, 0, none⟩ = some (.int .i64 x353000_3) := (blk_cell BK352.out 0).trans rfl; have hcz40_1 : w32.cell? ⟨gb352, 1, none⟩ = some (.string x353001_3) := (blk_cell BK352.out 1).trans rfl; have hcz40_2 : w32.cell? ⟨gb352, 2, none⟩ = some (.slice none 0 0) := (blk_cell BK352.out 2).trans rfl; have hfz40_0 := blk_frozen BK352.out 0; have hfz40_1 := blk_frozen BK352.out 1; have hfz40_2 := blk_frozen BK352.out 2))
                 refine bodyPost_ret (results_ctt rfl _ _ gb352 26 #[.int .i64 0, .string (⟨#[]⟩ : ByteArray), .slice none 0 0] (0, 0) _ rfl (by (with_reducible repeat (first | apply blk_drewN | apply blk_drew | apply blk_alloc)); apply blk_put3_; (with_reducible repeat (first | apply blk_drewN | apply blk_drew | apply blk_alloc | refine blk_far ?_ NB352_364.out _)); exact BK352.out) Try.underlying26 rfl (by kernel_rfl)) rfl ?_
                 exact ⟨_, by first | rfl | (simp [errW_none, errW_some] <;> rfl) | (simp only [← hji25]; first | rfl | (simp [errW_none, errW_some] <;> rfl)) | (simp [*, errW_none, errW_some] <;> rfl), by first | exact Kd.R_nil _ _ _ _ _ | exact Kd.N_nil _ _ _ _ _ | exact Kd.V_nil _ _ _ _ _ | exact Kd.Q_nil _ _ _ _ _ | exact Kd.S_nil _ _ _ _ _, bw_⟩
                ·rw [if_neg c30] at H
                 have c30b0 : decide (40 ≤ (x354002_3.length : Int)) = false := decide_eq_false c30
                 have c30b1 : decide (40 ≤ x354002_3.length) = false := decide_eq_false (by omega)
                 clear c30
                 by_cases c41 : x354002_3.length < 2932031007402
                 ·rw [if_pos c41] at H
                  have LMc41 := Aside0.mk c41
                  clear c41
                  obtain ⟨y365, hy365⟩ : ∃ y_ : List (S26), y_ = (x354002_3 ++ [(⟨t357, t358, t359⟩ : S26)]) := ⟨_, rfl⟩
                  replace H : (spec_l07Read.l0 k3 a0 a2 t354 t355 t362 (wrap64 (bt a0 a1)) (⟨#[]⟩ : ByteArray) y365) = some (r1, r2, r3, r4, r5) := by first | (rw [hy365]; with_reducible exact H) | (have H2_ := (Option.bind_some _ _).symm.trans H; rw [hy365]; with_reducible exact H2_) | (have H2_ := (Option.bind_some _ _).symm.trans H; with_reducible exact H2_) | with_reducible exact H | (rw [hy365]; exact H) | exact H
                  have Ny365 := Aside0.mk hy365
                  clear hy365
                  have H' := Aside0.mk H
                  clear H
                  go_wp2_with (first | ((with_reducible refine gate_callee (f := 46) rfl ?_); refine goesL_ (some 79) rfl rfl Try.func46 (by kernel_rfl) rfl #[.string (a0.extract 0 ((ji25) : Int).toNat), .int .i64 x13_3, .int .i64 (wrap64 (a2 + 1))] rfl (by (try simp only [List.map_toArray, List.map_cons, List.map_nil]); first | done | (simp only [hji25]; rfl) | rfl | (simp only [List.length_drop, List.length_take]; rfl)) ?_; (with_reducible refine (ih k3 (by have := HJ3.out; have := HJ12.out; have := HK3.out; omega) (a0.extract 0 ((ji25) : Int).toNat) x13_3 (wrap64 (a2 + 1)) t357 t358 t359 t362 true _ A28.out).mono ?_); rintro e w42 ⟨v360, rfl, ho0, hb⟩; refine ⟨_, rfl, ?_⟩; have n0_ := Aside0.mk (Kd.R_elder' (by (with_reducible repeat (first | apply Kd.R_alloc | apply Kd.R_drewN | apply Kd.R_drew)); exact HO_354002.out) (Kd.R_base ho0) hb); have n1_ := Aside0.mk (Kd.R_lower (Kd.R_newB (Kd.R_newB (Kd.R_new' ho0 (Kd.R_lt (by (with_reducible repeat (first | apply Kd.R_alloc | apply Kd.R_drewN | apply Kd.R_drew)); exact HO_354002.out))) (g := gb352) (o := .cells #[.int .i64 x353000_3, .string x353001_3, .slice none 0 0] 26 (0, 0)) (by (with_reducible repeat (first | apply blk_drewN | apply blk_drew | apply blk_alloc)); exact BK352.out)) (g := gb353) (o := .cells #[.int .i64 (wrap64 (bt a0 a1)), .string (⟨#[]⟩ : ByteArray), u354002] 26 (0, 0)) (by (with_reducible repeat (first | apply blk_drewN | apply blk_drew | apply blk_alloc)); exact BK353.out)) (below_size bw_)); have n2_ := Aside0.mk (blk_below (g := gb352) (o := .cells #[.int .i64 x353000_3, .string x353001_3, .slice none 0 0] 26 (0, 0)) (by (with_reducible repeat (first | apply blk_drewN | apply blk_drew | apply blk_alloc)); exact BK352.out) hb); have n3_ := Aside0.mk (blk_below (g := gb353) (o := .cells #[.int .i64 (wrap64 (bt a0 a1)), .string (⟨#[]⟩ : ByteArray), u354002] 26 (0, 0)) (by (with_reducible repeat (first | apply blk_drewN | apply blk_drew | apply blk_alloc)); exact BK353.out) hb); have n4_ := Aside0.mk (below_step bw_ hb); clear HO_354002; clear BK352; clear BK353; clear HB; have HO_354002 := n0_; have HO361 := n1_; have BK352 := n2_; have BK353 := n3_; have HB := n4_; clear n0_ n1_ n2_ n3_ n4_; (try clear hb); (try clear hb2); (try clear hk); (try clear hi); (try clear ho0)) | ((with_reducible refine gate_dst (N := 14) rfl ?_); (try (refine gate_guard (by rfl) ?_; dsimp only)); refine box_event ?hg (N := 14) ?hd (cs := #[.int .i64 0, .string (⟨#[]⟩ : ByteArray), .slice none 0 0]) (t := 26) ?hr ?_; (case hd => rfl); (case hg => rfl); (case hr => first | (go_simp; done) | (go_simp; rfl)); intro gb364 hg w43 hbox hb; have n0_ := Aside0.mk (Kd.R_below (Kd.R_elderB (by (with_reducible repeat (first | apply Kd.R_alloc | apply Kd.R_drewN | apply Kd.R_drew)); exact HO_354002.out) gb364 (Nat.le_of_eq hg.symm)) hb); have n1_ := Aside0.mk (Kd.R_below (Kd.R_elderB (by (with_reducible repeat (first | apply Kd.R_alloc | apply Kd.R_drewN | apply Kd.R_drew)); exact HO361.out) gb364 (Nat.le_of_eq hg.symm)) hb); have n2_ := Aside0.mk (blk_below (g := gb352) (o := .cells #[.int .i64 x353000_3, .string x353001_3, .slice none 0 0] 26 (0, 0)) (by (with_reducible repeat (first | apply blk_drewN | apply blk_drew | apply blk_alloc)); exact BK352.out) hb); have n3_ := Aside0.mk (blk_below (g := gb353) (o := .cells #[.int .i64 (wrap64 (bt a0 a1)), .string (⟨#[]⟩ : ByteArray), u354002] 26 (0, 0)) (by (with_reducible repeat (first | apply blk_drewN | apply blk_drew | apply blk_alloc)); exact BK353.out) hb); have n4_ := Aside0.mk (below_step bw_ hb); have n5_ := Aside0.mk (hbox); have n6_ := Aside0.mk ((by rw [hg]; exact (below_size bw_) : w.heap.size ≤ gb364)); have n7_ := Aside0.mk ((by rw [hg]; exact (below_size bw_) : w.heap.size ≤ gb364)); have n8_ := Aside0.mk ((by rw [hg]; exact Nat.ne_of_lt (blk_lt (g := gb352) (o := .cells #[.int .i64 x353000_3, .string x353001_3, .slice none 0 0] 26 (0, 0)) (by (with_reducible repeat (first | apply blk_drewN | apply blk_drew | apply blk_alloc)); exact BK352.out)) : gb352 ≠ gb364)); have n9_ := Aside0.mk ((by rw [hg]; exact Nat.ne_of_gt (blk_lt (g := gb352) (o := .cells #[.int .i64 x353000_3, .string x353001_3, .slice none 0 0] 26 (0, 0)) (by (with_reducible repeat (first | apply blk_drewN | apply blk_drew | apply blk_alloc)); exact BK352.out)) : gb364 ≠ gb352)); have n10_ := Aside0.mk ((by rw [hg]; exact Nat.ne_of_lt (blk_lt (g := gb353) (o := .cells #[.int .i64 (wrap64 (bt a0 a1)), .string (⟨#[]⟩ : ByteArray), u354002] 26 (0, 0)) (by (with_reducible repeat (first | apply blk_drewN | apply blk_drew | apply blk_alloc)); exact BK353.out)) : gb353 ≠ gb364)); have n11_ := Aside0.mk ((by rw [hg]; exact Nat.ne_of_gt (blk_lt (g := gb353) (o := .cells #[.int .i64 (wrap64 (bt a0 a1)), .string (⟨#[]⟩ : ByteArray), u354002] 26 (0, 0)) (by (with_reducible repeat (first | apply blk_drewN | apply blk_drew | apply blk_alloc)); exact BK353.out)) : gb364 ≠ gb353)); clear HO_354002; clear HO361; clear BK352; clear BK353; clear HB; have HO_354002 := n0_; have HO361 := n1_; have BK352 := n2_; have BK353 := n3_; have HB := n4_; have BK364 := n5_; have GW364 := n6_; have GE364 := n7_; have NB352_364 := n8_; have NB364_352 := n9_; have NB353_364 := n10_; have NB364_353 := n11_; clear n0_ n1_ n2_ n3_ n4_ n5_ n6_ n7_ n8_ n9_ n10_ n11_; clear hb hbox hg; have hnb44 := NB364_352.out; have hnc44 := NB352_364.out; have hnb45 := NB364_353.out; have hnc45 := NB353_364.out; have hcz46_0 : w43.cell? ⟨gb364, 0, none⟩ = some (.int .i64 0) := (blk_cell BK364.out 0).trans rfl; have hcz46_1 : w43.cell? ⟨gb364, 1, none⟩ = some (.string (⟨#[]⟩ : ByteArray)) := (blk_cell BK364.out 1).trans rfl; have hcz46_2 : w43.cell? ⟨gb364, 2, none⟩ = some (.slice none 0 0) := (blk_cell BK364.out 2).trans rfl; have hfz46_0 := blk_frozen BK364.out 0; have hfz46_1 := blk_frozen BK364.out 1; have hfz46_2 := blk_frozen BK364.out 2; obtain ⟨Ao47, co47, eo47⟩ := Kd.R_slice HO361.out; subst eo47) | ((with_reducible refine gate_store (t := 26) (p := 14) rfl ?_); refine store_event (t := 26) (p := 14) (v := ?vo_w48) (w1 := (((w43.setCell ⟨gb364, 0, none⟩ (.int .i64 t357)).setCell ⟨gb364, 1, none⟩ (.string t358)).setCell ⟨gb364, 2, none⟩ (.slice Ao47 t359.length co47))) ?hg ?ho ?hn ?hr ?_; (case ho => rfl); (case hg => rfl); (case hn => rfl); (case hr => first | (go_simp; done) | (go_simp; rfl)); intro w48 hw; have n0_ : Aside0 (Kd.R k26 26 w48 w.heap.size (fun k_ => some k_ ≠ (.slice Ao47 t359.length co47 : Value).ownBlock ∧ k_ ≠ gb352 ∧ k_ ≠ gb353 ∧ k_ ≠ gb364) u354002 x354002_3) := ⟨(by rw [hw]; exact (by (with_reducible repeat (first | apply Kd.R_alloc | apply Kd.R_drewN | apply Kd.R_drew)); exact Kd.R_mono (Kd.R_far (p := ⟨gb364, 2, none⟩) (Kd.R_far (p := ⟨gb364, 1, none⟩) (Kd.R_far (p := ⟨gb364, 0, none⟩) (Kd.R_mono HO_354002.out (fun k_ hk => (⟨hk, hk.2⟩ : _ ∧ k_ ≠ gb364))) (fun _ hk => hk.2) (.int .i64 t357)) (fun _ hk => hk.2) (.string t358)) (fun _ hk => hk.2) (.slice Ao47 t359.length co47)) (fun _ hk => ⟨hk.1.1.2, ⟨hk.1.1.1.1, ⟨hk.1.1.1.2, hk.1.2⟩⟩⟩)))⟩; have n1_ : Aside0 (Kd.R k26 26 w48 w.heap.size (fun k_ => some k_ ≠ (u354002 : Value).ownBlock ∧ k_ ≠ gb352 ∧ k_ ≠ gb353 ∧ k_ ≠ gb364) (.slice Ao47 t359.length co47) t359) := ⟨(by rw [hw]; exact (by (with_reducible repeat (first | apply Kd.R_alloc | apply Kd.R_drewN | apply Kd.R_drew)); exact Kd.R_mono (Kd.R_far (p := ⟨gb364, 2, none⟩) (Kd.R_far (p := ⟨gb364, 1, none⟩) (Kd.R_far (p := ⟨gb364, 0, none⟩) (Kd.R_mono HO361.out (fun k_ hk => (⟨hk, hk.2⟩ : _ ∧ k_ ≠ gb364))) (fun _ hk => hk.2) (.int .i64 t357)) (fun _ hk => hk.2) (.string t358)) (fun _ hk => hk.2) (.slice Ao47 t359.length co47)) (fun _ hk => ⟨hk.1.1.1.1.2, ⟨hk.1.1.1.2, ⟨hk.1.1.2, hk.1.2⟩⟩⟩)))⟩; have n2_ : Aside0 (w48.heap[gb352]? = some (.cells #[.int .i64 x353000_3, .string x353001_3, .slice none 0 0] 26 (0, 0))) := ⟨(by rw [hw]; exact (by (with_reducible repeat (first | apply blk_drewN | apply blk_drew | apply blk_alloc | refine blk_far ?_ NB352_364.out _)); exact BK352.out))⟩; have n3_ : Aside0 (w48.heap[gb353]? = some (.cells #[.int .i64 (wrap64 (bt a0 a1)), .string (⟨#[]⟩ : ByteArray), u354002] 26 (0, 0))) := ⟨(by rw [hw]; exact (by (with_reducible repeat (first | apply blk_drewN | apply blk_drew | apply blk_alloc | refine blk_far ?_ NB353_364.out _)); exact BK353.out))⟩; have n4_ : Aside0 (w48.heap[gb364]? = some (.cells #[.int .i64 t357, .string t358, .slice Ao47 t359.length co47] 26 (0, 0))) := ⟨(by rw [hw]; exact (by (with_reducible repeat (first | apply blk_drewN | apply blk_drew | apply blk_alloc)); apply blk_put3_; (with_reducible repeat (first | apply blk_drewN | apply blk_drew | apply blk_alloc)); exact BK364.out))⟩; have n5_ : Aside0 (Below w.heap.size w w48) := ⟨(by rw [hw]; exact bw_)⟩; clear hw; clear HO_354002; clear HO361; clear BK352; clear BK353; clear BK364; clear HB; have HO_354002 := n0_; have HO361 := n1_; have BK352 := n2_; have BK353 := n3_; have BK364 := n4_; have HB := n5_; clear n0_ n1_ n2_ n3_ n4_ n5_; have hnb49 := NB353_352.out; have hnc49 := NB352_353.out; have hcz50_0 : w48.cell? ⟨gb353, 0, none⟩ = some (.int .i64 (wrap64 (bt a0 a1))) := (blk_cell BK353.out 0).trans rfl; have hcz50_1 : w48.cell? ⟨gb353, 1, none⟩ = some (.string (⟨#[]⟩ : ByteArray)) := (blk_cell BK353.out 1).trans rfl; have hcz50_2 : w48.cell? ⟨gb353, 2, none⟩ = some (u354002) := (blk_cell BK353.out 2).trans rfl; have hfz50_0 := blk_frozen BK353.out 0; have hfz50_1 := blk_frozen BK353.out 1; have hfz50_2 := blk_frozen BK353.out 2; obtain ⟨Ao51, co51, eo51⟩ := Kd.R_slice HO_354002.out; subst eo51; have hcz52_0 : w48.cell? ⟨gb364, 0, none⟩ = some (.int .i64 t357) := (blk_cell BK364.out 0).trans rfl; have hcz52_1 : w48.cell? ⟨gb364, 1, none⟩ = some (.string t358) := (blk_cell BK364.out 1).trans rfl; have hcz52_2 : w48.cell? ⟨gb364, 2, none⟩ = some (.slice Ao47 t359.length co47) := (blk_cell BK364.out 2).trans rfl; have hfz52_0 := blk_frozen BK364.out 0; have hfz52_1 := blk_frozen BK364.out 1; have hfz52_2 := blk_frozen BK364.out 2) | ((with_reducible refine gate_builtin (b := .append) (xs := #[.tmp 93, .tmp 95]) rfl ?_); (try (refine gate_guard (by rfl) ?_; dsimp only)); at_builtin; refine Kd.R_append k26 (w0 := w) w.heap.size rfl (.tmp 93) (.tmp 95) 24 26 (.agg #[(.int .i64 0), (.string ⟨#[]⟩), (.slice none 0 0)]) 48 rfl Try.underlying24 info26 rfl (by decide) (by omega) (.slice Ao51 x354002_3.length co51) x354002_3 (⟨t357, t358, t359⟩ : S26) [.int .i64 t357, .string t358, .slice Ao47 t359.length co47] (fun k_ => k_ ≠ gb352 ∧ k_ ≠ gb353 ∧ k_ ≠ gb364) (fun k_ => ((fun k_ => k_ ≠ gb352 ∧ k_ ≠ gb353 ∧ k_ ≠ gb364)) k_ ∧ some k_ ≠ (.slice Ao51 x354002_3.length co51 : Value).ownBlock) rfl rfl ?aP (fun _ hk => hk) ?aF ?aO ?aB ?aS ?aL ?_; (case aP => exact k26_mkM _ _ _ (⟨t357, t358, t359⟩ : S26) (Kd.R_mono (HO361.out) (fun k_ hk => ⟨⟨hk.2.1, ⟨hk.2.2.1, hk.2.2.2⟩⟩, hk.1⟩))); (case aB => exact bw_); (case aF => exact (fun k_ hk => ⟨Kd.freshB (g := gb352) (o := .cells #[.int .i64 x353000_3, .string x353001_3, .slice none 0 0] 26 (0, 0)) (by (with_reducible repeat (first | apply blk_drewN | apply blk_drew | apply blk_alloc)); exact BK352.out) k_ hk, Kd.freshB (g := gb353) (o := .cells #[.int .i64 (wrap64 (bt a0 a1)), .string (⟨#[]⟩ : ByteArray), .slice Ao51 x354002_3.length co51] 26 (0, 0)) (by (with_reducible repeat (first | apply blk_drewN | apply blk_drew | apply blk_alloc)); exact BK353.out) k_ hk, Kd.freshB (g := gb364) (o := .cells #[.int .i64 t357, .string t358, .slice Ao47 t359.length co47] 26 (0, 0)) (by (with_reducible repeat (first | apply blk_drewN | apply blk_drew | apply blk_alloc)); exact BK364.out) k_ hk⟩)); (case aO => exact (by (with_reducible repeat (first | apply Kd.R_alloc | apply Kd.R_drewN | apply Kd.R_drew)); exact Kd.R_mono HO_354002.out (fun _ hk => ⟨hk.2.1, ⟨hk.2.2.1, hk.2.2.2⟩⟩))); (case aS => exact (below_size bw_)); (case aL => have := LMc41.out; omega); intro v366 w53 ho hb hg hat; rw [← Ny365.out] at ho; have n0_ := Aside0.mk (blk_grown (g := gb352) (o := .cells #[.int .i64 x353000_3, .string x353001_3, .slice none 0 0] 26 (0, 0)) (by (with_reducible repeat (first | apply blk_drewN | apply blk_drew | apply blk_alloc)); exact BK352.out) hg (Kd.R_away HO_354002.out (fun _ hk => hk.2.1))); have n1_ := Aside0.mk (blk_grown (g := gb353) (o := .cells #[.int .i64 (wrap64 (bt a0 a1)), .string (⟨#[]⟩ : ByteArray), .slice Ao51 x354002_3.length co51] 26 (0, 0)) (by (with_reducible repeat (first | apply blk_drewN | apply blk_drew | apply blk_alloc)); exact BK353.out) hg (Kd.R_away HO_354002.out (fun _ hk => hk.2.2.1))); have n2_ := Aside0.mk (blk_grown (g := gb364) (o := .cells #[.int .i64 t357, .string t358, .slice Ao47 t359.length co47] 26 (0, 0)) (by (with_reducible repeat (first | apply blk_drewN | apply blk_drew | apply blk_alloc)); exact BK364.out) hg (Kd.R_away HO_354002.out (fun _ hk => hk.2.2.2))); have n3_ := Aside0.mk (hb); have n4_ := Aside0.mk (ho); clear BK352; clear BK353; clear BK364; clear HB; clear HO_354002; clear HO361; have BK352 := n0_; have BK353 := n1_; have BK364 := n2_; have HB := n3_; have HO367 := n4_; clear n0_ n1_ n2_ n3_ n4_; clear ho hb hg hat; obtain ⟨Ao54, co54, eo54⟩ := Kd.R_slice HO367.out; subst eo54; have hcz55_0 : w53.cell? ⟨gb353, 0, none⟩ = some (.int .i64 (wrap64 (bt a0 a1))) := (blk_cell BK353.out 0).trans rfl; have hcz55_1 : w53.cell? ⟨gb353, 1, none⟩ = some (.string (⟨#[]⟩ : ByteArray)) := (blk_cell BK353.out 1).trans rfl; have hcz55_2 : w53.cell? ⟨gb353, 2, none⟩ = some (.slice Ao51 x354002_3.length co51) := (blk_cell BK353.out 2).trans rfl; have hfz55_0 := blk_frozen BK353.out 0; have hfz55_1 := blk_frozen BK353.out 1; have hfz55_2 := blk_frozen BK353.out 2))
                  go_roundg k3
                  case measure => have := HJ3.out; have := HJ12.out; have := HK3.out; omega
                  case rel => exact ⟨(t362), (x353000_3), (x353001_3), (y365), (.slice Ao54 y365.length co54), (by first | rfl | (simp; done) | (simp [*]; done)), H', ⟨by have := HJ3.out; have := HJ12.out; have := HK3.out; omega⟩, ⟨by (with_reducible repeat (first | apply Kd.R_alloc | apply Kd.R_drewN | apply Kd.R_drew)); exact Kd.R_mono (Kd.R_far (p := ⟨gb353, 2, none⟩) (Kd.R_mono HO367.out (fun k_ hk => (⟨hk, hk.2.1⟩ : _ ∧ k_ ≠ gb353))) (fun _ hk => hk.2) (.slice Ao54 y365.length co54)) (fun _ hk => ⟨hk.1.1, hk.1.2.1⟩)⟩, ⟨by (with_reducible repeat (first | apply blk_drewN | apply blk_drew | apply blk_alloc | refine blk_far ?_ NB352_353.out _)); exact BK352.out⟩, ⟨by (with_reducible repeat (first | apply blk_drewN | apply blk_drew | apply blk_alloc)); refine blk_put (cs := #[.int .i64 (wrap64 (bt a0 a1)), .string (⟨#[]⟩ : ByteArray), .slice Ao51 x354002_3.length co51]) ?_ 2 _ rfl; (with_reducible repeat (first | apply blk_drewN | apply blk_drew | apply blk_alloc)); exact BK353.out⟩, ⟨bw_⟩⟩
                 ·rw [if_neg c41] at H
                  exact absurd H (by simp)
               ·replace c29 := Bool.eq_false_iff.mpr c29
                subst c29
                rw [if_neg (show ¬ (false = true) by decide)] at H
                simp only [Option.some.injEq, Prod.mk.injEq] at H
                obtain ⟨rfl, rfl, rfl, rfl, rfl⟩ := H
                go_wp2_with (first | ((with_reducible refine gate_callee (f := 46) rfl ?_); refine goesL_ (some 79) rfl rfl Try.func46 (by kernel_rfl) rfl #[.string (a0.extract 0 ((ji25) : Int).toNat), .int .i64 x13_3, .int .i64 (wrap64 (a2 + 1))] rfl (by (try simp only [List.map_toArray, List.map_cons, List.map_nil]); first | done | (simp only [hji25]; rfl) | rfl | (simp only [List.length_drop, List.length_take]; rfl)) ?_; (with_reducible refine (ih k3 (by have := HJ3.out; have := HJ12.out; have := HK3.out; omega) (a0.extract 0 ((ji25) : Int).toNat) x13_3 (wrap64 (a2 + 1)) t357 t358 t359 t362 false _ A28.out).mono ?_); rintro e w56 ⟨v360, rfl, ho0, hb⟩; refine ⟨_, rfl, ?_⟩; have n0_ := Aside0.mk (Kd.R_elder' (by (with_reducible repeat (first | apply Kd.R_alloc | apply Kd.R_drewN | apply Kd.R_drew)); exact HO_354002.out) (Kd.R_base ho0) hb); have n1_ := Aside0.mk (Kd.R_lower (Kd.R_newB (Kd.R_newB (Kd.R_new' ho0 (Kd.R_lt (by (with_reducible repeat (first | apply Kd.R_alloc | apply Kd.R_drewN | apply Kd.R_drew)); exact HO_354002.out))) (g := gb352) (o := .cells #[.int .i64 x353000_3, .string x353001_3, .slice none 0 0] 26 (0, 0)) (by (with_reducible repeat (first | apply blk_drewN | apply blk_drew | apply blk_alloc)); exact BK352.out)) (g := gb353) (o := .cells #[.int .i64 (wrap64 (bt a0 a1)), .string (⟨#[]⟩ : ByteArray), u354002] 26 (0, 0)) (by (with_reducible repeat (first | apply blk_drewN | apply blk_drew | apply blk_alloc)); exact BK353.out)) (below_size bw_)); have n2_ := Aside0.mk (blk_below (g := gb352) (o := .cells #[.int .i64 x353000_3, .string x353001_3, .slice none 0 0] 26 (0, 0)) (by (with_reducible repeat (first | apply blk_drewN | apply blk_drew | apply blk_alloc)); exact BK352.out) hb); have n3_ := Aside0.mk (blk_below (g := gb353) (o := .cells #[.int .i64 (wrap64 (bt a0 a1)), .string (⟨#[]⟩ : ByteArray), u354002] 26 (0, 0)) (by (with_reducible repeat (first | apply blk_drewN | apply blk_drew | apply blk_alloc)); exact BK353.out) hb); have n4_ := Aside0.mk (below_step bw_ hb); clear HO_354002; clear BK352; clear BK353; clear HB; have HO_354002 := n0_; have HO361 := n1_; have BK352 := n2_; have BK353 := n3_; have HB := n4_; clear n0_ n1_ n2_ n3_ n4_; (try clear hb); (try clear hb2); (try clear hk); (try clear hi); (try clear ho0)) | ((with_reducible refine gate_dst (N := 14) rfl ?_); (try (refine gate_guard (by rfl) ?_; dsimp only)); refine box_event ?hg (N := 14) ?hd (cs := #[.int .i64 0, .string (⟨#[]⟩ : ByteArray), .slice none 0 0]) (t := 26) ?hr ?_; (case hd => rfl); (case hg => rfl); (case hr => first | (go_simp; done) | (go_simp; rfl)); intro gb364 hg w57 hbox hb; have n0_ := Aside0.mk (Kd.R_below (Kd.R_elderB (by (with_reducible repeat (first | apply Kd.R_alloc | apply Kd.R_drewN | apply Kd.R_drew)); exact HO_354002.out) gb364 (Nat.le_of_eq hg.symm)) hb); have n1_ := Aside0.mk (Kd.R_below (Kd.R_elderB (by (with_reducible repeat (first | apply Kd.R_alloc | apply Kd.R_drewN | apply Kd.R_drew)); exact HO361.out) gb364 (Nat.le_of_eq hg.symm)) hb); have n2_ := Aside0.mk (blk_below (g := gb352) (o := .cells #[.int .i64 x353000_3, .string x353001_3, .slice none 0 0] 26 (0, 0)) (by (with_reducible repeat (first | apply blk_drewN | apply blk_drew | apply blk_alloc)); exact BK352.out) hb); have n3_ := Aside0.mk (blk_below (g := gb353) (o := .cells #[.int .i64 (wrap64 (bt a0 a1)), .string (⟨#[]⟩ : ByteArray), u354002] 26 (0, 0)) (by (with_reducible repeat (first | apply blk_drewN | apply blk_drew | apply blk_alloc)); exact BK353.out) hb); have n4_ := Aside0.mk (below_step bw_ hb); have n5_ := Aside0.mk (hbox); have n6_ := Aside0.mk ((by rw [hg]; exact (below_size bw_) : w.heap.size ≤ gb364)); have n7_ := Aside0.mk ((by rw [hg]; exact (below_size bw_) : w.heap.size ≤ gb364)); have n8_ := Aside0.mk ((by rw [hg]; exact Nat.ne_of_lt (blk_lt (g := gb352) (o := .cells #[.int .i64 x353000_3, .string x353001_3, .slice none 0 0] 26 (0, 0)) (by (with_reducible repeat (first | apply blk_drewN | apply blk_drew | apply blk_alloc)); exact BK352.out)) : gb352 ≠ gb364)); have n9_ := Aside0.mk ((by rw [hg]; exact Nat.ne_of_gt (blk_lt (g := gb352) (o := .cells #[.int .i64 x353000_3, .string x353001_3, .slice none 0 0] 26 (0, 0)) (by (with_reducible repeat (first | apply blk_drewN | apply blk_drew | apply blk_alloc)); exact BK352.out)) : gb364 ≠ gb352)); have n10_ := Aside0.mk ((by rw [hg]; exact Nat.ne_of_lt (blk_lt (g := gb353) (o := .cells #[.int .i64 (wrap64 (bt a0 a1)), .string (⟨#[]⟩ : ByteArray), u354002] 26 (0, 0)) (by (with_reducible repeat (first | apply blk_drewN | apply blk_drew | apply blk_alloc)); exact BK353.out)) : gb353 ≠ gb364)); have n11_ := Aside0.mk ((by rw [hg]; exact Nat.ne_of_gt (blk_lt (g := gb353) (o := .cells #[.int .i64 (wrap64 (bt a0 a1)), .string (⟨#[]⟩ : ByteArray), u354002] 26 (0, 0)) (by (with_reducible repeat (first | apply blk_drewN | apply blk_drew | apply blk_alloc)); exact BK353.out)) : gb364 ≠ gb353)); clear HO_354002; clear HO361; clear BK352; clear BK353; clear HB; have HO_354002 := n0_; have HO361 := n1_; have BK352 := n2_; have BK353 := n3_; have HB := n4_; have BK364 := n5_; have GW364 := n6_; have GE364 := n7_; have NB352_364 := n8_; have NB364_352 := n9_; have NB353_364 := n10_; have NB364_353 := n11_; clear n0_ n1_ n2_ n3_ n4_ n5_ n6_ n7_ n8_ n9_ n10_ n11_; clear hb hbox hg; have hnb58 := NB364_352.out; have hnc58 := NB352_364.out; have hnb59 := NB364_353.out; have hnc59 := NB353_364.out; have hcz60_0 : w57.cell? ⟨gb364, 0, none⟩ = some (.int .i64 0) := (blk_cell BK364.out 0).trans rfl; have hcz60_1 : w57.cell? ⟨gb364, 1, none⟩ = some (.string (⟨#[]⟩ : ByteArray)) := (blk_cell BK364.out 1).trans rfl; have hcz60_2 : w57.cell? ⟨gb364, 2, none⟩ = some (.slice none 0 0) := (blk_cell BK364.out 2).trans rfl; have hfz60_0 := blk_frozen BK364.out 0; have hfz60_1 := blk_frozen BK364.out 1; have hfz60_2 := blk_frozen BK364.out 2; obtain ⟨Ao61, co61, eo61⟩ := Kd.R_slice HO361.out; subst eo61; have hnb62 := NB352_353.out; have hnc62 := NB353_352.out; have hcz63_0 : w57.cell? ⟨gb352, 0, none⟩ = some (.int .i64 x353000_3) := (blk_cell BK352.out 0).trans rfl; have hcz63_1 : w57.cell? ⟨gb352, 1, none⟩ = some (.string x353001_3) := (blk_cell BK352.out 1).trans rfl; have hcz63_2 : w57.cell? ⟨gb352, 2, none⟩ = some (.slice none 0 0) := (blk_cell BK352.out 2).trans rfl; have hfz63_0 := blk_frozen BK352.out 0; have hfz63_1 := blk_frozen BK352.out 1; have hfz63_2 := blk_frozen BK352.out 2))
                refine bodyPost_ret (results_ctt rfl _ _ gb352 26 #[.int .i64 0, .string (⟨#[]⟩ : ByteArray), .slice none 0 0] (0, 0) _ rfl (by (with_reducible repeat (first | apply blk_drewN | apply blk_drew | apply blk_alloc)); apply blk_put3_; (with_reducible repeat (first | apply blk_drewN | apply blk_drew | apply blk_alloc | refine blk_far ?_ NB352_364.out _)); exact BK352.out) Try.underlying26 rfl (by kernel_rfl)) rfl ?_
                exact ⟨_, by first | rfl | (simp [errW_none, errW_some] <;> rfl) | (simp only [← hji25]; first | rfl | (simp [errW_none, errW_some] <;> rfl)) | (simp [*, errW_none, errW_some] <;> rfl), by first | exact Kd.R_nil _ _ _ _ _ | exact Kd.N_nil _ _ _ _ _ | exact Kd.V_nil _ _ _ _ _ | exact Kd.Q_nil _ _ _ _ _ | exact Kd.S_nil _ _ _ _ _, bw_⟩
              ·rw [if_neg c27] at H
               exact absurd H (by simp)
             ·rw [if_neg c26] at H
              exact absurd H (by simp)
            ·rw [if_neg c24] at H
             have c24b0 : decide (x13_3 < (wrap64 (t355 + t354))) = false := decide_eq_false c24
             clear c24
             simp only [Option.some.injEq, Prod.mk.injEq] at H
             obtain ⟨rfl, rfl, rfl, rfl, rfl⟩ := H
             have hnb64 := NB353_352.out
             have hnc64 := NB352_353.out
             have hcz65_0 : wr.cell? ⟨gb353, 0, none⟩ = some (.int .i64 (wrap64 (bt a0 a1))) := (blk_cell BK353.out 0).trans rfl
             have hcz65_1 : wr.cell? ⟨gb353, 1, none⟩ = some (.string (⟨#[]⟩ : ByteArray)) := (blk_cell BK353.out 1).trans rfl
             have hcz65_2 : wr.cell? ⟨gb353, 2, none⟩ = some (u354002) := (blk_cell BK353.out 2).trans rfl
             have hfz65_0 := blk_frozen BK353.out 0
             have hfz65_1 := blk_frozen BK353.out 1
             have hfz65_2 := blk_frozen BK353.out 2
             have hcz66_0 : wr.cell? ⟨gb352, 0, none⟩ = some (.int .i64 x353000_3) := (blk_cell BK352.out 0).trans rfl
             have hcz66_1 : wr.cell? ⟨gb352, 1, none⟩ = some (.string x353001_3) := (blk_cell BK352.out 1).trans rfl
             have hcz66_2 : wr.cell? ⟨gb352, 2, none⟩ = some (.slice none 0 0) := (blk_cell BK352.out 2).trans rfl
             have hfz66_0 := blk_frozen BK352.out 0
             have hfz66_1 := blk_frozen BK352.out 1
             have hfz66_2 := blk_frozen BK352.out 2
             obtain ⟨Ao67, co67, eo67⟩ := Kd.R_slice HO_354002.out
             subst eo67
             go_wp2
             refine bodyPost_ret (results_ctt rfl _ _ gb352 26 #[.int .i64 (wrap64 (bt a0 a1)), .string (⟨#[]⟩ : ByteArray), .slice Ao67 x354002_3.length co67] (0, 0) _ rfl (by (with_reducible repeat (first | apply blk_drewN | apply blk_drew | apply blk_alloc)); apply blk_put3_; (with_reducible repeat (first | apply blk_drewN | apply blk_drew | apply blk_alloc)); exact BK352.out) Try.underlying26 rfl (by kernel_rfl)) rfl ?_
             exact ⟨_, by first | rfl | (simp [errW_none, errW_some] <;> rfl) | (simp [*, errW_none, errW_some] <;> rfl), by (with_reducible repeat (first | apply Kd.R_alloc | apply Kd.R_drewN | apply Kd.R_drew)); exact Kd.R_mono (Kd.R_far (p := ⟨gb352, 2, none⟩) (Kd.R_far (p := ⟨gb352, 1, none⟩) (Kd.R_far (p := ⟨gb352, 0, none⟩) (Kd.R_mono HO_354002.out (fun k_ hk => (⟨hk, hk.1⟩ : _ ∧ k_ ≠ gb352))) (fun _ hk => hk.2) (.int .i64 (wrap64 (bt a0 a1)))) (fun _ hk => hk.2) (.string (⟨#[]⟩ : ByteArray))) (fun _ hk => hk.2) (.slice Ao67 x354002_3.length co67)) (fun _ hk => trivial), bw_⟩
         ·rw [if_neg c21] at H
          have c21b0 : ((wrap64 (bt a0 a1)) == 48) = false := beq_eq_false_iff_ne.mpr c21
          have c21b1 : ((wrap64 (bt a0 a1)) != 48) = true := bne_iff_ne.mpr c21
          by_cases c68 : 0 ≤ t355
          ·rw [if_pos c68] at H
           have c68b0 := eq_true c68
           have c68b1 : decide (0 ≤ t355) = true := decide_eq_true c68
           clear c68
           by_cases c69 : t355 ≤ (wrap64 (t355 + t354))
           ·rw [if_pos c69] at H
            have c69b0 := eq_true c69
            have c69b1 : decide (t355 ≤ (wrap64 (t355 + t354))) = true := decide_eq_true c69
            by_cases c70 : (wrap64 (t355 + t354)) ≤ (a0.size : Int)
            ·rw [if_pos c70] at H
             have c70b0 := eq_true c70
             have c70b1 : decide ((wrap64 (t355 + t354)) ≤ (a0.size : Int)) = true := decide_eq_true c70
             simp only [Option.some.injEq, Prod.mk.injEq] at H
             obtain ⟨rfl, rfl, rfl, rfl, rfl⟩ := H
             have hnb71 := NB353_352.out
             have hnc71 := NB352_353.out
             have hcz72_0 : wc.cell? ⟨gb353, 0, none⟩ = some (.int .i64 (wrap64 (bt a0 a1))) := (blk_cell BK353.out 0).trans rfl
             have hcz72_1 : wc.cell? ⟨gb353, 1, none⟩ = some (.string (⟨#[]⟩ : ByteArray)) := (blk_cell BK353.out 1).trans rfl
             have hcz72_2 : wc.cell? ⟨gb353, 2, none⟩ = some (.slice none 0 0) := (blk_cell BK353.out 2).trans rfl
             have hfz72_0 := blk_frozen BK353.out 0
             have hfz72_1 := blk_frozen BK353.out 1
             have hfz72_2 := blk_frozen BK353.out 2
             have hcz73_0 : wc.cell? ⟨gb352, 0, none⟩ = some (.int .i64 0) := (blk_cell BK352.out 0).trans rfl
             have hcz73_1 : wc.cell? ⟨gb352, 1, none⟩ = some (.string (⟨#[]⟩ : ByteArray)) := (blk_cell BK352.out 1).trans rfl
             have hcz73_2 : wc.cell? ⟨gb352, 2, none⟩ = some (.slice none 0 0) := (blk_cell BK352.out 2).trans rfl
             have hfz73_0 := blk_frozen BK352.out 0
             have hfz73_1 := blk_frozen BK352.out 1
             have hfz73_2 := blk_frozen BK352.out 2
             go_wp2
             refine bodyPost_ret (results_ctt rfl _ _ gb352 26 #[.int .i64 (wrap64 (bt a0 a1)), .string (a0.extract (t355 : Int).toNat ((wrap64 (t355 + t354)) : Int).toNat), .slice none 0 0] (0, 0) _ rfl (by (with_reducible repeat (first | apply blk_drewN | apply blk_drew | apply blk_alloc)); apply blk_put3_; (with_reducible repeat (first | apply blk_drewN | apply blk_drew | apply blk_alloc | refine blk_far ?_ NB352_353.out _)); exact BK352.out) Try.underlying26 rfl (by kernel_rfl)) rfl ?_
             exact ⟨_, by first | rfl | (simp [errW_none, errW_some] <;> rfl) | (simp [*, errW_none, errW_some] <;> rfl), by first | exact Kd.R_nil _ _ _ _ _ | exact Kd.N_nil _ _ _ _ _ | exact Kd.V_nil _ _ _ _ _ | exact Kd.Q_nil _ _ _ _ _ | exact Kd.S_nil _ _ _ _ _, bw_⟩
            ·rw [if_neg c70] at H
             exact absurd H (by simp)
           ·rw [if_neg c69] at H
            exact absurd H (by simp)
          ·rw [if_neg c68] at H
           exact absurd H (by simp)
     ·rw [if_neg c10] at H
      exact absurd H (by simp)
    ·rw [if_neg c9] at H
     exact absurd H (by simp)

end Go.Proofs.Ytknalcnbkbkjdaa.GFnItems
