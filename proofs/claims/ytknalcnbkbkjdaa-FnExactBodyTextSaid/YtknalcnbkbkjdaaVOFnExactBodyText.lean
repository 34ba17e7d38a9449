-- Written by a program of this session (lawrow.py): no printed text.
import Derived.Test.YtknalcnbkbkjdaaRows
import Derived.Test.YtknalcnbkbkjdaaVGFnExactBodyTextx13
import Derived.Deep.Strs
import Derived.OpenShut
import Derived.SliceStrings
import Derived.ChangeSlices
import Derived.ChangeArms
set_option autoImplicit false
set_option maxRecDepth 100000
namespace Go.Proofs.Ytknalcnbkbkjdaa.GFnExactBodyText
open Go.ChangeShapes Go.WideShapes Go.RowKit Go.Proofs.Ytknalcnbkbkjdaa.GFnExactBodyText Go.Proofs.YtknalcnbkbkjdaaW.PrintWords
/-! A letter (type 49), as the argument holds it: its thirteen fields out of the reader's own word. -/
theorem openNums {H : Type} {enc : TypeId × Value → H} {W : World} {n : Nat} {u : Value} {x : DataW H × List MemPlace} (h : DataW.trod enc Try.prog W 0 (fun _ => true) true n 46 [u] = some x) :
    ∃ (A : Option Addr) (c : Nat) (l : List Int), u = .slice A l.length c ∧ l.length ≤ 9223372036854775807 ∧ l.length ≤ c ∧ Kd.C (Kd.int .i64) W A l.length l := by
  rcases open_ints Try.underlying46 Try.underlying3 (by kernel_rfl) h with ⟨hcs, _⟩ | ⟨x, len, c, zs, hcs, _, hl, hm, hz, _, hcell, _⟩
  · obtain rfl : u = .slice none 0 0 := by simpa using hcs
    exact ⟨none, 0, [], rfl, Nat.zero_le _, Nat.le_refl _, Kd.C_of_reads (enc := Value.int .i64) (d := (0 : Int)) (h1 := fun _ => rfl) ⟨rfl, Nat.zero_le _, fun h => absurd h (Nat.lt_irrefl 0)⟩⟩
  · obtain rfl : u = .slice (some x) len c := by simpa using hcs
    have hlc : zs.length = c := by simpa using hz
    have hmx : c ≤ 9223372036854775807 := hm
    have htl : (zs.take len).length = len := by rw [List.length_take]; omega
    refine ⟨some x, c, zs.take len, by rw [htl], by omega, by omega, ?_⟩
    refine Kd.C_of_reads (enc := Value.int .i64) (d := (0 : Int)) (h1 := fun _ => rfl) ⟨rfl, by omega, fun hn => ⟨x, rfl, fun j hj => ?_⟩⟩
    rw [hcell j (by omega), List.getD_eq_getElem?_getD, List.getD_eq_getElem?_getD, List.getElem?_take, if_pos (by omega)]
theorem openTexts {H : Type} {enc : TypeId × Value → H} {W : World} {n : Nat} {u : Value} {x : DataW H × List MemPlace} (h : DataW.trod enc Try.prog W 0 (fun _ => true) true n 47 [u] = some x) :
    ∃ (A : Option Addr) (c : Nat) (l : List ByteArray), u = .slice A l.length c ∧ l.length ≤ 9223372036854775807 ∧ (∀ s ∈ l, s.size ≤ 9223372036854775807) ∧ l.length ≤ c ∧ Kd.C Kd.string W A l.length l := by
  rcases open_strings Try.underlying47 Try.underlying9 (by kernel_rfl) h with ⟨hcs, _⟩ | ⟨x, len, c, ss, hcs, _, hl, hm, hz, _, hcell, hws⟩
  · obtain rfl : u = .slice none 0 0 := by simpa using hcs
    exact ⟨none, 0, [], rfl, Nat.zero_le _, (fun s hs => by cases hs), Nat.le_refl _, Kd.C_of_reads (enc := Value.string) (d := ByteArray.empty) (h1 := fun _ => rfl) ⟨rfl, Nat.zero_le _, fun h => absurd h (Nat.lt_irrefl 0)⟩⟩
  · obtain rfl : u = .slice (some x) len c := by simpa using hcs
    have hlc : ss.length = c := by simpa using hz
    have hmx : c ≤ 9223372036854775807 := hm
    have htl : (ss.take len).length = len := by rw [List.length_take]; omega
    refine ⟨some x, c, ss.take len, by rw [htl], by omega, fun s hs => hws s (List.mem_of_mem_take hs), by omega, ?_⟩
    refine Kd.C_of_reads (enc := Value.string) (d := ByteArray.empty) (h1 := fun _ => rfl) ⟨rfl, by omega, fun hn => ⟨x, rfl, fun j hj => ?_⟩⟩
    rw [hcell j (by omega), List.getD_eq_getElem?_getD, List.getD_eq_getElem?_getD, List.getElem?_take, if_pos (by omega)]
theorem openCert {H : Type} {enc : TypeId × Value → H} {W : World} {n : Nat} {cs : List Value} {x : DataW H × List MemPlace} (h : DataW.trod enc Try.prog W 0 (fun _ => true) true n 49 cs = some x) :
    ∃ (a0 : Int) (a1 a2 : ByteArray) (a3 a4 : Int) (a5 : ByteArray) (a6 : Bool) (a7 a8 : Int) (A9 : Option Addr) (c9 : Nat) (l9 : List Int) (A10 : Option Addr) (c10 : Nat) (l10 : List ByteArray) (A11 : Option Addr) (c11 : Nat) (l11 : List ByteArray) (a12 : ByteArray),
      cs = [.int .i64 a0, .string a1, .string a2, .int .i64 a3, .int .i64 a4, .string a5, .bool a6, .int .i64 a7, .int .i64 a8, .slice A9 l9.length c9, .slice A10 l10.length c10, .slice A11 l11.length c11, .string a12] ∧
      (a1.size ≤ 9223372036854775807 ∧ a2.size ≤ 9223372036854775807 ∧ a5.size ≤ 9223372036854775807 ∧ a12.size ≤ 9223372036854775807) ∧
      (l9.length ≤ 9223372036854775807 ∧ l9.length ≤ c9 ∧ Kd.C (Kd.int .i64) W A9 l9.length l9) ∧
      (l10.length ≤ 9223372036854775807 ∧ (∀ s ∈ l10, s.size ≤ 9223372036854775807) ∧ l10.length ≤ c10 ∧ Kd.C Kd.string W A10 l10.length l10) ∧
      (l11.length ≤ 9223372036854775807 ∧ (∀ s ∈ l11, s.size ≤ 9223372036854775807) ∧ l11.length ≤ c11 ∧ Kd.C Kd.string W A11 l11.length l11) := by
  obtain ⟨xs, m, rfl, rfl, hl, hlen, hf⟩ := DataW.trod_struct Try.underlying49 h
  have hc : Try.prog.cellsOf 49 = 13 := by kernel_rfl
  have hc1 : Try.prog.cellsOf 3 = 1 := by kernel_rfl
  have hc2 : Try.prog.cellsOf 9 = 1 := by kernel_rfl
  have hc3 : Try.prog.cellsOf 4 = 1 := by kernel_rfl
  have hc4 : Try.prog.cellsOf 46 = 1 := by kernel_rfl
  have hc5 : Try.prog.cellsOf 47 = 1 := by kernel_rfl
  rw [hc] at hl
  match xs, hlen, cs, hl with
  | [y0, y1, y2, y3, y4, y5, y6, y7, y8, y9, y10, y11, y12], _, [u0, u1, u2, u3, u4, u5, u6, u7, u8, u9, u10, u11, u12], _ =>
    have f0 : DataW.trod enc Try.prog W 0 (fun _ => true) true m 3 [u0] = some y0 := by have := hf 0 _ rfl; simpa [hc1] using this
    have f1 : DataW.trod enc Try.prog W 0 (fun _ => true) true m 9 [u1] = some y1 := by have := hf 1 _ rfl; simpa [hc1, hc2] using this
    have f2 : DataW.trod enc Try.prog W 0 (fun _ => true) true m 9 [u2] = some y2 := by have := hf 2 _ rfl; simpa [hc1, hc2] using this
    have f3 : DataW.trod enc Try.prog W 0 (fun _ => true) true m 3 [u3] = some y3 := by have := hf 3 _ rfl; simpa [hc1, hc2] using this
    have f4 : DataW.trod enc Try.prog W 0 (fun _ => true) true m 3 [u4] = some y4 := by have := hf 4 _ rfl; simpa [hc1, hc2] using this
    have f5 : DataW.trod enc Try.prog W 0 (fun _ => true) true m 9 [u5] = some y5 := by have := hf 5 _ rfl; simpa [hc1, hc2] using this
    have f6 : DataW.trod enc Try.prog W 0 (fun _ => true) true m 4 [u6] = some y6 := by have := hf 6 _ rfl; simpa [hc1, hc2, hc3] using this
    have f7 : DataW.trod enc Try.prog W 0 (fun _ => true) true m 3 [u7] = some y7 := by have := hf 7 _ rfl; simpa [hc1, hc2, hc3] using this
    have f8 : DataW.trod enc Try.prog W 0 (fun _ => true) true m 3 [u8] = some y8 := by have := hf 8 _ rfl; simpa [hc1, hc2, hc3] using this
    have f9 : DataW.trod enc Try.prog W 0 (fun _ => true) true m 46 [u9] = some y9 := by have := hf 9 _ rfl; simpa [hc1, hc2, hc3, hc4] using this
    have f10 : DataW.trod enc Try.prog W 0 (fun _ => true) true m 47 [u10] = some y10 := by have := hf 10 _ rfl; simpa [hc1, hc2, hc3, hc4, hc5] using this
    have f11 : DataW.trod enc Try.prog W 0 (fun _ => true) true m 47 [u11] = some y11 := by have := hf 11 _ rfl; simpa [hc1, hc2, hc3, hc4, hc5] using this
    have f12 : DataW.trod enc Try.prog W 0 (fun _ => true) true m 9 [u12] = some y12 := by have := hf 12 _ rfl; simpa [hc1, hc2, hc3, hc4, hc5] using this
    obtain ⟨q0, e0, _, _⟩ := DataW.trod_int Try.underlying3 f0
    obtain ⟨q1, e1, _, w1⟩ := DataW.trod_string Try.underlying9 f1
    obtain ⟨q2, e2, _, w2⟩ := DataW.trod_string Try.underlying9 f2
    obtain ⟨q3, e3, _, _⟩ := DataW.trod_int Try.underlying3 f3
    obtain ⟨q4, e4, _, _⟩ := DataW.trod_int Try.underlying3 f4
    obtain ⟨q5, e5, _, w5⟩ := DataW.trod_string Try.underlying9 f5
    obtain ⟨q6, e6, _⟩ := DataW.trod_bool Try.underlying4 f6
    obtain ⟨q7, e7, _, _⟩ := DataW.trod_int Try.underlying3 f7
    obtain ⟨q8, e8, _, _⟩ := DataW.trod_int Try.underlying3 f8
    obtain ⟨A9, c9, l9, e9, m9, k9, r9⟩ := openNums f9
    obtain ⟨A10, c10, l10, e10, m10, w10, k10, r10⟩ := openTexts f10
    obtain ⟨A11, c11, l11, e11, m11, w11, k11, r11⟩ := openTexts f11
    obtain ⟨q12, e12, _, w12⟩ := DataW.trod_string Try.underlying9 f12
    refine ⟨q0, q1, q2, q3, q4, q5, q6, q7, q8, A9, c9, l9, A10, c10, l10, A11, c11, l11, q12, ?_, ⟨w1, w2, w5, w12⟩, ⟨m9, k9, r9⟩, ⟨m10, w10, k10, r10⟩, ⟨m11, w11, k11, r11⟩⟩
    simp only [List.cons.injEq, and_true] at e0 e1 e2 e3 e4 e5 e6 e7 e8 e12
    rw [e0, e1, e2, e3, e4, e5, e6, e7, e8, e9, e10, e11, e12]
def laws_FnExactBodyText.Pure : Prop := ∀ (a0 : Int) (a1 a2 : ByteArray) (a3 a4 : Int) (a5 : ByteArray) (a6 : Bool) (a7 a8 : Int) (l9 : List Int) (l10 l11 : List ByteArray) (a12 : ByteArray), a1.size ≤ 9223372036854775807 → a2.size ≤ 9223372036854775807 → a5.size ≤ 9223372036854775807 → a12.size ≤ 9223372036854775807 → l9.length ≤ 9223372036854775807 → l10.length ≤ 9223372036854775807 → (∀ s ∈ l10, s.size ≤ 9223372036854775807) → l11.length ≤ 9223372036854775807 → (∀ s ∈ l11, s.size ≤ 9223372036854775807) → ∃ k, laws_FnExactBodyText.f k a0 a1 a2 a3 a4 a5 a6 a7 a8 l9 l10 l11 a12 = some true
end Go.Proofs.Ytknalcnbkbkjdaa.GFnExactBodyText
