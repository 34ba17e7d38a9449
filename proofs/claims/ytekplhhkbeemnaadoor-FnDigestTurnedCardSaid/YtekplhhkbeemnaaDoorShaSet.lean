-- Written by a program of this session (sha.sh): no printed text.
import Derived.Test.YtekplhhkbeemnaaDoorProg
import Derived.Test.YtekplhhkbeemnaaDoorWWords
import Derived.Test.YtekplhhkbeemnaaDoorWLast
import Derived.Test.YtekplhhkbeemnaaDoorWTab
import Derived.Test.YtekplhhkbeemnaaDoorWFour
import Derived.Test.YtekplhhkbeemnaaDoorWQPut
import Derived.Test.YtekplhhkbeemnaaDoorWApart
import Derived.Test.YtekplhhkbeemnaaDoorWArr
import Derived.Test.YtekplhhkbeemnaaDoorWZeros
import Derived.Test.YtekplhhkbeemnaaDoorWFoot
import Derived.Test.YtekplhhkbeemnaaDoorWKept
import Derived.Test.YtekplhhkbeemnaaDoorWShare
import Derived.Test.YtekplhhkbeemnaaDoorWN
import Derived.Test.YtekplhhkbeemnaaDoorWFootNe
import Derived.Test.YtekplhhkbeemnaaDoorWAt
import Derived.Test.YtekplhhkbeemnaaDoorWEqStruct
import Derived.Test.YtekplhhkbeemnaaDoorWRepsOne
import Derived.Test.YtekplhhkbeemnaaDoorWInv
import Derived.Test.YtekplhhkbeemnaaDoorWInvWords
import Derived.Test.YtekplhhkbeemnaaDoorWGuard
import Derived.Test.YtekplhhkbeemnaaDoorWNEv
import Derived.Test.YtekplhhkbeemnaaDoorWMore
import Derived.Below
import Derived.Deep.Draws
import Derived.Deep.AppendLies
import Derived.Tactics
import Derived.Lib.ConvBytes
import Derived.Laws.Slices
import Derived.WalkKit
import Derived.StillTailTactics
import Derived.Laws.CopyOwn
import Derived.KernelRfl
import Derived.RowKit3
import Derived.Deep.LoopGhost
import Derived.Deep.QuietTactic
import Derived.BigQuiet
import Derived.WideLaws
import Derived.Deep.Onto
import Derived.Deep.WholeRow
import Derived.Laws.Rows
import Derived.Laws.IdiomStrings
import Derived.Laws.BitsLemmas
import Derived.Laws.NewBlocks
import Derived.WalkLawsBesides
import Derived.Test.YtekplhhkbeemnaaDoorShaSb
import Derived.Test.YtekplhhkbeemnaaDoorShaPad
set_option linter.unusedVariables false
set_option linter.unusedSimpArgs false
namespace Go.Proofs.YtekplhhkbeemnaaDoor.Sha
open Go.RowKit Go.Proofs.YtekplhhkbeemnaaDoorW.PrintWords Go.Proofs.YtekplhhkbeemnaaDoorW.PrintLast
/-! ### A byte of such a row is turned -/
structure Mk1 (W w : World) (b C n : Nat) (ns : List Int) : Prop where
  base : W.heap.size = b
  bel : Below W.heap.size W w
  len : ns.length = n
  val : ∃ cur lo hi, n ≤ C ∧ w.heap[b]? = some (.cells cur 5 (lo, hi)) ∧ cur.size = C ∧ C ≤ lo ∧ cur.toList.take n = u8s ns
section
variable {W w : World} {b C n : Nat} {ns : List Int}
theorem Mk1.mk' (h : Mk1 W w b C n ns) : Mk W w C (.slice (some ⟨b, 0, none⟩) n C) ns := by
  obtain ⟨rfl, hb, rfl, cur, lo, hi, h1, h2, h3, h4, h5⟩ := h
  exact ⟨hb, .inl ⟨cur, lo, hi, rfl, h1, h2, h3, h4, h5⟩⟩
theorem Mk1.start (s : ByteArray) (w : World) (C : Nat) (hC : s.size ≤ C) : Mk1 w (w.drew.alloc (.cells (bytesRow s C) 5 ((bytesRow s C).size, (bytesRow s C).size + 1))) w.heap.size C s.size (bytesOf s) := by
  have hz : (bytesRow s C).size = C := by
    unfold bytesRow
    rw [Array.size_append, Array.size_map, Array.size_replicate]
    show s.data.size + (C - s.data.size) = C
    have : s.data.size ≤ C := hC
    omega
  refine ⟨rfl, below_alloc (below_drew1 (Below.refl _ _)) _, by rw [bytesOf_length], bytesRow s C, _, _, hC, heap_alloc_new w.drew _, hz, by omega, ?_⟩
  unfold u8s bytesOf bytesRow
  rw [Array.toList_append, List.take_append_of_le_length (by rw [Array.length_toList, Array.size_map]; exact Nat.le_refl _), List.take_of_length_le (by rw [Array.length_toList, Array.size_map]; exact Nat.le_refl _), Array.toList_map, List.map_map]
  rfl
theorem Mk1.drew (h : Mk1 W w b C n ns) : Mk1 W w.drew b C n ns := by
  obtain ⟨h0, hb, hl, cur, lo, hi, h1, h2, h3⟩ := h
  exact ⟨h0, below_drew1 hb, hl, cur, lo, hi, h1, h2, h3⟩
theorem Mk1.cell (h : Mk1 W w b C n ns) (i : Nat) (hi : i < n) : w.cell? ⟨b, i, none⟩ = some (.int .u8 (ns.getD i 0)) := by
  obtain ⟨h0, hb, hl, cur, lo, hi', h1, h2, h3, h4, h5⟩ := h
  have e : (cur.toList.take n)[i]? = (u8s ns)[i]? := by rw [h5]
  rw [List.getElem?_take, if_pos hi, Array.getElem?_toList] at e
  rw [cell_of_row w _ i cur 5 _ h2, e]
  unfold u8s
  rw [List.getElem?_map, List.getElem?_eq_getElem (by omega), List.getD_eq_getElem?_getD, List.getElem?_eq_getElem (by omega)]
  rfl
theorem Mk1.free (h : Mk1 W w b C n ns) (i : Nat) (hi : i < n) : w.frozen? ⟨b, i, none⟩ = false := by
  obtain ⟨h0, hb, hl, cur, lo, hi', h1, h2, h3, h4, h5⟩ := h
  unfold World.frozen?
  simp only [h2]
  simp; omega
theorem Mk1.set (h : Mk1 W w b C n ns) (i : Nat) (hi : i < n) (x : Int) : Mk1 W (w.setCell ⟨b, i, none⟩ (.int .u8 x)) b C n (ns.set i x) := by
  obtain ⟨rfl, hb, hl, cur, lo, hi', h1, h2, h3, h4, h5⟩ := h
  have hWw := hb.size
  rw [setCell_eq_setRow w _ _ cur 5 _ _ h2]
  refine ⟨rfl, ⟨hb.os, hb.tape, hb.output, by rw [size_setRow]; exact hWw, fun k hk => (setRow_other w _ k _ (by omega)).trans (hb.block k hk)⟩, by rw [List.length_set]; exact hl, cur.setIfInBounds i (.int .u8 x), lo, hi', h1, setRow_heap w _ cur _ 5 _ h2, by simp [h3], h4, ?_⟩
  rw [Array.toList_setIfInBounds, List.take_set, h5]
  unfold u8s
  rw [List.map_set]
end
/-- The text with byte i turned by 1 + y % 255. -/
def turnV (s : ByteArray) (i y : Int) : ByteArray := strOfNums ((bytesOf s).set i.toNat (Go.bits .xor .u8 ((bytesOf s)[i.toNat]?.getD 0) (wrap64 (1 + Int.tmod y 255) % 256)))
open Go.Proofs.YtekplhhkbeemnaaDoorW
set_option maxHeartbeats 8000000 in
set_option maxRecDepth 100000 in
theorem turned_walk (A1 : Option Addr) (c1 : Nat) (l1 : List Int) (s : ByteArray) (w : World) (hr1 : (Kd.int .i64).C w A1 l1.length l1) (hc1 : l1.length ≤ c1) (hs0 : 0 < s.size) (hsz : s.size ≤ 1099511627776) (hl : 2 ≤ l1.length)
    (h0 : 0 ≤ rd l1 0 ∧ rd l1 0 ≤ 1000000) (h1 : 0 ≤ rd l1 1 ∧ rd l1 1 ≤ 1000000) :
    Calls Tryd.prog 32 #[.string s, .slice A1 l1.length c1] w fun e w' => e = .returned (.string (turnV s (rd l1 0 % (s.size : Int)) (rd l1 1))) ∧ Below w.heap.size w w' := by
  obtain ⟨ad, rfl, hx0⟩ := Kd.at_int hr1 0 (by omega) (by omega)
  obtain ⟨ad', e', hx1⟩ := Kd.at_int hr1 1 (by omega) (by omega)
  obtain rfl : ad = ad' := Option.some.inj e'
  have hx0 : w.cell? ad = some (.int .i64 (rd l1 0)) := by
    have h := hx0
    rw [show ((0 : Int)).toNat = 0 from rfl, Addr.add_zero'] at h
    exact h
  have hx1 : w.cell? (ad.add 1) = some (.int .i64 (rd l1 1)) := hx1
  obtain ⟨C, hC⟩ : ∃ C, C = grownCap w s.size 0 5 := ⟨_, rfl⟩
  have hCn : s.size ≤ C := by rw [hC]; exact grownCap_ge w s.size 0 5
  have hcv : (convert 9 32 (.string s)).run Tryd.prog w = .ok (.slice (some ⟨w.heap.size, 0, none⟩) s.size C) (w.drew.alloc (.cells (bytesRow s C) 5 ((bytesRow s C).size, (bytesRow s C).size + 1))) := by
    rw [hC]
    exact run_bytes_of_string (P := Tryd.prog) w 9 32 5 s Tryd.underlying9 Tryd.underlying32 Tryd.underlying5
  have hmk := Mk1.start s w C hCn
  have hb1 : Below w.heap.size w (w.drew.alloc (.cells (bytesRow s C) 5 ((bytesRow s C).size, (bytesRow s C).size + 1))) := below_alloc (below_drew1 (Below.refl _ _)) _
  have hy0 := (hb1.cell (World.block_lt_of_cell? w _ hx0)).trans hx0
  have hy1 := (hb1.cell (World.block_lt_of_cell? w _ hx1)).trans hx1
  generalize w.drew.alloc (.cells (bytesRow s C) 5 ((bytesRow s C).size, (bytesRow s C).size + 1)) = W1 at hcv hmk hb1 hy0 hy1
  obtain ⟨x, hx⟩ : ∃ x, rd l1 0 = x := ⟨_, rfl⟩
  obtain ⟨y, hy⟩ : ∃ y, rd l1 1 = y := ⟨_, rfl⟩
  rw [hx] at hx0 hy0 h0
  rw [hy] at hx1 hy1 h1
  rw [hx, hy]
  obtain ⟨j, hj⟩ : ∃ j : Nat, x % (s.size : Int) = (j : Int) := ⟨(x % (s.size : Int)).toNat, by have := Int.emod_nonneg x (show (s.size : Int) ≠ 0 by omega); omega⟩
  have hjn : j < s.size := by have := Int.emod_lt_of_pos x (show 0 < (s.size : Int) by omega); omega
  rw [hj]
  obtain ⟨b0, hb0⟩ : ∃ b0, w.heap.size = b0 := ⟨_, rfl⟩
  rw [hb0] at hcv hmk
  have HM := Aside0.mk hmk
  have HJN := Aside0.mk hjn
  have HB1 := Aside0.mk hb1
  have HB0 := Aside0.mk hb0
  have HJ := Aside0.mk hj
  have H0 := Aside0.mk h0
  have H1 := Aside0.mk h1
  have HS := Aside0.mk hsz
  have HY0 := Aside0.mk hy0
  have HY1 := Aside0.mk hy1
  have HL := Aside0.mk hl
  have hne : (((s.size : Nat) : Int) == 0) = false := beq_eq_false_iff_ne.mpr (by omega)
  have x0 : 0 ≤ x := h0.1
  clear hmk hjn hb1 hb0 hj h0 h1 hx0 hx1 hx hy hC hCn e' hr1 hy0 hy1 hl
  go_enter Tryd.func32, Tryd.ntmps32
  go_upto_region 2 with (fail)
  clear hcv
  have cx := HY0.out
  have q0 : (0 < l1.length) = True := eq_true (by have := HL.out; omega)
  go_upto_region 4 with (fail)
  go_upto_region 5 with (fail)
  rw [HJ.out]
  have p1 : (0 ≤ (j : Int)) = True := eq_true (by omega)
  have q1 : ((j : Int) < (s.size : Int)) = True := eq_true (by have := HJN.out; omega)
  have r1 : (1 < l1.length) = True := eq_true (by have := HL.out; omega)
  have r2 : ((1 : Int) < (l1.length : Int)) = True := eq_true (by have := HL.out; omega)
  have r3 : (1 : Int) < (l1.length : Int) := by have := HL.out; omega
  have cy := HY1.out
  have cy2 := HY1.out
  simp only [Go.Addr.add, Nat.reduceEqDiff, ↓reduceIte] at cy2
  have cj := HM.out.cell j HJN.out
  obtain ⟨bj, hbj⟩ : ∃ z, (bytesOf s).getD j 0 = z := ⟨_, rfl⟩
  rw [hbj] at cj
  have HBJ := Aside0.mk hbj
  have y0 : 0 ≤ y := H1.out.1
  clear hbj cx q0 hne x0
  go_still_tail 13, (by kernel_rfl)
  change wpList _ _ _ _ _ W1.drew
  have HM2 := Aside0.mk HM.out.drew
  generalize W1.drew = W2 at HM2 ⊢
  have cj2 := HM2.out.cell j HJN.out
  have fj := HM2.out.free j HJN.out
  clear cj cy HM HY0 HY1
  go_upto_region 6 with (fail)
  obtain ⟨V, hV⟩ : ∃ V, Go.bits .xor .u8 bj (1 + y % 255) = V := ⟨_, rfl⟩
  change Code.wp _ _ _ _ (W2.setCell ⟨b0, j, none⟩ (.int .u8 (Go.bits .xor .u8 bj (1 + y % 255))))
  rw [hV]
  have HM3 := Aside0.mk (HM2.out.set j HJN.out V)
  generalize W2.setCell ⟨b0, j, none⟩ (.int .u8 V) = W3 at HM3 ⊢
  have hst := HM3.out.mk'.string 32 Tryd.underlying32 Tryd.underlying5 (by rw [List.length_set, bytesOf_length]; have := HJN.out; omega) 9 Tryd.underlying9
  have hV2 : Go.bits .xor .u8 ((bytesOf s)[j]?.getD 0) (wrap64 (1 + Int.tmod y 255) % 256) = V := by
    have e1 : Int.tmod y 255 = y % 255 := Int.tmod_eq_emod_of_nonneg y0
    have e2 : wrap64 (1 + y % 255) % 256 = 1 + y % 255 := by unfold wrap64; omega
    have e3 : (bytesOf s)[j]?.getD 0 = bj := by rw [← HBJ.out, List.getD_eq_getElem?_getD]
    rw [e1, e2, e3]
    exact hV
  have hT : strOfNums ((bytesOf s).set j V) = turnV s (j : Int) y := by
    unfold turnV
    rw [Int.toNat_natCast, hV2]
  rw [hT] at hst
  have HBE := Aside0.mk HM3.out.bel
  clear hV hV2 hT HM2 HM3 cj2 fj y0 p1 q1 r1 r2 r3 cy2
  go_wp2
  go_ret
  exact ⟨rfl, HBE.out⟩

end Go.Proofs.YtekplhhkbeemnaaDoor.Sha
