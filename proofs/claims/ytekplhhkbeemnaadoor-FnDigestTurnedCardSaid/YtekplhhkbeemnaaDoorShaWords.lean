-- Written by a program of this session (sha.sh): no printed text.
import Derived.Test.YtekplhhkbeemnaaDoorProg
import Derived.Test.YtekplhhkbeemnaaDoorWWords
import Derived.Test.YtekplhhkbeemnaaDoorWLast
import Derived.Test.YtekplhhkbeemnaaDoorWTab
import Derived.Test.YtekplhhkbeemnaaDoorWFour
import Derived.Test.YtekplhhkbeemnaaDoorWQPut
import Derived.Test.YtekplhhkbeemnaaDoorWApart
import Derived.Test.YtekplhhkbeemnaaDoorWArr
import Derived.Test.YtekplhhkbeemnaaDoorWZeros
import Derived.Test.YtekplhhkbeemnaaDoorWFoot
import Derived.Test.YtekplhhkbeemnaaDoorWKept
import Derived.Test.YtekplhhkbeemnaaDoorWShare
import Derived.Test.YtekplhhkbeemnaaDoorWN
import Derived.Test.YtekplhhkbeemnaaDoorWFootNe
import Derived.Test.YtekplhhkbeemnaaDoorWAt
import Derived.Test.YtekplhhkbeemnaaDoorWEqStruct
import Derived.Test.YtekplhhkbeemnaaDoorWRepsOne
import Derived.Test.YtekplhhkbeemnaaDoorWInv
import Derived.Test.YtekplhhkbeemnaaDoorWInvWords
import Derived.Test.YtekplhhkbeemnaaDoorWGuard
import Derived.Test.YtekplhhkbeemnaaDoorWNEv
import Derived.Test.YtekplhhkbeemnaaDoorWMore
import Derived.Below
import Derived.Deep.Draws
import Derived.Deep.AppendLies
import Derived.Tactics
import Derived.Lib.ConvBytes
import Derived.Laws.Slices
import Derived.WalkKit
import Derived.StillTailTactics
import Derived.Laws.CopyOwn
import Derived.KernelRfl
import Derived.RowKit3
import Derived.Deep.LoopGhost
import Derived.Deep.QuietTactic
import Derived.BigQuiet
import Derived.WideLaws
import Derived.Deep.Onto
import Derived.Deep.WholeRow
import Derived.Laws.Rows
import Derived.Laws.IdiomStrings
import Derived.Laws.BitsLemmas
import Derived.Laws.NewBlocks
import Derived.WalkLawsBesides
import Derived.Test.YtekplhhkbeemnaaDoorShaL03
set_option linter.unusedVariables false
set_option linter.unusedSimpArgs false
namespace Go.Proofs.YtekplhhkbeemnaaDoor.Sha
open Go.RowKit Go.Proofs.YtekplhhkbeemnaaDoorW.PrintWords Go.Proofs.YtekplhhkbeemnaaDoorW.PrintLast
/-! ### impl.words: function 37 -/
theorem wraps_u32 (n : Int) (h₀ : 0 ≤ n) (h₁ : n < 2 ^ 32) : IntKind.u32.wrap n = n := by rw [IntKind.wrap_u32]; omega
def accW (s : ByteArray) (a : Int) : Nat → Int
  | 0 => 0
  | k + 1 => Go.bits .or .u32 (accW s a k * 256 % 4294967296) (bt s (a + (k : Int)) % 4294967296)
theorem accW_in (s : ByteArray) (a : Int) : ∀ k, In32 (accW s a k)
  | 0 => show In32 0 from ⟨by decide, by decide⟩
  | k + 1 => bits_in _ _ _
theorem or_byte (x b : Int) (hx : 0 ≤ x ∧ x < 16777216) (hb : 0 ≤ b ∧ b ≤ 255) : Go.bits .or .u32 (x * 256 % 4294967296) (b % 4294967296) = x * 256 + b := by
  have e1 : x * 256 % 4294967296 = x * 256 := by omega
  have e2 : b % 4294967296 = b := by omega
  rw [e1, e2]
  exact bits_join .u32 32 (by decide) wraps_u32 8 (x * 256) b (by omega) (by omega) (by omega) (by omega) (by omega) (by omega)
theorem word_eq (s : ByteArray) (a : Int) : accW s a 4 = wordA s a := by
  have r0 := bt_range s (a + (0 : Nat))
  have r1 := bt_range s (a + (1 : Nat))
  have r2 := bt_range s (a + (2 : Nat))
  have r3 := bt_range s (a + (3 : Nat))
  have z : a + ((0 : Nat) : Int) = a := by omega
  have z1 : a + ((1 : Nat) : Int) = a + 1 := by omega
  have z2 : a + ((2 : Nat) : Int) = a + 2 := by omega
  have z3 : a + ((3 : Nat) : Int) = a + 3 := by omega
  rw [z] at r0
  rw [z1] at r1
  rw [z2] at r2
  rw [z3] at r3
  have h1 : accW s a 1 = bt s a := by
    rw [accW, accW, z, or_byte 0 _ (by omega) r0]
    omega
  have h2 : accW s a 2 = bt s a * 256 + bt s (a + 1) := by rw [accW, h1, z1, or_byte _ _ (by omega) r1]
  have h3 : accW s a 3 = (bt s a * 256 + bt s (a + 1)) * 256 + bt s (a + 2) := by rw [accW, h2, z2, or_byte _ _ (by omega) r2]
  have h4 : accW s a 4 = ((bt s a * 256 + bt s (a + 1)) * 256 + bt s (a + 2)) * 256 + bt s (a + 3) := by rw [accW, h3, z3, or_byte _ _ (by omega) r3]
  rw [h4]
  unfold wordA
  generalize bt s a = b0 at *
  generalize bt s (a + 1) = b1 at *
  generalize bt s (a + 2) = b2 at *
  generalize bt s (a + 3) = b3 at *
  have e0 : b0 % 4294967296 * 16777216 % 4294967296 = b0 * 16777216 := by omega
  have e1 : b1 % 4294967296 * 65536 % 4294967296 = b1 * 65536 := by omega
  have e2 : b2 % 4294967296 * 256 % 4294967296 = b2 * 256 := by omega
  have e3 : b3 % 4294967296 = b3 := by omega
  rw [e0, e1, e2, e3]
  rw [bits_join .u32 32 (by decide) wraps_u32 24 (b0 * 16777216) (b1 * 65536) (by omega) (by omega) (by omega) (by omega) (by omega) (by omega)]
  rw [bits_join .u32 32 (by decide) wraps_u32 16 (b0 * 16777216 + b1 * 65536) (b2 * 256) (by omega) (by omega) (by omega) (by omega) (by omega) (by omega)]
  rw [bits_join .u32 32 (by decide) wraps_u32 8 (b0 * 16777216 + b1 * 65536 + b2 * 256) b3 (by omega) (by omega) (by omega) (by omega) (by omega) (by omega)]
  omega
/-- The rows of the words, the m-th one half made. -/
def wPart (s : ByteArray) (m k : Nat) : List Int := (wInit s m).set m (accW s (4 * (m : Int)) k)
theorem wPart_len (s : ByteArray) (m k : Nat) (h : m < 16) : (wPart s m k).length = 64 := by rw [wPart, List.length_set, wInit_len s m (by omega)]
theorem wInit_at (s : ByteArray) (m : Nat) (h : m < 64) : (wInit s m).getD m 0 = 0 := by
  have e : List.replicate (64 - m) (0 : Int) = 0 :: List.replicate (64 - (m + 1)) 0 := by rw [← List.replicate_succ]; congr 1; omega
  rw [List.getD_eq_getElem?_getD, wInit, List.getElem?_append_right (by simp), e]
  simp
theorem wPart_zero (s : ByteArray) (m : Nat) (h : m < 16) : wPart s m 0 = wInit s m := by
  unfold wPart
  have hl := wInit_len s m (by omega)
  have hz := wInit_at s m (by omega)
  apply List.ext_getElem?
  intro i
  rw [List.getElem?_set]
  split
  · rename_i he
    subst he
    rw [if_pos (by omega)]
    rw [List.getD_eq_getElem?_getD, List.getElem?_eq_getElem (by omega)] at hz
    rw [List.getElem?_eq_getElem (by omega)]
    simp only [Option.getD_some] at hz
    rw [hz]
    rfl
  · rfl
theorem wPart_at (s : ByteArray) (m k : Nat) (h : m < 16) : (wPart s m k).getD m 0 = accW s (4 * (m : Int)) k := by
  have hl := wInit_len s m (by omega)
  rw [wPart, List.getD_eq_getElem?_getD, List.getElem?_set, if_pos rfl, if_pos (by omega)]
  rfl
theorem wPart_step (s : ByteArray) (m k : Nat) : (wPart s m k).set m (Go.bits .or .u32 (accW s (4 * (m : Int)) k * 256 % 4294967296) (bt s (4 * (m : Int) + (k : Int)) % 4294967296)) = wPart s m (k + 1) := by
  rw [wPart, List.set_set]
  rfl
theorem wPart_end (s : ByteArray) (m : Nat) (h : m < 16) : wPart s m 4 = wInit s (m + 1) := by
  rw [wPart, word_eq]
  exact wInit_set s m (by omega)
structure Two (w0 w : World) (b0 : Nat) (z l : List Int) : Prop where
  k0 : Blk w b0 45 z
  k1 : Blk w (b0 + 1) 45 l
  kb : Below b0 w0 w
section
variable {w0 w : World} {b0 : Nat} {z l : List Int}
theorem Two.set (h : Two w0 w b0 z l) (i : Nat) (v : Int) : Two w0 (w.setCell ⟨b0 + 1, i, none⟩ (.int .u32 v)) b0 z (l.set i v) :=
  ⟨h.k0.other _ _ (by show b0 ≠ b0 + 1; omega), h.k1.set i v, h.kb.setCell (p := ⟨b0 + 1, i, none⟩) (by show b0 ≤ b0 + 1; omega) _⟩
theorem Two.drewN (h : Two w0 w b0 z l) (n : Nat) : Two w0 (w.drewN n) b0 z l := ⟨h.k0.drewN n, h.k1.drewN n, pw_below_drewN h.kb n⟩
theorem Two.drew (h : Two w0 w b0 z l) : Two w0 w.drew b0 z l := ⟨h.k0.drew, h.k1.drew, h.kb.drew⟩
theorem Two.drawn {w' : World} (h : Two w0 w b0 z l) (hd : Drawn0 w w') : Two w0 w' b0 z l := by obtain ⟨n, rfl⟩ := hd.out; exact h.drewN n
end
set_option maxHeartbeats 8000000 in
set_option maxRecDepth 1000000 in
theorem words_walk (s : ByteArray) (w : World) (hsz : s.size = 64) :
    Calls Tryd.prog 37 #[.string s] w fun e w' => e = .returned (.agg (u32c (wordsV s))) ∧ Below w.heap.size w w' := by
  obtain ⟨BV, hBV⟩ : ∃ b, wordsV s = b := ⟨_, rfl⟩
  rw [hBV]
  have HBV := Aside0.mk hBV
  clear hBV
  obtain ⟨Z, hZ⟩ : ∃ Z, u32c (List.replicate 64 0) = Z := ⟨_, rfl⟩
  have hal : ∀ w_ : World, (Instr.alloc 45 true (.tuple #[])).run Tryd.prog w_ = .ok (.pointer (some ⟨w_.heap.size, 0, none⟩)) (w_.alloc (.cells Z 45)) := fun w_ => by rw [← hZ]; kernel_rfl
  have h2 : Two w ((w.alloc (.cells Z 45)).alloc (.cells Z 45)) w.heap.size (List.replicate 64 0) (List.replicate 64 0) := by
    rw [← hZ]
    refine ⟨(Blk.new w 45 _).alloc _, ?_, below_alloc (below_alloc (Below.refl _ _) _) _⟩
    have h := Blk.new (w.alloc (.cells (u32c (List.replicate 64 0)) 45)) 45 (List.replicate 64 0)
    rw [show (w.alloc (.cells (u32c (List.replicate 64 0)) 45)).heap.size = w.heap.size + 1 by simp] at h
    exact h
  have HZ := Aside0.mk hZ
  have H2 := Aside0.mk h2
  have HAL := Aside0.mk hal
  have HSZ := Aside0.mk hsz
  clear hZ h2 hal hsz
  go_enter Tryd.func37, Tryd.ntmps37
  go_upto_region 1 with (refine wpList_alloc_f _ _ rfl 45 _ rfl (HAL.out _) ?_)
  go_upto_region 2 with (refine wpList_alloc_f _ _ rfl 45 _ rfl (HAL.out _) ?_)
  simp only [Act.put, List.setIfInBounds_toArray, List.set_cons_zero, List.set_cons_succ]
  rw [show (w.alloc (.cells Z 45)).heap.size = w.heap.size + 1 by simp]
  obtain ⟨b0, eb0⟩ : ∃ b, w.heap.size = b := ⟨_, rfl⟩
  have h2 := H2.out
  rw [eb0] at h2 ⊢
  have T0 := Aside0.mk h2
  clear h2 H2 HAL
  generalize (w.alloc (.cells Z 45)).alloc (.cells Z 45) = W1 at T0 ⊢
  go_wp2
  go_loopg [4] 16 (fun g v wr => Aside0 (∃ m : Nat, m ≤ 16 ∧ g = 16 - m ∧ v = .int .i64 m ∧ Two w wr b0 (List.replicate 64 0) (wInit s m)))
  case atStart => exact ⟨0, by omega, rfl, rfl, T0.out⟩
  case round =>
    obtain ⟨m, hm, hg, rfl, hT⟩ := hrel.out
    clear hrel T0
    have HG := Aside0.mk hg
    have T1 := Aside0.mk hT
    clear hg hT
    by_cases hlt : (m : Int) < 16
    · skip
      have hd := decide_eq_true hlt
      have hml : m < 16 := by omega
      have HML := Aside0.mk hml
      have hT := T1.out
      rw [← wPart_zero s m hml] at hT
      have T2 := Aside0.mk hT
      obtain ⟨a0, ha0⟩ : ∃ a : Int, 4 * (m : Int) = a := ⟨_, rfl⟩
      have e0 : IntKind.i64.wrap (4 * (m : Int)) = a0 := by rw [IntKind.wrap_i64]; omega
      have ba : 0 ≤ a0 ∧ a0 ≤ 60 := by omega
      have HA := Aside0.mk ha0
      have E0 := Aside0.mk e0
      have BA := Aside0.mk ba
      clear hT T1 hlt hm hml e0 ba ha0
      go_upto_region 5 with (fail)
      go_wp2
      go_loopg [5] 4 (fun g v wr => Aside0 (∃ k : Nat, k ≤ 4 ∧ g = 4 - k ∧ v = .int .i64 k ∧ Two w wr b0 (List.replicate 64 0) (wPart s m k)))
      case atStart => exact ⟨0, by omega, rfl, rfl, T2.out⟩
      case round =>
        obtain ⟨k, hk, hkg, rfl, hT⟩ := hrel.out
        clear hrel T2
        have HKG := Aside0.mk hkg
        have T3 := Aside0.mk hT
        clear hkg hT
        by_cases hlk : (k : Int) < 4
        · have hdk := decide_eq_true hlk
          have hm64 : ((m : Int) < 64) = True := eq_true (by have := HML.out; omega)
          have hm0 : (0 ≤ (m : Int)) = True := eq_true (by omega)
          have e0 := E0.out
          have e1 : IntKind.i64.wrap (a0 + (k : Int)) = a0 + (k : Int) := by have := BA.out; rw [IntKind.wrap_i64]; omega
          have p0 : (0 ≤ a0 + (k : Int)) = True := eq_true (by have := BA.out; omega)
          have q0 : (a0 + (k : Int) < (s.size : Int)) = True := eq_true (by have := BA.out; have := HSZ.out; omega)
          have x0 := bt_at s (a0 + (k : Int))
          have hc := T3.out.k1.cell m (by rw [wPart_len s m k HML.out]; have := HML.out; omega)
          rw [wPart_at s m k HML.out, HA.out] at hc
          obtain ⟨acc, hacc⟩ : ∃ a, accW s a0 k = a := ⟨_, rfl⟩
          rw [hacc] at hc
          have HACC := Aside0.mk hacc
          have HKL := Aside0.mk hlk
          clear hacc hlk hk
          go_upto_region 8 with (fail)
          go_still_tail 13, (by kernel_rfl)
          change wpList _ _ _ _ _ wr.drew
          clear x0 p0 q0 e0 e1 hc
          have T4 := Aside0.mk T3.out.drew
          clear T3
          generalize wr.drew = w2 at T4 ⊢
          have hc := T4.out.k1.cell m (by rw [wPart_len s m k HML.out]; have := HML.out; omega)
          have hf := T4.out.k1.free m
          go_upto_region 7 with (fail)
          change Code.wp _ _ _ _ (w2.setCell ⟨b0 + 1, m, none⟩ (.int .u32 (Go.bits .or .u32 (acc * 256 % 4294967296) (bt s (a0 + (k : Int)) % 4294967296))))
          have hT := T4.out.set m (Go.bits .or .u32 (acc * 256 % 4294967296) (bt s (a0 + (k : Int)) % 4294967296))
          generalize w2.setCell ⟨b0 + 1, m, none⟩ (.int .u32 (Go.bits .or .u32 (acc * 256 % 4294967296) (bt s (a0 + (k : Int)) % 4294967296))) = w3 at hT ⊢
          rw [← HACC.out, ← HA.out, wPart_step] at hT
          have T5 := Aside0.mk hT
          clear hT hc hf T4 hm64 hm0 hdk
          have e8 : IntKind.i64.wrap ((k : Int) + 1) = ((k + 1 : Nat) : Int) := by have := HKL.out; rw [IntKind.wrap_i64]; omega
          go_wp2
          go_roundg (4 - (k + 1))
          case measure => have := HKL.out; have := HKG.out; omega
          case rel => exact ⟨⟨k + 1, by have := HKL.out; omega, rfl, rfl, T5.out⟩⟩
        · have hk4 : k = 4 := by omega
          subst hk4
          have hT := T3.out
          rw [wPart_end s m HML.out] at hT
          have T5 := Aside0.mk hT
          clear hT T3 hk hlk HKG
          generalize wr = w5 at T5 ⊢
          have e8 : IntKind.i64.wrap ((m : Int) + 1) = ((m + 1 : Nat) : Int) := by have := HML.out; rw [IntKind.wrap_i64]; omega
          go_wp2
          go_roundg (16 - (m + 1))
          case measure => have := HML.out; have := HG.out; omega
          case rel => exact ⟨⟨m + 1, by have := HML.out; omega, rfl, rfl, T5.out⟩⟩
    · have hm16 : m = 16 := by omega
      subst hm16
      go_upto_region 9 with (fail)
      have T2 := T1
      clear T1 HG hlt hm
      generalize wr = v0 at T2 ⊢
      go_wp2
      go_loopg [6] 48 (fun g v wr => Aside0 (∃ m : Nat, 16 ≤ m ∧ m ≤ 64 ∧ g = 64 - m ∧ v = .int .i64 m ∧ Two w wr b0 (List.replicate 64 0) (wMore (m - 16) (wInit s 16))))
      case atStart => exact ⟨16, by omega, by omega, rfl, rfl, T2.out⟩
      case round =>
        obtain ⟨m, hm0, hm, hg, rfl, hT⟩ := hrel.out
        clear hrel T2
        obtain ⟨l, hl⟩ : ∃ l, wMore (m - 16) (wInit s 16) = l := ⟨_, rfl⟩
        rw [hl] at hT
        have hll : l.length = 64 := by rw [← hl, wMore_len, wInit_len s 16 (by omega)]
        have hin : ∀ j, In32 (l.getD j 0) := by rw [← hl]; exact wMore_in _ _ (wInit_in s 16)
        have HLW := Aside0.mk hl
        have HLL := Aside0.mk hll
        have T3 := Aside0.mk hT
        have HG := Aside0.mk hg
        have HM := Aside0.mk hm0
        by_cases hlt : (m : Int) < 64
        · skip
          have hd := decide_eq_true hlt
          have HLT := Aside0.mk hlt
          obtain ⟨n15, h15⟩ : ∃ n : Nat, m - 15 = n := ⟨_, rfl⟩
          obtain ⟨n2, h2⟩ : ∃ n : Nat, m - 2 = n := ⟨_, rfl⟩
          have e15 : IntKind.i64.wrap ((m : Int) - 15) = (n15 : Int) := by rw [IntKind.wrap_i64]; omega
          have e2 : IntKind.i64.wrap ((m : Int) - 2) = (n2 : Int) := by rw [IntKind.wrap_i64]; omega
          have q15 : ((n15 : Int) < 64) = True := eq_true (by omega)
          have q2 : ((n2 : Int) < 64) = True := eq_true (by omega)
          have z15 : (0 ≤ (n15 : Int)) = True := eq_true (by omega)
          have z2 : (0 ≤ (n2 : Int)) = True := eq_true (by omega)
          have c15 := hT.k1.cell n15 (by omega)
          have c2 := hT.k1.cell n2 (by omega)
          have i15 := hin n15
          have i2 := hin n2
          obtain ⟨x15, hx15⟩ : ∃ x, l.getD n15 0 = x := ⟨_, rfl⟩
          obtain ⟨x2, hx2⟩ : ∃ x, l.getD n2 0 = x := ⟨_, rfl⟩
          rw [hx15] at c15 i15
          rw [hx2] at c2 i2
          have HX15 := Aside0.mk hx15
          have HX2 := Aside0.mk hx2
          have H15 := Aside0.mk h15
          have H2 := Aside0.mk h2
          have I15 := Aside0.mk i15
          have I2 := Aside0.mk i2
          clear hx15 hx2 h15 h2 i15 i2 hin hlt hm hm0 hg hT hl hll
          go_upto_region 12 with (fail)
          refine wp_region_quiet_lit (by kernel_rfl) (by kernel_rfl) ?_
          repeat (go_big_quiet_want; go_big_quiet_op; go_big_quiet_on)
          refine wpQuiet_nil ?_
          intro _ hw'
          obtain ⟨nq, hw''⟩ := hw'
          subst hw''
          clear c15 q15 z15 e15 c2 q2 z2 e2
          have T4 := Aside0.mk (T3.out.drewN nq)
          clear T3
          generalize wr.drewN nq = w2 at T4 ⊢
          clear nq
          have b15 : 0 ≤ x15 := I15.out.1
          have d15 : x15 ≤ 4294967295 := I15.out.2
          have b2 : 0 ≤ x2 := I2.out.1
          have d2 : x2 ≤ 4294967295 := I2.out.2
          go_upto_region 14 with (first | ((go_at_call 38; (with_reducible refine (right_7 x15 _ b15 d15).mono ?_)); rintro e w' ⟨rfl, hw'⟩; have T5 := Aside0.mk (T4.out.drawn hw'); clear T4 hw') | ((go_at_call 38; (with_reducible refine (right_18 x15 _ b15 d15).mono ?_)); rintro e w' ⟨rfl, hw'⟩; have T6 := Aside0.mk (T5.out.drawn hw'); clear T5 hw'))
          obtain ⟨a15, ha15⟩ : ∃ a, Go.bits .xor .u32 (Go.bits .xor .u32 (rot 7 x15) (rot 18 x15)) (x15 / 8) = a := ⟨_, rfl⟩
          rw [ha15]
          have HA15 := Aside0.mk ha15
          clear ha15
          go_upto_region 15 with (first | ((go_at_call 38; (with_reducible refine (right_17 x2 _ b2 d2).mono ?_)); rintro e w' ⟨rfl, hw'⟩; have T7 := Aside0.mk (T6.out.drawn hw'); clear T6 hw') | ((go_at_call 38; (with_reducible refine (right_19 x2 _ b2 d2).mono ?_)); rintro e w' ⟨rfl, hw'⟩; have T8 := Aside0.mk (T7.out.drawn hw'); clear T7 hw'))
          obtain ⟨a2, ha2⟩ : ∃ a, Go.bits .xor .u32 (Go.bits .xor .u32 (rot 17 x2) (rot 19 x2)) (x2 / 1024) = a := ⟨_, rfl⟩
          rw [ha2]
          have HA2 := Aside0.mk ha2
          clear ha2 b15 d15 b2 d2
          have E3 := T8
          clear T8
          generalize w' = w3 at E3 ⊢
          have m0 := HM.out
          have m1 := HLT.out
          have ll := HLL.out
          obtain ⟨n16, h16⟩ : ∃ n : Nat, m - 16 = n := ⟨_, rfl⟩
          obtain ⟨n7, h7⟩ : ∃ n : Nat, m - 7 = n := ⟨_, rfl⟩
          have e16 : IntKind.i64.wrap ((m : Int) - 16) = (n16 : Int) := by rw [IntKind.wrap_i64]; omega
          have e7 : IntKind.i64.wrap ((m : Int) - 7) = (n7 : Int) := by rw [IntKind.wrap_i64]; omega
          have q16 : ((n16 : Int) < 64) = True := eq_true (by omega)
          have q7 : ((n7 : Int) < 64) = True := eq_true (by omega)
          have z16 : (0 ≤ (n16 : Int)) = True := eq_true (by omega)
          have z7 : (0 ≤ (n7 : Int)) = True := eq_true (by omega)
          have c16 := E3.out.k1.cell n16 (by omega)
          have c7 := E3.out.k1.cell n7 (by omega)
          obtain ⟨x16, hx16⟩ : ∃ x, l.getD n16 0 = x := ⟨_, rfl⟩
          obtain ⟨x7, hx7⟩ : ∃ x, l.getD n7 0 = x := ⟨_, rfl⟩
          rw [hx16] at c16
          rw [hx7] at c7
          have HX16 := Aside0.mk hx16
          have HX7 := Aside0.mk hx7
          have H16 := Aside0.mk h16
          have H7 := Aside0.mk h7
          clear hx16 hx7 h16 h7 m0 m1 ll
          go_still_tail 14, (by kernel_rfl)
          change wpList _ _ _ _ _ w3.drew
          clear c16 c7 q16 q7 z16 z7 e16 e7
          have F3 := Aside0.mk E3.out.drew
          clear E3
          generalize w3.drew = w4 at F3 ⊢
          have hc := F3.out.k1.cell m (by have := HLL.out; have := HLT.out; omega)
          have hf := F3.out.k1.free m
          have hm64 : ((m : Int) < 64) = True := eq_true HLT.out
          have hm0 : (0 ≤ (m : Int)) = True := eq_true (by omega)
          go_upto_region 11 with (fail)
          change Code.wp _ _ _ _ (w4.setCell ⟨b0 + 1, m, none⟩ (.int .u32 (add32 (add32 (add32 x16 a15) x7) a2)))
          have S3 := Aside0.mk (F3.out.set m (add32 (add32 (add32 x16 a15) x7) a2))
          generalize w4.setCell ⟨b0 + 1, m, none⟩ (.int .u32 (add32 (add32 (add32 x16 a15) x7) a2)) = w5 at S3 ⊢
          clear hc hf F3 hm64 hm0 hd
          have e8 : IntKind.i64.wrap ((m : Int) + 1) = ((m + 1 : Nat) : Int) := by have := HLT.out; rw [IntKind.wrap_i64]; omega
          go_wp2
          go_roundg (64 - (m + 1))
          case measure => have := HM.out; have := HG.out; have := HLT.out; omega
          case rel =>
            clear e8
            refine ⟨⟨m + 1, by have := HM.out; omega, by have := HLT.out; omega, rfl, rfl, ?_⟩⟩
            have hw : wMore (m + 1 - 16) (wInit s 16) = l.set m (add32 (add32 (add32 x16 a15) x7) a2) := by
              have hj : m + 1 - 16 = (m - 16) + 1 := by have := HM.out; omega
              have hi : 16 + (m - 16) = m := by have := HM.out; omega
              rw [hj, wMore, HLW.out, hi]
              congr 1
              show add32 (add32 (add32 (l.getD (m - 16) 0) (sg0 (l.getD (m - 15) 0))) (l.getD (m - 7) 0)) (sg1 (l.getD (m - 2) 0)) = _
              rw [H16.out, H15.out, H7.out, H2.out, HX16.out, HX15.out, HX7.out, HX2.out, ← HA15.out, ← HA2.out]
              rfl
            rw [hw]
            exact S3.out
        · skip
          have hm64 : m = 64 := by omega
          subst hm64
          have hbv : l = BV := by rw [← hl, ← HBV.out]; rfl
          subst hbv
          have hi45 : (Tryd.prog.info? 45).map (·.size) = some (u32c l).size := by rw [u32c_size, hll]; kernel_rfl
          have HI45 := Aside0.mk hi45
          have hst : (Instr.storeAt 45 (.pointer (some ⟨b0, 0, none⟩)) (.agg (u32c l))).run Tryd.prog wr = .ok () (wr.setRow b0 (u32c l)) := by
            simp only [Instr.storeAt, Instr.sureAddr, Sem.run_bind, Sem.run_pure, Result.andThen]
            exact run_storeVar_row wr b0 45 45 (u32c (List.replicate 64 0)) (u32c l) hT.k0.heap hi45 (by rw [u32c_size, u32c_size, hll]; rfl) (u32c_cells l)
          have HST := Aside0.mk hst
          have HLD := Aside0.mk hT.k1.heap
          have HRS := Aside0.mk (setRow_heap wr b0 _ (u32c l) 45 _ hT.k0.heap)
          have HBE := Aside0.mk (below_setRow hT.kb (Nat.le_refl b0) (u32c l))
          clear hi45 hst hT T3 hlt hm hm0 HG HM hl hll hin hg HLW HLL
          go_upto_region 16 with (fail)
          go_wp2_with (first | (refine wpList_load_row rfl 45 _ rfl (b0 + 1) rfl 45 (u32c l) (0, 0) _ HLD.out Tryd.underlying45 rfl HI45.out ?_) | (refine wpList_store_f _ _ rfl 45 _ _ _ _ rfl rfl rfl rfl HST.out ?_))
          refine bodyPost_ret (v := .agg (u32c l)) (results_cell_row Tryd.results37 _ _ b0 45 (u32c l) (0, 0) _ rfl HRS.out Tryd.underlying45 rfl HI45.out) rfl ⟨rfl, ?_⟩
          rw [eb0]
          exact HBE.out

end Go.Proofs.YtekplhhkbeemnaaDoor.Sha
