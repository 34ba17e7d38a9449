-- Written by a program of this session (sha.sh): no printed text.
import Derived.Test.YtekplhhkbeemnaaDoorProg
import Derived.Test.YtekplhhkbeemnaaDoorWWords
import Derived.Test.YtekplhhkbeemnaaDoorWLast
import Derived.Test.YtekplhhkbeemnaaDoorWTab
import Derived.Test.YtekplhhkbeemnaaDoorWFour
import Derived.Test.YtekplhhkbeemnaaDoorWQPut
import Derived.Test.YtekplhhkbeemnaaDoorWApart
import Derived.Test.YtekplhhkbeemnaaDoorWArr
import Derived.Test.YtekplhhkbeemnaaDoorWZeros
import Derived.Test.YtekplhhkbeemnaaDoorWFoot
import Derived.Test.YtekplhhkbeemnaaDoorWKept
import Derived.Test.YtekplhhkbeemnaaDoorWShare
import Derived.Test.YtekplhhkbeemnaaDoorWN
import Derived.Test.YtekplhhkbeemnaaDoorWFootNe
import Derived.Test.YtekplhhkbeemnaaDoorWAt
import Derived.Test.YtekplhhkbeemnaaDoorWEqStruct
import Derived.Test.YtekplhhkbeemnaaDoorWRepsOne
import Derived.Test.YtekplhhkbeemnaaDoorWInv
import Derived.Test.YtekplhhkbeemnaaDoorWInvWords
import Derived.Test.YtekplhhkbeemnaaDoorWGuard
import Derived.Test.YtekplhhkbeemnaaDoorWNEv
import Derived.Test.YtekplhhkbeemnaaDoorWMore
import Derived.Below
import Derived.Deep.Draws
import Derived.Deep.AppendLies
import Derived.Tactics
import Derived.Lib.ConvBytes
import Derived.Laws.Slices
import Derived.WalkKit
import Derived.KernelRfl
import Derived.RowKit3
import Derived.Deep.LoopGhost
import Derived.Deep.QuietTactic
import Derived.BigQuiet
import Derived.WideLaws
import Derived.Deep.Onto
import Derived.Deep.WholeRow
import Derived.Laws.Rows
import Derived.Laws.IdiomStrings
import Derived.Laws.BitsLemmas
import Derived.Laws.NewBlocks
import Derived.WalkLawsBesides
set_option linter.unusedVariables false
set_option linter.unusedSimpArgs false
namespace Go.Proofs.YtekplhhkbeemnaaDoor.Sha
open Go.RowKit Go.Proofs.YtekplhhkbeemnaaDoorW.PrintWords Go.Proofs.YtekplhhkbeemnaaDoorW.PrintLast
/-! ### bits_RotateLeft32: function 52 -/
def bits_RotateLeft32.f (a0 : Int) (a1 : Int) : Option (Int) := if 0 ≤ (Go.bits .and .u64 (IntKind.u64.wrap (a1)) 31) then (if 0 ≤ (IntKind.u64.wrap (32 - (Go.bits .and .u64 (IntKind.u64.wrap (a1)) 31))) then (some (Go.bits .or .u32 (shl .u32 a0 (Go.bits .and .u64 (IntKind.u64.wrap (a1)) 31)) (shr .u32 a0 (IntKind.u64.wrap (32 - (Go.bits .and .u64 (IntKind.u64.wrap (a1)) 31)))))) else (none)) else (none)
set_option maxHeartbeats 8000000 in
set_option maxRecDepth 100000 in
theorem bits_RotateLeft32.calls (a0 : Int) (a1 : Int) (r : Int) (w : World) (h : bits_RotateLeft32.f a0 a1 = some r) :
    Calls Tryd.prog 52 #[.int .u32 a0, .int .i64 a1] w fun e w' => e = .returned (.int .u32 r) ∧ Drawn0 w w' := by
  have H : (if 0 ≤ (Go.bits .and .u64 (IntKind.u64.wrap (a1)) 31) then (if 0 ≤ (IntKind.u64.wrap (32 - (Go.bits .and .u64 (IntKind.u64.wrap (a1)) 31))) then (some (Go.bits .or .u32 (shl .u32 a0 (Go.bits .and .u64 (IntKind.u64.wrap (a1)) 31)) (shr .u32 a0 (IntKind.u64.wrap (32 - (Go.bits .and .u64 (IntKind.u64.wrap (a1)) 31)))))) else (none)) else (none)) = some r := h
  clear h
  obtain ⟨ji3, hji3⟩ : ∃ j_ : Int, (Go.bits .and .u64 (IntKind.u64.wrap (a1)) 31) = j_ := ⟨_, rfl⟩
  replace H : (if 0 ≤ (ji3) then (if 0 ≤ (IntKind.u64.wrap (32 - (ji3))) then (some (Go.bits .or .u32 (shl .u32 a0 (ji3)) (shr .u32 a0 (IntKind.u64.wrap (32 - (ji3)))))) else (none)) else (none)) = some r := by first | (rw [hji3] at H; exact H) | (simp only [hji3] at H ⊢; exact H)
  by_cases c4 : 0 ≤ (ji3)
  · rw [if_pos c4] at H
    have c4b0 := eq_true c4
    have c4b1 : decide (0 ≤ (ji3)) = true := decide_eq_true c4
    clear c4
    obtain ⟨ji5, hji5⟩ : ∃ j_ : Int, (shl .u32 a0 (ji3)) = j_ := ⟨_, rfl⟩
    replace H : (if 0 ≤ (IntKind.u64.wrap (32 - (ji3))) then (some (Go.bits .or .u32 (ji5) (shr .u32 a0 (IntKind.u64.wrap (32 - (ji3)))))) else (none)) = some r := by first | (rw [hji5] at H; exact H) | (simp only [hji5] at H ⊢; exact H)
    have hji5_ : (IntKind.u32.wrap (a0 * 2 ^ min (ji3).toNat 32)) = ji5 := hji5
    have hji5z : (ji3) ≤ 32 → (IntKind.u32.wrap (a0 * 2 ^ (ji3).toNat)) = ji5 := shl_small hji5
    obtain ⟨ji6, hji6⟩ : ∃ j_ : Int, (IntKind.u64.wrap (32 - (ji3))) = j_ := ⟨_, rfl⟩
    replace H : (if 0 ≤ (ji6) then (some (Go.bits .or .u32 (ji5) (shr .u32 a0 (ji6)))) else (none)) = some r := by first | (rw [hji6] at H; exact H) | (simp only [hji6] at H ⊢; exact H)
    by_cases c7 : 0 ≤ (ji6)
    · rw [if_pos c7] at H
      have c7b0 := eq_true c7
      have c7b1 : decide (0 ≤ (ji6)) = true := decide_eq_true c7
      clear c7
      obtain ⟨ji8, hji8⟩ : ∃ j_ : Int, (shr .u32 a0 (ji6)) = j_ := ⟨_, rfl⟩
      replace H : (some (Go.bits .or .u32 (ji5) (ji8))) = some r := by first | (rw [hji8] at H; exact H) | (simp only [hji8] at H ⊢; exact H)
      have hji8_ : (a0 / 2 ^ min (ji6).toNat 32) = ji8 := hji8
      have hji8z : (ji6) ≤ 32 → (a0 / 2 ^ (ji6).toNat) = ji8 := shr_small hji8
      obtain rfl := Option.some.inj H
      go_enter Tryd.func52, Tryd.ntmps52
      go_wp2
      go_ret
      exact ⟨by first | rfl | (simp; done) | (simp only [← hji3, ← hji5, ← hji6, ← hji8] <;> (first | rfl | simp)) | (simp [*]; done), by repeat (first | exact Drawn0.refl _ | apply Drawn0.step)⟩
    · rw [if_neg c7] at H
      exact absurd H (by simp)
  · rw [if_neg c4] at H
    exact absurd H (by simp)
/-! ### impl_right: function 38 -/
def impl_right.f (a0 : Int) (a1 : Int) : Option (Int) := (bits_RotateLeft32.f a0 (wrap64 (-a1))).bind fun t112 => (some t112)
set_option maxHeartbeats 8000000 in
set_option maxRecDepth 100000 in
theorem impl_right.calls (a0 : Int) (a1 : Int) (r : Int) (w : World) (h : impl_right.f a0 a1 = some r) :
    Calls Tryd.prog 38 #[.int .u32 a0, .int .i64 a1] w fun e w' => e = .returned (.int .u32 r) ∧ Drawn0 w w' := by
  have H : ((bits_RotateLeft32.f a0 (wrap64 (-a1))).bind fun t112 => (some t112)) = some r := h
  clear h
  replace H := Option.bind_eq_some_iff.mp H
  obtain ⟨t112, A30, H⟩ := H
  replace H : (some t112) = some r := H
  have A3 := Aside0.mk A30
  clear A30
  obtain rfl := Option.some.inj H
  go_enter Tryd.func38, Tryd.ntmps38
  go_wp2_with (first | ((with_reducible refine gate_callee (f := 52) rfl ?_); refine goesL_ (some 8) rfl rfl Tryd.func52 (by kernel_rfl) rfl #[.int .u32 a0, .int .i64 (wrap64 (-a1))] rfl (by (try simp only [List.map_toArray, List.map_cons, List.map_nil]); first | done | rfl | (simp only [List.length_drop, List.length_take]; rfl)) ?_; (with_reducible refine (bits_RotateLeft32.calls a0 (wrap64 (-a1)) t112 _ A3.out).mono ?_); rintro e w' ⟨rfl, ⟨nd, rfl⟩⟩; refine ⟨_, rfl, ?_⟩))
  go_ret
  exact ⟨by first | rfl | (simp; done) | (simp [*]; done), by repeat (first | exact Drawn0.refl _ | apply Drawn0.step)⟩

-- NOT PRINTED: function 37 (impl_words)

-- NOT PRINTED: function 13 (impl_ShaBlock)
/-! ### A number of 32 bits, turned right by a known count -/
def rot (n : Nat) (x : Int) : Int := Go.bits .or .u32 (x / 2 ^ n) (x * 2 ^ (32 - n) % 4294967296)
theorem or_comm32 (a b : Int) : Go.bits .or .u32 a b = Go.bits .or .u32 b a := by
  show IntKind.u32.wrap ((BitVec.ofInt 32 a ||| BitVec.ofInt 32 b).toNat : Int) = IntKind.u32.wrap ((BitVec.ofInt 32 b ||| BitVec.ofInt 32 a).toNat : Int)
  rw [BitVec.or_comm]
theorem turn_2 (x : Int) (w : World) (h0 : 0 ≤ x) (h1 : x ≤ 4294967295) : Calls Tryd.prog 51 #[.int .u32 x, .int .u64 2] w fun e w' => e = .returned (.int .u32 (rot 2 x)) ∧ w' = w := by
  have e : rot 2 x = Go.bits .or .u32 (x / 4) (x * 1073741824 % 4294967296) := rfl
  rw [e]
  clear e
  go_enter Tryd.func51, Tryd.ntmps51
  go_wp2
  go_ret
  exact ⟨rfl, rfl⟩
theorem right_2 (x : Int) (w : World) (h0 : 0 ≤ x) (h1 : x ≤ 4294967295) : Calls Tryd.prog 38 #[.int .u32 x, .int .i64 2] w fun e w' => e = .returned (.int .u32 (rot 2 x)) ∧ Drawn0 w w' := by
  refine impl_right.calls x 2 (rot 2 x) w ?_
  have hb : Go.bits .and .u64 (IntKind.u64.wrap (wrap64 (-2))) 31 = 30 := by kernel_rfl
  have hc : IntKind.u64.wrap (32 - 30) = 2 := by kernel_rfl
  have hs : shl .u32 x 30 = x * 1073741824 % 4294967296 := rfl
  have hr : shr .u32 x 2 = x / 4 := rfl
  unfold impl_right.f bits_RotateLeft32.f
  rw [hb, hc, if_pos (by decide), if_pos (by decide), hs, hr]
  have e : rot 2 x = Go.bits .or .u32 (x * 1073741824 % 4294967296) (x / 4) := or_comm32 _ _
  rw [e]
  rfl
theorem turn_6 (x : Int) (w : World) (h0 : 0 ≤ x) (h1 : x ≤ 4294967295) : Calls Tryd.prog 51 #[.int .u32 x, .int .u64 6] w fun e w' => e = .returned (.int .u32 (rot 6 x)) ∧ w' = w := by
  have e : rot 6 x = Go.bits .or .u32 (x / 64) (x * 67108864 % 4294967296) := rfl
  rw [e]
  clear e
  go_enter Tryd.func51, Tryd.ntmps51
  go_wp2
  go_ret
  exact ⟨rfl, rfl⟩
theorem right_6 (x : Int) (w : World) (h0 : 0 ≤ x) (h1 : x ≤ 4294967295) : Calls Tryd.prog 38 #[.int .u32 x, .int .i64 6] w fun e w' => e = .returned (.int .u32 (rot 6 x)) ∧ Drawn0 w w' := by
  refine impl_right.calls x 6 (rot 6 x) w ?_
  have hb : Go.bits .and .u64 (IntKind.u64.wrap (wrap64 (-6))) 31 = 26 := by kernel_rfl
  have hc : IntKind.u64.wrap (32 - 26) = 6 := by kernel_rfl
  have hs : shl .u32 x 26 = x * 67108864 % 4294967296 := rfl
  have hr : shr .u32 x 6 = x / 64 := rfl
  unfold impl_right.f bits_RotateLeft32.f
  rw [hb, hc, if_pos (by decide), if_pos (by decide), hs, hr]
  have e : rot 6 x = Go.bits .or .u32 (x * 67108864 % 4294967296) (x / 64) := or_comm32 _ _
  rw [e]
  rfl
theorem turn_7 (x : Int) (w : World) (h0 : 0 ≤ x) (h1 : x ≤ 4294967295) : Calls Tryd.prog 51 #[.int .u32 x, .int .u64 7] w fun e w' => e = .returned (.int .u32 (rot 7 x)) ∧ w' = w := by
  have e : rot 7 x = Go.bits .or .u32 (x / 128) (x * 33554432 % 4294967296) := rfl
  rw [e]
  clear e
  go_enter Tryd.func51, Tryd.ntmps51
  go_wp2
  go_ret
  exact ⟨rfl, rfl⟩
theorem right_7 (x : Int) (w : World) (h0 : 0 ≤ x) (h1 : x ≤ 4294967295) : Calls Tryd.prog 38 #[.int .u32 x, .int .i64 7] w fun e w' => e = .returned (.int .u32 (rot 7 x)) ∧ Drawn0 w w' := by
  refine impl_right.calls x 7 (rot 7 x) w ?_
  have hb : Go.bits .and .u64 (IntKind.u64.wrap (wrap64 (-7))) 31 = 25 := by kernel_rfl
  have hc : IntKind.u64.wrap (32 - 25) = 7 := by kernel_rfl
  have hs : shl .u32 x 25 = x * 33554432 % 4294967296 := rfl
  have hr : shr .u32 x 7 = x / 128 := rfl
  unfold impl_right.f bits_RotateLeft32.f
  rw [hb, hc, if_pos (by decide), if_pos (by decide), hs, hr]
  have e : rot 7 x = Go.bits .or .u32 (x * 33554432 % 4294967296) (x / 128) := or_comm32 _ _
  rw [e]
  rfl
theorem turn_11 (x : Int) (w : World) (h0 : 0 ≤ x) (h1 : x ≤ 4294967295) : Calls Tryd.prog 51 #[.int .u32 x, .int .u64 11] w fun e w' => e = .returned (.int .u32 (rot 11 x)) ∧ w' = w := by
  have e : rot 11 x = Go.bits .or .u32 (x / 2048) (x * 2097152 % 4294967296) := rfl
  rw [e]
  clear e
  go_enter Tryd.func51, Tryd.ntmps51
  go_wp2
  go_ret
  exact ⟨rfl, rfl⟩
theorem right_11 (x : Int) (w : World) (h0 : 0 ≤ x) (h1 : x ≤ 4294967295) : Calls Tryd.prog 38 #[.int .u32 x, .int .i64 11] w fun e w' => e = .returned (.int .u32 (rot 11 x)) ∧ Drawn0 w w' := by
  refine impl_right.calls x 11 (rot 11 x) w ?_
  have hb : Go.bits .and .u64 (IntKind.u64.wrap (wrap64 (-11))) 31 = 21 := by kernel_rfl
  have hc : IntKind.u64.wrap (32 - 21) = 11 := by kernel_rfl
  have hs : shl .u32 x 21 = x * 2097152 % 4294967296 := rfl
  have hr : shr .u32 x 11 = x / 2048 := rfl
  unfold impl_right.f bits_RotateLeft32.f
  rw [hb, hc, if_pos (by decide), if_pos (by decide), hs, hr]
  have e : rot 11 x = Go.bits .or .u32 (x * 2097152 % 4294967296) (x / 2048) := or_comm32 _ _
  rw [e]
  rfl
theorem turn_13 (x : Int) (w : World) (h0 : 0 ≤ x) (h1 : x ≤ 4294967295) : Calls Tryd.prog 51 #[.int .u32 x, .int .u64 13] w fun e w' => e = .returned (.int .u32 (rot 13 x)) ∧ w' = w := by
  have e : rot 13 x = Go.bits .or .u32 (x / 8192) (x * 524288 % 4294967296) := rfl
  rw [e]
  clear e
  go_enter Tryd.func51, Tryd.ntmps51
  go_wp2
  go_ret
  exact ⟨rfl, rfl⟩
theorem right_13 (x : Int) (w : World) (h0 : 0 ≤ x) (h1 : x ≤ 4294967295) : Calls Tryd.prog 38 #[.int .u32 x, .int .i64 13] w fun e w' => e = .returned (.int .u32 (rot 13 x)) ∧ Drawn0 w w' := by
  refine impl_right.calls x 13 (rot 13 x) w ?_
  have hb : Go.bits .and .u64 (IntKind.u64.wrap (wrap64 (-13))) 31 = 19 := by kernel_rfl
  have hc : IntKind.u64.wrap (32 - 19) = 13 := by kernel_rfl
  have hs : shl .u32 x 19 = x * 524288 % 4294967296 := rfl
  have hr : shr .u32 x 13 = x / 8192 := rfl
  unfold impl_right.f bits_RotateLeft32.f
  rw [hb, hc, if_pos (by decide), if_pos (by decide), hs, hr]
  have e : rot 13 x = Go.bits .or .u32 (x * 524288 % 4294967296) (x / 8192) := or_comm32 _ _
  rw [e]
  rfl
theorem turn_17 (x : Int) (w : World) (h0 : 0 ≤ x) (h1 : x ≤ 4294967295) : Calls Tryd.prog 51 #[.int .u32 x, .int .u64 17] w fun e w' => e = .returned (.int .u32 (rot 17 x)) ∧ w' = w := by
  have e : rot 17 x = Go.bits .or .u32 (x / 131072) (x * 32768 % 4294967296) := rfl
  rw [e]
  clear e
  go_enter Tryd.func51, Tryd.ntmps51
  go_wp2
  go_ret
  exact ⟨rfl, rfl⟩
theorem right_17 (x : Int) (w : World) (h0 : 0 ≤ x) (h1 : x ≤ 4294967295) : Calls Tryd.prog 38 #[.int .u32 x, .int .i64 17] w fun e w' => e = .returned (.int .u32 (rot 17 x)) ∧ Drawn0 w w' := by
  refine impl_right.calls x 17 (rot 17 x) w ?_
  have hb : Go.bits .and .u64 (IntKind.u64.wrap (wrap64 (-17))) 31 = 15 := by kernel_rfl
  have hc : IntKind.u64.wrap (32 - 15) = 17 := by kernel_rfl
  have hs : shl .u32 x 15 = x * 32768 % 4294967296 := rfl
  have hr : shr .u32 x 17 = x / 131072 := rfl
  unfold impl_right.f bits_RotateLeft32.f
  rw [hb, hc, if_pos (by decide), if_pos (by decide), hs, hr]
  have e : rot 17 x = Go.bits .or .u32 (x * 32768 % 4294967296) (x / 131072) := or_comm32 _ _
  rw [e]
  rfl
theorem turn_18 (x : Int) (w : World) (h0 : 0 ≤ x) (h1 : x ≤ 4294967295) : Calls Tryd.prog 51 #[.int .u32 x, .int .u64 18] w fun e w' => e = .returned (.int .u32 (rot 18 x)) ∧ w' = w := by
  have e : rot 18 x = Go.bits .or .u32 (x / 262144) (x * 16384 % 4294967296) := rfl
  rw [e]
  clear e
  go_enter Tryd.func51, Tryd.ntmps51
  go_wp2
  go_ret
  exact ⟨rfl, rfl⟩
theorem right_18 (x : Int) (w : World) (h0 : 0 ≤ x) (h1 : x ≤ 4294967295) : Calls Tryd.prog 38 #[.int .u32 x, .int .i64 18] w fun e w' => e = .returned (.int .u32 (rot 18 x)) ∧ Drawn0 w w' := by
  refine impl_right.calls x 18 (rot 18 x) w ?_
  have hb : Go.bits .and .u64 (IntKind.u64.wrap (wrap64 (-18))) 31 = 14 := by kernel_rfl
  have hc : IntKind.u64.wrap (32 - 14) = 18 := by kernel_rfl
  have hs : shl .u32 x 14 = x * 16384 % 4294967296 := rfl
  have hr : shr .u32 x 18 = x / 262144 := rfl
  unfold impl_right.f bits_RotateLeft32.f
  rw [hb, hc, if_pos (by decide), if_pos (by decide), hs, hr]
  have e : rot 18 x = Go.bits .or .u32 (x * 16384 % 4294967296) (x / 262144) := or_comm32 _ _
  rw [e]
  rfl
theorem turn_19 (x : Int) (w : World) (h0 : 0 ≤ x) (h1 : x ≤ 4294967295) : Calls Tryd.prog 51 #[.int .u32 x, .int .u64 19] w fun e w' => e = .returned (.int .u32 (rot 19 x)) ∧ w' = w := by
  have e : rot 19 x = Go.bits .or .u32 (x / 524288) (x * 8192 % 4294967296) := rfl
  rw [e]
  clear e
  go_enter Tryd.func51, Tryd.ntmps51
  go_wp2
  go_ret
  exact ⟨rfl, rfl⟩
theorem right_19 (x : Int) (w : World) (h0 : 0 ≤ x) (h1 : x ≤ 4294967295) : Calls Tryd.prog 38 #[.int .u32 x, .int .i64 19] w fun e w' => e = .returned (.int .u32 (rot 19 x)) ∧ Drawn0 w w' := by
  refine impl_right.calls x 19 (rot 19 x) w ?_
  have hb : Go.bits .and .u64 (IntKind.u64.wrap (wrap64 (-19))) 31 = 13 := by kernel_rfl
  have hc : IntKind.u64.wrap (32 - 13) = 19 := by kernel_rfl
  have hs : shl .u32 x 13 = x * 8192 % 4294967296 := rfl
  have hr : shr .u32 x 19 = x / 524288 := rfl
  unfold impl_right.f bits_RotateLeft32.f
  rw [hb, hc, if_pos (by decide), if_pos (by decide), hs, hr]
  have e : rot 19 x = Go.bits .or .u32 (x * 8192 % 4294967296) (x / 524288) := or_comm32 _ _
  rw [e]
  rfl
theorem turn_22 (x : Int) (w : World) (h0 : 0 ≤ x) (h1 : x ≤ 4294967295) : Calls Tryd.prog 51 #[.int .u32 x, .int .u64 22] w fun e w' => e = .returned (.int .u32 (rot 22 x)) ∧ w' = w := by
  have e : rot 22 x = Go.bits .or .u32 (x / 4194304) (x * 1024 % 4294967296) := rfl
  rw [e]
  clear e
  go_enter Tryd.func51, Tryd.ntmps51
  go_wp2
  go_ret
  exact ⟨rfl, rfl⟩
theorem right_22 (x : Int) (w : World) (h0 : 0 ≤ x) (h1 : x ≤ 4294967295) : Calls Tryd.prog 38 #[.int .u32 x, .int .i64 22] w fun e w' => e = .returned (.int .u32 (rot 22 x)) ∧ Drawn0 w w' := by
  refine impl_right.calls x 22 (rot 22 x) w ?_
  have hb : Go.bits .and .u64 (IntKind.u64.wrap (wrap64 (-22))) 31 = 10 := by kernel_rfl
  have hc : IntKind.u64.wrap (32 - 10) = 22 := by kernel_rfl
  have hs : shl .u32 x 10 = x * 1024 % 4294967296 := rfl
  have hr : shr .u32 x 22 = x / 4194304 := rfl
  unfold impl_right.f bits_RotateLeft32.f
  rw [hb, hc, if_pos (by decide), if_pos (by decide), hs, hr]
  have e : rot 22 x = Go.bits .or .u32 (x * 1024 % 4294967296) (x / 4194304) := or_comm32 _ _
  rw [e]
  rfl
theorem turn_25 (x : Int) (w : World) (h0 : 0 ≤ x) (h1 : x ≤ 4294967295) : Calls Tryd.prog 51 #[.int .u32 x, .int .u64 25] w fun e w' => e = .returned (.int .u32 (rot 25 x)) ∧ w' = w := by
  have e : rot 25 x = Go.bits .or .u32 (x / 33554432) (x * 128 % 4294967296) := rfl
  rw [e]
  clear e
  go_enter Tryd.func51, Tryd.ntmps51
  go_wp2
  go_ret
  exact ⟨rfl, rfl⟩
theorem right_25 (x : Int) (w : World) (h0 : 0 ≤ x) (h1 : x ≤ 4294967295) : Calls Tryd.prog 38 #[.int .u32 x, .int .i64 25] w fun e w' => e = .returned (.int .u32 (rot 25 x)) ∧ Drawn0 w w' := by
  refine impl_right.calls x 25 (rot 25 x) w ?_
  have hb : Go.bits .and .u64 (IntKind.u64.wrap (wrap64 (-25))) 31 = 7 := by kernel_rfl
  have hc : IntKind.u64.wrap (32 - 7) = 25 := by kernel_rfl
  have hs : shl .u32 x 7 = x * 128 % 4294967296 := rfl
  have hr : shr .u32 x 25 = x / 33554432 := rfl
  unfold impl_right.f bits_RotateLeft32.f
  rw [hb, hc, if_pos (by decide), if_pos (by decide), hs, hr]
  have e : rot 25 x = Go.bits .or .u32 (x * 128 % 4294967296) (x / 33554432) := or_comm32 _ _
  rw [e]
  rfl
end Go.Proofs.YtekplhhkbeemnaaDoor.Sha
