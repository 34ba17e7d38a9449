-- Written by a program of this session (sha.sh): no printed text.
import Derived.Test.YtpboocpomnihbaaDoorProg
import Derived.Test.YtpboocpomnihbaaDoorWWords
import Derived.Test.YtpboocpomnihbaaDoorWLast
import Derived.Test.YtpboocpomnihbaaDoorWTab
import Derived.Test.YtpboocpomnihbaaDoorWFour
import Derived.Test.YtpboocpomnihbaaDoorWQPut
import Derived.Test.YtpboocpomnihbaaDoorWApart
import Derived.Test.YtpboocpomnihbaaDoorWArr
import Derived.Test.YtpboocpomnihbaaDoorWZeros
import Derived.Test.YtpboocpomnihbaaDoorWFoot
import Derived.Test.YtpboocpomnihbaaDoorWKept
import Derived.Test.YtpboocpomnihbaaDoorWShare
import Derived.Test.YtpboocpomnihbaaDoorWN
import Derived.Test.YtpboocpomnihbaaDoorWFootNe
import Derived.Test.YtpboocpomnihbaaDoorWAt
import Derived.Test.YtpboocpomnihbaaDoorWEqStruct
import Derived.Test.YtpboocpomnihbaaDoorWRepsOne
import Derived.Test.YtpboocpomnihbaaDoorWInv
import Derived.Test.YtpboocpomnihbaaDoorWInvWords
import Derived.Test.YtpboocpomnihbaaDoorWGuard
import Derived.Test.YtpboocpomnihbaaDoorWNEv
import Derived.Test.YtpboocpomnihbaaDoorWMore
import Derived.Below
import Derived.Lib.AppendIntMem
import Derived.Lib.AtoiErrMem
import Derived.Lib.AtoiAllCases
import Derived.Deep.Draws
import Derived.Deep.AppendLies
import Derived.Tactics
import Derived.Lib.ConvBytes
import Derived.Laws.Slices
import Derived.WalkKit
import Derived.KernelRfl
import Derived.RowKit3
import Derived.Deep.LoopGhost
import Derived.Deep.QuietTactic
import Derived.BigQuiet
import Derived.WideLaws
import Derived.Deep.Onto
import Derived.Deep.WholeRow
import Derived.Laws.Rows
import Derived.Laws.IdiomStrings
import Derived.Laws.BitsLemmas
import Derived.Laws.NewBlocks
import Derived.WalkLawsBesides
import Derived.Test.YtpboocpomnihbaaDoorShelf
set_option linter.unusedVariables false
set_option linter.unusedSimpArgs false
namespace Go.Proofs.YtpboocpomnihbaaDoor.Sha
open Go.RowKit Go.Proofs.YtpboocpomnihbaaDoorW.PrintWords Go.Proofs.YtpboocpomnihbaaDoorW.PrintLast
open Go.Lib in
theorem var_on {P : Program} {w w' : World} {n : String} {cs : Array Value} (h : w.var? P n = some cs) (hb : Below w.heap.size w w') : w'.var? P n = some cs := by
  unfold World.var? at *
  cases hg : P.globalNamed n with
  | none => simp [hg] at h
  | some g =>
    simp only [hg, Option.bind_some] at h ⊢
    by_cases hlt : g < w.heap.size
    · rw [hb.block g hlt]; exact h
    · rw [Array.getElem?_eq_none (by omega)] at h
      cases h
/-- The table that strconv.Itoa reads. -/
structure Tb (w : World) : Prop where
  tab : Lib.TabIs Tryd.prog w "internal/strconv.uint64pow10" .u64 Lib.pow10Tab
/-- The table, and the two errors that strconv.Atoi hands out. -/
structure Dw (w : World) : Prop where
  tb : Tb w
  syn : ∃ tp p, w.var? Tryd.prog "strconv.ErrSyntax" = some #[.iface tp p]
  rng : ∃ tp p, w.var? Tryd.prog "strconv.ErrRange" = some #[.iface tp p]
theorem Tb.on {w w' : World} (h : Tb w) (hb : Below w.heap.size w w') : Tb w' := ⟨var_on h.tab hb⟩
theorem Dw.on {w w' : World} (h : Dw w) (hb : Below w.heap.size w w') : Dw w' := by
  obtain ⟨ht, ⟨tp, p, h1⟩, tp2, p2, h2⟩ := h
  exact ⟨ht.on hb, ⟨tp, p, var_on h1 hb⟩, tp2, p2, var_on h2 hb⟩
def decV (n : Int) : ByteArray := ⟨(Lib.itoa n).toArray⟩
set_option maxHeartbeats 8000000 in
set_option maxRecDepth 100000 in
theorem decimal_walk (n : Int) (h0 : -9223372036854775808 ≤ n) (h1 : n ≤ 9223372036854775807) (w : World) (HT : Tb w) :
    Calls Tryd.prog 7 #[.int .i64 n] w fun e w' => e = .returned (.string (decV n)) ∧ Below w.heap.size w w' := by
  go_enter Tryd.func7, Tryd.ntmps7
  go_wp2_with (go_at_call 20; refine (Tryd.strconv_Itoa n h0 h1 _ HT.tab).mono ?_; rintro e w' ⟨rfl, k, os, rfl⟩)
  go_ret
  exact ⟨rfl, Lib.below_grow _ _ (Nat.le_refl _) _ _⟩
def readV (s : ByteArray) : Int × Bool :=
  match Lib.atoiAll s.data.toList with
  | .ok v => if (decV v).toList = s.toList then (if 0 ≤ v ∧ v ≤ 1000000000 then (v, true) else (0, false)) else (0, false)
  | _ => (0, false)
set_option maxHeartbeats 8000000 in
set_option maxRecDepth 100000 in
theorem read_walk (s : ByteArray) (hs : s.size ≤ 281474976710656) (w : World) (HT : Dw w) :
    Calls Tryd.prog 9 #[.string s] w fun e w' => e = .returned (.tuple #[.int .i64 (readV s).1, .bool (readV s).2]) ∧ Below w.heap.size w w' := by
  unfold readV
  rcases ha : Lib.atoiAll s.data.toList with v | _ | _
  rotate_left
  · obtain ⟨tp, p, hv⟩ := HT.syn
    show Calls Tryd.prog 9 #[.string s] w fun e w' => e = .returned (.tuple #[.int .i64 0, .bool false]) ∧ Below w.heap.size w w'
    go_enter Tryd.func9, Tryd.ntmps9
    go_wp2_with (go_at_call 21; refine (Tryd.strconv_Atoi_syntax_var s hs ha tp p _ hv).mono ?_; rintro e w' ⟨N, rfl, _, _, hb⟩)
    go_ret2
    exact ⟨rfl, hb⟩
  · obtain ⟨tp, p, hv⟩ := HT.rng
    show Calls Tryd.prog 9 #[.string s] w fun e w' => e = .returned (.tuple #[.int .i64 0, .bool false]) ∧ Below w.heap.size w w'
    go_enter Tryd.func9, Tryd.ntmps9
    go_wp2_with (go_at_call 21; refine (Tryd.strconv_Atoi_range_var s hs ha tp p _ hv).mono ?_; rintro e w' ⟨N, rfl, _, _, hb⟩)
    go_ret2
    exact ⟨rfl, hb⟩
  · have hbd := Lib.atoiAll_bounds ha
    obtain ⟨hb0, hb1⟩ := hbd
    have HC := (Tryd.strconv_Atoi_ok s (by omega) v ha w).mono (R' := fun e w' => e = .returned (.tuple #[.int .i64 v, .nilIface]) ∧ Below w.heap.size w w') (by
      rintro e w' ⟨rfl, rfl | ⟨t, rfl⟩⟩
      · exact ⟨rfl, Below.refl _ _⟩
      · exact ⟨rfl, Lib.bytesWorld_below _ _ _⟩)
    show Calls Tryd.prog 9 #[.string s] w fun e w' => e = .returned (.tuple #[.int .i64 (if (decV v).toList = s.toList then (if 0 ≤ v ∧ v ≤ 1000000000 then (v, true) else (0, false)) else ((0 : Int), false)).1, .bool (if (decV v).toList = s.toList then (if 0 ≤ v ∧ v ≤ 1000000000 then (v, true) else (0, false)) else ((0 : Int), false)).2]) ∧ Below w.heap.size w w'
    obtain ⟨t, ht⟩ : ∃ t, decV v = t := ⟨_, rfl⟩
    have HD : ∀ w1, Tb w1 → Calls Tryd.prog 7 #[.int .i64 v] w1 fun e w' => e = .returned (.string t) ∧ Below w1.heap.size w1 w' := fun w1 h => ht ▸ decimal_walk v hb0 hb1 w1 h
    rw [ht]
    clear ht
    by_cases c : t.toList = s.toList
    · rw [if_pos c]
      have c0 : (t.toList == s.toList) = true := beq_iff_eq.mpr c
      have c1 : (t.toList != s.toList) = false := bne_eq_false_iff_eq.mpr c
      clear c
      by_cases g0 : 0 ≤ v
      · have g0b := decide_eq_true g0
        by_cases g1 : v ≤ 1000000000
        · have g1b := decide_eq_true g1
          rw [if_pos ⟨g0, g1⟩]
          clear ha hb0 hb1
          go_enter Tryd.func9, Tryd.ntmps9
          go_wp2_with (first | (go_at_call 21; refine HC.mono ?_; rintro e w1 ⟨rfl, hb⟩) | (go_at_call 7; refine (HD _ (HT.tb.on hb)).mono ?_; rintro e w2 ⟨rfl, hb2⟩) | go_in)
          go_ret2
          exact ⟨rfl, below_step hb hb2⟩
        · have g1b := decide_eq_false g1
          rw [if_neg (fun h => g1 h.2)]
          clear ha hb0 hb1
          go_enter Tryd.func9, Tryd.ntmps9
          go_wp2_with (first | (go_at_call 21; refine HC.mono ?_; rintro e w1 ⟨rfl, hb⟩) | (go_at_call 7; refine (HD _ (HT.tb.on hb)).mono ?_; rintro e w2 ⟨rfl, hb2⟩) | go_in)
          go_ret2
          exact ⟨rfl, below_step hb hb2⟩
      · have g0b := decide_eq_false g0
        rw [if_neg (fun h => g0 h.1)]
        clear ha hb0 hb1
        go_enter Tryd.func9, Tryd.ntmps9
        go_wp2_with (first | (go_at_call 21; refine HC.mono ?_; rintro e w1 ⟨rfl, hb⟩) | (go_at_call 7; refine (HD _ (HT.tb.on hb)).mono ?_; rintro e w2 ⟨rfl, hb2⟩) | go_in)
        go_ret2
        exact ⟨rfl, below_step hb hb2⟩
    · rw [if_neg c]
      have c0 : (t.toList == s.toList) = false := beq_eq_false_iff_ne.mpr c
      have c1 : (t.toList != s.toList) = true := bne_iff_ne.mpr c
      clear c ha hb0 hb1
      go_enter Tryd.func9, Tryd.ntmps9
      go_wp2_with (first | (go_at_call 21; refine HC.mono ?_; rintro e w1 ⟨rfl, hb⟩) | (go_at_call 7; refine (HD _ (HT.tb.on hb)).mono ?_; rintro e w2 ⟨rfl, hb2⟩) | go_in)
      go_ret2
      exact ⟨rfl, below_step hb hb2⟩
end Go.Proofs.YtpboocpomnihbaaDoor.Sha
