-- Written by a program of this session (sha.sh): no printed text.
import Derived.Test.YtplmegnfokdcjaaDoorProg
import Derived.Test.YtplmegnfokdcjaaDoorWWords
import Derived.Test.YtplmegnfokdcjaaDoorWLast
import Derived.Test.YtplmegnfokdcjaaDoorWTab
import Derived.Test.YtplmegnfokdcjaaDoorWFour
import Derived.Test.YtplmegnfokdcjaaDoorWQPut
import Derived.Test.YtplmegnfokdcjaaDoorWApart
import Derived.Test.YtplmegnfokdcjaaDoorWArr
import Derived.Test.YtplmegnfokdcjaaDoorWZeros
import Derived.Test.YtplmegnfokdcjaaDoorWFoot
import Derived.Test.YtplmegnfokdcjaaDoorWKept
import Derived.Test.YtplmegnfokdcjaaDoorWShare
import Derived.Test.YtplmegnfokdcjaaDoorWN
import Derived.Test.YtplmegnfokdcjaaDoorWFootNe
import Derived.Test.YtplmegnfokdcjaaDoorWAt
import Derived.Test.YtplmegnfokdcjaaDoorWEqStruct
import Derived.Test.YtplmegnfokdcjaaDoorWRepsOne
import Derived.Test.YtplmegnfokdcjaaDoorWInv
import Derived.Test.YtplmegnfokdcjaaDoorWInvWords
import Derived.Test.YtplmegnfokdcjaaDoorWGuard
import Derived.Test.YtplmegnfokdcjaaDoorWNEv
import Derived.Test.YtplmegnfokdcjaaDoorWMore
import Derived.Below
import Derived.Lib.Fields
import Derived.Lib.LaidTab
import Derived.Deep.Draws
import Derived.Deep.AppendLies
import Derived.Tactics
import Derived.Lib.ConvBytes
import Derived.Laws.Slices
import Derived.WalkKit
import Derived.KernelRfl
import Derived.RowKit3
import Derived.Deep.LoopGhost
import Derived.Deep.QuietTactic
import Derived.BigQuiet
import Derived.WideLaws
import Derived.Deep.Onto
import Derived.Deep.WholeRow
import Derived.Laws.Rows
import Derived.Laws.IdiomStrings
import Derived.Laws.BitsLemmas
import Derived.Laws.NewBlocks
import Derived.WalkLawsBesides
import Derived.Test.YtplmegnfokdcjaaDoorShelf
set_option linter.unusedVariables false
set_option linter.unusedSimpArgs false
namespace Go.Proofs.YtplmegnfokdcjaaDoor.Sha
open Go.RowKit Go.Proofs.YtplmegnfokdcjaaDoorW.PrintWords Go.Proofs.YtplmegnfokdcjaaDoorW.PrintLast
theorem var_on {P : Program} {w w' : World} {n : String} {cs : Array Value} (h : w.var? P n = some cs) (hb : Below w.heap.size w w') : w'.var? P n = some cs := by
  unfold World.var? at *
  cases hg : P.globalNamed n with
  | none => simp [hg] at h
  | some g =>
    simp only [hg, Option.bind_some] at h ⊢
    by_cases hlt : g < w.heap.size
    · rw [hb.block g hlt]; exact h
    · rw [Array.getElem?_eq_none (by omega)] at h
      cases h
/-- The table that strings.Fields reads. -/
structure Sp (w : World) : Prop where
  tab : Lib.TabIs Tryd.prog w "strings.asciiSpace" .u8 Lib.asciiSpaceTab
theorem Sp.on {w w' : World} (h : Sp w) (hb : Below w.heap.size w w') : Sp w' := ⟨var_on h.tab hb⟩
def fieldsV (s : ByteArray) : List ByteArray := (Lib.fields s.data.toList).map fun l => (⟨l.toArray⟩ : ByteArray)
theorem cntF_le : ∀ (ws : Bool) (l : List UInt8), Lib.cntF ws l ≤ l.length
  | _, [] => Nat.le_refl _
  | ws, b :: l => by
    have h := cntF_le (Lib.isSp b) l
    rw [Lib.cntF, List.length_cons]
    split <;> omega
theorem fields_walk (s : ByteArray) (w : World) (hs : s.size < 4294967281) (ha : s.data.toList.all (fun b => decide (b.toNat < 128)) = true) (HT : Sp w) :
    Calls Tryd.prog 10 #[.string s] w fun e w' => ∃ v, e = .returned v ∧ Kd.R Kd.string 9 w' w.heap.size (fun _ => True) v (fieldsV s) ∧ Below w.heap.size w w' := by
  have hlen : (fieldsV s).length = (Lib.fields s.data.toList).length := by unfold fieldsV; rw [List.length_map]
  have hle : (Lib.fields s.data.toList).length ≤ s.size := by
    rw [Lib.fields_length]
    have h := cntF_le true s.data.toList
    rwa [Array.length_toList] at h
  refine (Tryd.strings_Fields_laid s w hs (fun j b hb => ?_) HT.tab).mono ?_
  · have hm : b ∈ s.data.toList := List.mem_of_getElem? hb
    exact of_decide_eq_true (List.all_eq_true.1 ha b hm)
  · rintro e w' ⟨rfl, rfl⟩
    refine ⟨_, rfl, ?_, below_alloc (Below.refl _ _) _⟩
    refine Kd.R_of_own (enc := Value.string) ⟨?_, .inr ⟨w.heap.size, _, _, by rw [hlen], Nat.le_refl _, heap_alloc_new w _, by rw [hlen]; exact Nat.le_refl _, by unfold maxLen; omega, by simp, ?_⟩⟩ (fun _ _ => trivial)
    · simp [encs, hlen]
    · rw [hlen, Nat.mul_one]
      refine (List.take_of_length_le (by simp)).trans ?_
      simp [encs, fieldsV]
end Go.Proofs.YtplmegnfokdcjaaDoor.Sha
