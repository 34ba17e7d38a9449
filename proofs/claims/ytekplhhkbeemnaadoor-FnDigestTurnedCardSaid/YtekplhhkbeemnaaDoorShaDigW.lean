-- Written by a program of this session (sha.sh): no printed text.
import Derived.Test.YtekplhhkbeemnaaDoorProg
import Derived.Test.YtekplhhkbeemnaaDoorWWords
import Derived.Test.YtekplhhkbeemnaaDoorWLast
import Derived.Test.YtekplhhkbeemnaaDoorWTab
import Derived.Test.YtekplhhkbeemnaaDoorWFour
import Derived.Test.YtekplhhkbeemnaaDoorWQPut
import Derived.Test.YtekplhhkbeemnaaDoorWApart
import Derived.Test.YtekplhhkbeemnaaDoorWArr
import Derived.Test.YtekplhhkbeemnaaDoorWZeros
import Derived.Test.YtekplhhkbeemnaaDoorWFoot
import Derived.Test.YtekplhhkbeemnaaDoorWKept
import Derived.Test.YtekplhhkbeemnaaDoorWShare
import Derived.Test.YtekplhhkbeemnaaDoorWN
import Derived.Test.YtekplhhkbeemnaaDoorWFootNe
import Derived.Test.YtekplhhkbeemnaaDoorWAt
import Derived.Test.YtekplhhkbeemnaaDoorWEqStruct
import Derived.Test.YtekplhhkbeemnaaDoorWRepsOne
import Derived.Test.YtekplhhkbeemnaaDoorWInv
import Derived.Test.YtekplhhkbeemnaaDoorWInvWords
import Derived.Test.YtekplhhkbeemnaaDoorWGuard
import Derived.Test.YtekplhhkbeemnaaDoorWNEv
import Derived.Test.YtekplhhkbeemnaaDoorWMore
import Derived.Below
import Derived.Deep.Draws
import Derived.Deep.AppendLies
import Derived.Tactics
import Derived.Lib.ConvBytes
import Derived.Laws.Slices
import Derived.WalkKit
import Derived.StillTailTactics
import Derived.Laws.CopyOwn
import Derived.KernelRfl
import Derived.RowKit3
import Derived.Deep.LoopGhost
import Derived.Deep.QuietTactic
import Derived.BigQuiet
import Derived.WideLaws
import Derived.Deep.Onto
import Derived.Deep.WholeRow
import Derived.Laws.Rows
import Derived.Laws.IdiomStrings
import Derived.Laws.BitsLemmas
import Derived.Laws.NewBlocks
import Derived.WalkLawsBesides
import Derived.Test.YtekplhhkbeemnaaDoorShaSb
import Derived.Test.YtekplhhkbeemnaaDoorShaPad
set_option linter.unusedVariables false
set_option linter.unusedSimpArgs false
namespace Go.Proofs.YtekplhhkbeemnaaDoor.Sha
open Go.RowKit Go.Proofs.YtekplhhkbeemnaaDoorW.PrintWords Go.Proofs.YtekplhhkbeemnaaDoorW.PrintLast
/-! ### The digest: its blocks, its bytes -/
open Go.Proofs.YtekplhhkbeemnaaDoorW
section
variable {P : Program} {ops : Array Oper} {o : Oper} {a : Act} {rest : List Oper} {w : World} {Q : Act → Prop}
theorem still_load (N : Option Tmp) (ty : TypeId) (x : Operand) (hN : o.dst = N) (ho : o.op = .load ty x) (hw : Region.wanted o (yielded ops a.tmps) = true)
    (g : Nat) (hx : a.eval x = .pointer (some ⟨g, 0, none⟩)) (t : TypeId) (cs : Array Value) (fr : Nat × Nat) (d : TypeDesc) (hg : w.heap[g]? = some (.cells cs t fr))
    (hu : P.underlying ty = some d) (hd : (match d with | .struct _ | .array _ _ => true | _ => false) = true) (hi : (P.info? ty).map (·.size) = some cs.size)
    (h : wpStill P ops w Q rest (a.put N (.agg cs))) : wpStill P ops w Q (o :: rest) a := by
  subst hN
  refine wpStill_step (fun K hK => ?_)
  rw [if_pos hw]
  unfold Oper.still execOp
  simp only [ho, hx, Instr.loadAt, Instr.sureAddr, Sem.run_bind, Sem.run_pure, Result.andThen_ok, run_loadVar_row w g t ty cs fr d hg hu hd hi]
  exact ⟨rfl, hK _ h⟩
end
def FIRST : List Int := [1779033703, 3144134277, 1013904242, 2773480762, 1359893119, 2600822924, 528734635, 1541459225]
theorem first_eight : Eight FIRST := eight_of rfl (fun m hm => by
  have h : m = 0 ∨ m = 1 ∨ m = 2 ∨ m = 3 ∨ m = 4 ∨ m = 5 ∨ m = 6 ∨ m = 7 := by omega
  rcases h with rfl | rfl | rfl | rfl | rfl | rfl | rfl | rfl <;> exact ⟨by decide, by decide⟩)
/-- The state behind m blocks. -/
def stateN (p : ByteArray) : Nat → List Int
  | 0 => FIRST
  | m + 1 => blkV (stateN p m) (p.extract (64 * m) (64 * m + 64)) KEYS
theorem stateN_eight (p : ByteArray) : ∀ m, Eight (stateN p m)
  | 0 => first_eight
  | m + 1 => blkV_eight (stateN_eight p m) _ _
/-- The bytes of the state. -/
def outB : List Int → List Int
  | [] => []
  | x :: l => (x / 16777216 % 256) :: (x / 65536 % 256) :: (x / 256 % 256) :: (x % 256) :: outB l
theorem outB_len : ∀ l : List Int, (outB l).length = 4 * l.length
  | [] => rfl
  | x :: l => by simp only [outB, List.length_cons, outB_len l]; omega
theorem outB_get : ∀ (l : List Int) (m : Nat), m < l.length → (outB l).getD (4 * m) 0 = l.getD m 0 / 16777216 % 256 ∧ (outB l).getD (4 * m + 1) 0 = l.getD m 0 / 65536 % 256 ∧ (outB l).getD (4 * m + 2) 0 = l.getD m 0 / 256 % 256 ∧ (outB l).getD (4 * m + 3) 0 = l.getD m 0 % 256
  | [], m, h => absurd h (by simp)
  | x :: l, 0, h => ⟨rfl, rfl, rfl, rfl⟩
  | x :: l, m + 1, h => by
    have ih := outB_get l m (by simpa using h)
    have e0 : 4 * (m + 1) = (4 * m) + 1 + 1 + 1 + 1 := by omega
    have e1 : 4 * (m + 1) + 1 = (4 * m + 1) + 1 + 1 + 1 + 1 := by omega
    have e2 : 4 * (m + 1) + 2 = (4 * m + 2) + 1 + 1 + 1 + 1 := by omega
    have e3 : 4 * (m + 1) + 3 = (4 * m + 3) + 1 + 1 + 1 + 1 := by omega
    rw [e3, e2, e1, e0]
    simp only [outB, List.getD_cons_succ]
    exact ih
def digV (t : ByteArray) : ByteArray := strOfNums (outB (stateN (padV t) ((padV t).size / 64)))
theorem padV_size (t : ByteArray) : (padV t).size % 64 = 0 ∧ (padV t).size ≤ t.size + 200 ∧ t.size + 9 ≤ (padV t).size := by
  have h : (padV t).size = t.size + (1 + padZ t.size) + 8 := by
    unfold padV padL
    rw [strOfNums_size, List.length_append, padB_len]
    rfl
  have hz := padZ_lt t.size
  have hd := padZ_done t.size
  omega
structure DS (w0 w : World) (bh bk : Nat) (h : List Int) : Prop where
  hb : Blk w bh 42 h
  kb : Blk w bk 45 KEYS
  be : Below w0.heap.size w0 w
  le : w0.heap.size ≤ bh
  ne : bh < bk
section
variable {w0 w w' : World} {bh bk : Nat} {h : List Int}
theorem DS.below (s : DS w0 w bh bk h) (hb : Below w.heap.size w w') : DS w0 w' bh bk h :=
  ⟨⟨(hb.block bh s.hb.lt).trans s.hb.heap⟩, ⟨(hb.block bk s.kb.lt).trans s.kb.heap⟩, s.be.trans (hb.mono s.be.size), s.le, s.ne⟩
theorem DS.drew (s : DS w0 w bh bk h) : DS w0 w.drew bh bk h := ⟨s.hb.drew, s.kb.drew, s.be.drew, s.le, s.ne⟩
theorem DS.setRow (s : DS w0 w bh bk h) (h' : List Int) : DS w0 (w.setRow bh (u32c h')) bh bk h' :=
  ⟨⟨setRow_heap w bh _ _ 42 _ s.hb.heap⟩, ⟨(setRow_other w bh bk _ (by have := s.ne; omega)).trans s.kb.heap⟩, below_setRow s.be s.le _, s.le, s.ne⟩
theorem DS.store (s : DS w0 w bh bk h) (h' : List Int) (hl : h.length = 8) (hl' : h'.length = 8) :
    (Instr.storeAt 42 (.pointer (some ⟨bh, 0, none⟩)) (.agg (u32c h'))).run Tryd.prog w = .ok () (w.setRow bh (u32c h')) := by
  simp only [Instr.storeAt, Instr.sureAddr, Sem.run_bind, Sem.run_pure, Result.andThen]
  exact run_storeVar_row w bh 42 42 (u32c h) (u32c h') s.hb.heap (by rw [u32c_size, hl']; kernel_rfl) (by rw [u32c_size, u32c_size, hl, hl']) (u32c_cells h')
end
structure DO (w0 w : World) (bh : Nat) (v : Value) (l h : List Int) : Prop where
  row : (Kd.int .u8).R 5 w w0.heap.size (fun k => k ≠ bh) v l
  hb : Blk w bh 42 h
  kb : Below w0.heap.size w0 w
section
variable {w0 w : World} {bh : Nat} {v : Value} {l h : List Int}
theorem DO.setO {g n cap : Nat} (s : DO w0 w bh (.slice (some ⟨g, 0, none⟩) n cap) l h) (i : Nat) (x : Int) : DO w0 (w.setCell ⟨g, i, none⟩ (.int .u8 x)) bh (.slice (some ⟨g, 0, none⟩) n cap) (l.set i x) h := by
  have hp := (Kd.R_putg s.row (i : Int) x).1
  have hg : g ≠ bh := s.row.1 g rfl
  have hle : w0.heap.size ≤ g := Kd.R_base s.row g rfl
  exact ⟨hp, s.hb.other _ _ (fun e => hg e.symm), s.kb.setCell (p := ⟨g, i, none⟩) hle _⟩
theorem DO.form (s : DO w0 w bh v l h) (hl : l.length = 32) : ∃ g cap, v = .slice (some ⟨g, 0, none⟩) l.length cap := by
  obtain ⟨g, cap, he, _⟩ := Kd.R_form s.row (by omega)
  exact ⟨g, cap, he⟩
theorem DO.ocell {g n cap : Nat} (s : DO w0 w bh (.slice (some ⟨g, 0, none⟩) n cap) l h) (i : Nat) (hi : i < l.length) : w.cell? ⟨g, i, none⟩ = some (.int .u8 (l.getD i 0)) ∧ w.frozen? ⟨g, i, none⟩ = false := by
  obtain ⟨hn, _⟩ := Kd.R_reads' s.row
  exact Kd.R_celln 0 s.row (i : Int) (by omega) (by omega)
theorem DO.start {bk : Nat} {w2 : World} (s : DS w0 w bh bk h) (hr : (Kd.int .u8).R 5 w2 w.heap.size (fun _ => True) v l) (hb : Below w.heap.size w w2) : DO w0 w2 bh v l h := by
  have s2 := s.below hb
  refine ⟨?_, s2.hb, s2.be⟩
  refine Kd.R_of_own (Kd.own_of_R (Kd.R_lower hr s.be.size)) (fun k hk => ?_)
  have := Kd.R_base hr k hk
  have := s.hb.lt
  omega
end
set_option maxHeartbeats 4000000 in
set_option maxRecDepth 100000 in
theorem first_walk (w : World) : Calls Tryd.prog 39 #[] w fun e w' => e = .returned (.agg (u32c FIRST)) ∧ Below w.heap.size w w' := by
  obtain ⟨F, hF⟩ : ∃ F, u32c FIRST = F := ⟨_, rfl⟩
  rw [hF]
  have hF' : (#[.int .u32 1779033703, .int .u32 3144134277, .int .u32 1013904242, .int .u32 2773480762, .int .u32 1359893119, .int .u32 2600822924, .int .u32 528734635, .int .u32 1541459225] : Array Value) = F := by rw [← hF]; rfl
  have HF := Aside0.mk hF'
  clear hF hF'
  go_enter Tryd.func39, Tryd.ntmps39
  go_wp2
  refine bodyPost_ret (v := .agg #[.int .u32 1779033703, .int .u32 3144134277, .int .u32 1013904242, .int .u32 2773480762, .int .u32 1359893119, .int .u32 2600822924, .int .u32 528734635, .int .u32 1541459225]) (by simp [results, Tryd.results39, go_sem]) rfl ⟨by rw [HF.out], below_alloc (Below.refl _ _) _⟩

end Go.Proofs.YtekplhhkbeemnaaDoor.Sha
