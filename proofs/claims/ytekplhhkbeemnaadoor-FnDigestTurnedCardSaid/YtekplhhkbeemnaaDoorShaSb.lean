-- Written by a program of this session (sha.sh): no printed text.
import Derived.Test.YtekplhhkbeemnaaDoorProg
import Derived.Test.YtekplhhkbeemnaaDoorWWords
import Derived.Test.YtekplhhkbeemnaaDoorWLast
import Derived.Test.YtekplhhkbeemnaaDoorWTab
import Derived.Test.YtekplhhkbeemnaaDoorWFour
import Derived.Test.YtekplhhkbeemnaaDoorWQPut
import Derived.Test.YtekplhhkbeemnaaDoorWApart
import Derived.Test.YtekplhhkbeemnaaDoorWArr
import Derived.Test.YtekplhhkbeemnaaDoorWZeros
import Derived.Test.YtekplhhkbeemnaaDoorWFoot
import Derived.Test.YtekplhhkbeemnaaDoorWKept
import Derived.Test.YtekplhhkbeemnaaDoorWShare
import Derived.Test.YtekplhhkbeemnaaDoorWN
import Derived.Test.YtekplhhkbeemnaaDoorWFootNe
import Derived.Test.YtekplhhkbeemnaaDoorWAt
import Derived.Test.YtekplhhkbeemnaaDoorWEqStruct
import Derived.Test.YtekplhhkbeemnaaDoorWRepsOne
import Derived.Test.YtekplhhkbeemnaaDoorWInv
import Derived.Test.YtekplhhkbeemnaaDoorWInvWords
import Derived.Test.YtekplhhkbeemnaaDoorWGuard
import Derived.Test.YtekplhhkbeemnaaDoorWNEv
import Derived.Test.YtekplhhkbeemnaaDoorWMore
import Derived.Below
import Derived.Deep.Draws
import Derived.Deep.AppendLies
import Derived.Tactics
import Derived.Lib.ConvBytes
import Derived.Laws.Slices
import Derived.WalkKit
import Derived.StillTailTactics
import Derived.Laws.CopyOwn
import Derived.KernelRfl
import Derived.RowKit3
import Derived.Deep.LoopGhost
import Derived.Deep.QuietTactic
import Derived.BigQuiet
import Derived.WideLaws
import Derived.Deep.Onto
import Derived.Deep.WholeRow
import Derived.Laws.Rows
import Derived.Laws.IdiomStrings
import Derived.Laws.BitsLemmas
import Derived.Laws.NewBlocks
import Derived.WalkLawsBesides
import Derived.Test.YtekplhhkbeemnaaDoorShaKeys
set_option linter.unusedVariables false
set_option linter.unusedSimpArgs false
namespace Go.Proofs.YtekplhhkbeemnaaDoor.Sha
open Go.RowKit Go.Proofs.YtekplhhkbeemnaaDoorW.PrintWords Go.Proofs.YtekplhhkbeemnaaDoorW.PrintLast
/-! ### A row of ints handed on, beside an array of eight -/
open Go.Proofs.YtekplhhkbeemnaaDoorW
structure SB (w0 w : World) (bh : Nat) (v : Value) (l h : List Int) : Prop where
  row : (Kd.int .i64).R 3 w w0.heap.size (fun k => k ≠ bh) v l
  hb : Blk w bh 42 h
  kb : Below w0.heap.size w0 w
  le : w0.heap.size ≤ bh
section
variable {w0 w : World} {bh : Nat} {v : Value} {l h : List Int}
theorem SB.start (hr : (Kd.int .i64).R 3 w w0.heap.size (fun _ => True) v l) (hb : Below w0.heap.size w0 w) (hl : List Int) : SB w0 (w.alloc (.cells (u32c hl) 42)) w.heap.size v l hl := by
  refine ⟨?_, Blk.new w 42 hl, below_alloc hb _, hb.size⟩
  exact Kd.R_of_own (Kd.own_of_R (Kd.R_alloc hr _)) (fun k hk => by have := Kd.R_lt hr k hk; omega)
theorem SB.setH (s : SB w0 w bh v l h) (i : Nat) (x : Int) : SB w0 (w.setCell ⟨bh, i, none⟩ (.int .u32 x)) bh v l (h.set i x) :=
  ⟨Kd.R_far s.row (fun k hk => hk) _, s.hb.set i x, s.kb.setCell (p := ⟨bh, i, none⟩) s.le _, s.le⟩
theorem SB.setO {g n cap : Nat} (s : SB w0 w bh (.slice (some ⟨g, 0, none⟩) n cap) l h) (i : Nat) (x : Int) : SB w0 (w.setCell ⟨g, i, none⟩ (.int .i64 x)) bh (.slice (some ⟨g, 0, none⟩) n cap) (l.set i x) h := by
  have hp := (Kd.R_putg s.row (i : Int) x).1
  have hg : g ≠ bh := s.row.1 g rfl
  have hle : w0.heap.size ≤ g := Kd.R_base s.row g rfl
  exact ⟨hp, s.hb.other _ _ (fun e => hg e.symm), s.kb.setCell (p := ⟨g, i, none⟩) hle _, s.le⟩
theorem SB.below {w' : World} (s : SB w0 w bh v l h) (hb : Below w.heap.size w w') : SB w0 w' bh v l h :=
  ⟨Kd.R_below s.row hb, ⟨(hb.block bh s.hb.lt).trans s.hb.heap⟩, s.kb.trans (hb.mono s.kb.size), s.le⟩
theorem SB.drewN (s : SB w0 w bh v l h) (n : Nat) : SB w0 (w.drewN n) bh v l h := ⟨Kd.R_drewN s.row n, s.hb.drewN n, pw_below_drewN s.kb n, s.le⟩
theorem SB.drew (s : SB w0 w bh v l h) : SB w0 w.drew bh v l h := ⟨Kd.R_drew s.row, s.hb.drew, s.kb.drew, s.le⟩
theorem SB.drawn {w' : World} (s : SB w0 w bh v l h) (hd : Drawn0 w w') : SB w0 w' bh v l h := by obtain ⟨n, rfl⟩ := hd.out; exact s.drewN n
theorem SB.setRow (s : SB w0 w bh v l h) (h' : List Int) : SB w0 (w.setRow bh (u32c h')) bh v l h' :=
  ⟨Kd.R_step s.row (fun k hk _ => setRow_other w bh k _ hk), ⟨setRow_heap w bh _ _ 42 _ s.hb.heap⟩, below_setRow s.kb s.le _, s.le⟩
theorem SB.done (s : SB w0 w bh v l h) : (Kd.int .i64).R 3 w w0.heap.size (fun _ => True) v l ∧ Below w0.heap.size w0 w := ⟨Kd.R_mono s.row (fun _ _ => trivial), s.kb⟩
theorem SB.form (s : SB w0 w bh v l h) (hl : l.length = 8) : ∃ g cap, v = .slice (some ⟨g, 0, none⟩) l.length cap := by
  obtain ⟨g, cap, he, _⟩ := Kd.R_form s.row (by omega)
  exact ⟨g, cap, he⟩
theorem SB.ocell {g n cap : Nat} (s : SB w0 w bh (.slice (some ⟨g, 0, none⟩) n cap) l h) (i : Nat) (hi : i < l.length) : w.cell? ⟨g, i, none⟩ = some (.int .i64 (l.getD i 0)) ∧ w.frozen? ⟨g, i, none⟩ = false := by
  obtain ⟨hn, _⟩ := Kd.R_reads' s.row
  exact Kd.R_celln 0 s.row (i : Int) (by omega) (by omega)
end
/-- The first m of A, then B's from there. -/
def mix (A B : List Int) (m : Nat) : List Int := A.take m ++ B.drop m
theorem mix_len (A B : List Int) (m : Nat) (h : A.length = B.length) (hm : m ≤ A.length) : (mix A B m).length = A.length := by
  unfold mix; rw [List.length_append, List.length_take, List.length_drop]; omega
theorem mix_zero (A B : List Int) : mix A B 0 = B := by simp [mix]
theorem mix_all (A B : List Int) (m : Nat) (h : A.length = B.length) (hm : m = A.length) : mix A B m = A := by
  unfold mix; rw [List.take_of_length_le (by omega), List.drop_eq_nil_of_le (by omega), List.append_nil]
theorem mix_set (A B : List Int) (m : Nat) (h : A.length = B.length) (hm : m < A.length) : (mix A B m).set m (A.getD m 0) = mix A B (m + 1) := by
  unfold mix
  rw [List.set_append_right _ _ (by rw [List.length_take]; omega), List.take_succ_eq_append_getElem hm, List.append_assoc]
  congr 1
  have e : m - (A.take m).length = 0 := by rw [List.length_take]; omega
  rw [e, List.drop_eq_getElem_cons (show m < B.length by omega), List.set_cons_zero]
  simp [List.getD_eq_getElem?_getD, hm]
def inR (l : List Int) : Bool := l.all fun x => decide (0 ≤ x) && decide (x ≤ 4294967295)
theorem inR_get {l : List Int} (h : inR l = true) (m : Nat) (hm : m < l.length) : In32 (l.getD m 0) := by
  have := (List.all_eq_true.1 h) l[m] (List.getElem_mem hm)
  simp at this
  rw [List.getD_eq_getElem?_getD, List.getElem?_eq_getElem hm]
  exact this
theorem inR_not {l : List Int} (m : Nat) (hm : m < l.length) (h : ¬ In32 (l.getD m 0)) : inR l = false := by
  cases hc : inR l with
  | false => rfl
  | true => exact absurd (inR_get hc m hm) h
theorem inR_of {l : List Int} (h : ∀ m, m < l.length → In32 (l.getD m 0)) : inR l = true := by
  unfold inR
  rw [List.all_eq_true]
  intro x hx
  obtain ⟨i, hi, rfl⟩ := List.mem_iff_getElem.1 hx
  have := h i hi
  rw [List.getD_eq_getElem?_getD, List.getElem?_eq_getElem hi] at this
  simp at this ⊢
  exact this
theorem eight_of {l : List Int} (hl : l.length = 8) (h : ∀ m, m < 8 → In32 (l.getD m 0)) : Eight l := by
  match l, hl with
  | [a, b, c, d, e, f, g, hh], _ =>
    exact ⟨a, b, c, d, e, f, g, hh, rfl, h 0 (by omega), h 1 (by omega), h 2 (by omega), h 3 (by omega), h 4 (by omega), h 5 (by omega), h 6 (by omega), h 7 (by omega)⟩
theorem Eight.get {l : List Int} (h : Eight l) (m : Nat) : In32 (l.getD m 0) := by
  obtain ⟨a, b, c, d, e, f, g, hh, rfl, ia, ib, ic, id, ie, iff_, ig, ih⟩ := h
  match m with
  | 0 => exact ia
  | 1 => exact ib
  | 2 => exact ic
  | 3 => exact id
  | 4 => exact ie
  | 5 => exact iff_
  | 6 => exact ig
  | 7 => exact ih
  | n + 8 => exact ⟨by simp, by simp⟩
theorem plusN_in {s h : List Int} (hh : ∀ j, In32 (h.getD j 0)) : ∀ (m : Nat) (j : Nat), In32 ((plusN s m h).getD j 0)
  | 0, j => hh j
  | m + 1, j => by rw [plusN]; exact getD_set _ _ _ _ (add_in _ _) (plusN_in hh m)
theorem blkV_eight {hs : List Int} (h : Eight hs) (s : ByteArray) (ks : List Int) : Eight (blkV hs s ks) :=
  eight_of (by rw [blkV, plusN_len, h.len]) (fun m _ => plusN_in h.get 8 m)
/-- What both ShaBlock answer. -/
def shaB (l : List Int) (s : ByteArray) : List Int := if l.length = 8 ∧ s.size = 64 ∧ inR l = true then blkV l s KEYS else l
theorem l01In_yes (x : Int) (w : World) (h0 : 0 ≤ x) (h1 : x ≤ 4294967295) : Calls Tryd.prog 33 #[.int .i64 x, .int .i64 0, .int .i64 4294967295] w fun e w' => e = .returned (.bool true) ∧ w = w' := by
  have d0 := decide_eq_true h0
  have d1 := decide_eq_true h1
  go_enter Tryd.func33, Tryd.ntmps33
  go_wp2
  go_ret
  exact ⟨rfl, rfl⟩
theorem l01In_no (x : Int) (w : World) (h : x < 0 ∨ 4294967295 < x) : Calls Tryd.prog 33 #[.int .i64 x, .int .i64 0, .int .i64 4294967295] w fun e w' => e = .returned (.bool false) ∧ w = w' := by
  by_cases h0 : 0 ≤ x
  · have d0 := decide_eq_true h0
    have d1 : decide (x ≤ 4294967295) = false := decide_eq_false (by omega)
    clear h
    go_enter Tryd.func33, Tryd.ntmps33
    go_wp2
    go_ret
    exact ⟨rfl, rfl⟩
  · have d0 := decide_eq_false h0
    clear h
    go_enter Tryd.func33, Tryd.ntmps33
    go_wp2
    go_ret
    exact ⟨rfl, rfl⟩
theorem within_yes (x : Int) (w : World) (h0 : 0 ≤ x) (h1 : x ≤ 4294967295) : Calls Tryd.prog 36 #[.int .i64 x, .int .i64 0, .int .i64 4294967295] w fun e w' => e = .returned (.bool true) ∧ w = w' := by
  have d0 := decide_eq_true h0
  have d1 := decide_eq_true h1
  go_enter Tryd.func36, Tryd.ntmps36
  go_wp2
  go_ret
  exact ⟨rfl, rfl⟩
theorem within_no (x : Int) (w : World) (h : x < 0 ∨ 4294967295 < x) : Calls Tryd.prog 36 #[.int .i64 x, .int .i64 0, .int .i64 4294967295] w fun e w' => e = .returned (.bool false) ∧ w = w' := by
  by_cases h0 : 0 ≤ x
  · have d0 := decide_eq_true h0
    have d1 : decide (x ≤ 4294967295) = false := decide_eq_false (by omega)
    clear h
    go_enter Tryd.func36, Tryd.ntmps36
    go_wp2
    go_ret
    exact ⟨rfl, rfl⟩
  · have d0 := decide_eq_false h0
    clear h
    go_enter Tryd.func36, Tryd.ntmps36
    go_wp2
    go_ret
    exact ⟨rfl, rfl⟩
/-! ### Single steps of a region that draws -/
section
variable {P : Program} {ops : Array Oper} {o : Oper} {a : Act} {Q : Exit → Act → World → Prop} {Kc : Act → World → Prop} {w : World}
theorem load_step (N : Option Tmp) (ty : TypeId) (x : Operand) (hN : o.dst = N) (ho : o.op = .load ty x) (hw : Region.wanted o (yielded ops a.tmps) = true)
    (g : Nat) (hx : a.eval x = .pointer (some ⟨g, 0, none⟩)) (t : TypeId) (cs : Array Value) (fr : Nat × Nat) (d : TypeDesc) (hg : w.heap[g]? = some (.cells cs t fr))
    (hu : P.underlying ty = some d) (hd : (match d with | .struct _ | .array _ _ => true | _ => false) = true) (hi : (P.info? ty).map (·.size) = some cs.size)
    (h : Kc (a.put N (.agg cs)) w) : if Region.wanted o (yielded ops a.tmps) = true then Oper.wp P o a w Kc Q else Kc (a.put o.dst undef) w := by
  subst hN
  rw [if_pos hw]
  exact wp_load_row ty x ho g hx t cs fr d hg hu hd hi h
theorem store_step {w' : World} (t : TypeId) (x y : Operand) (X Y : Value) (ho : o.op = .store t x y) (hd : o.dst = none) (hw : Region.wanted o (yielded ops a.tmps) = true)
    (hx : a.eval x = X) (hy : a.eval y = Y) (hrun : (Instr.storeAt t X Y).run P w = .ok () w') (h : Kc a w') : if Region.wanted o (yielded ops a.tmps) = true then Oper.wp P o a w Kc Q else Kc (a.put o.dst undef) w := by
  rw [if_pos hw]
  unfold Oper.wp
  simp [execOp, ho, hx, hy, hrun, Result.andThen]
  have e : a.put o.dst undef = a := by rw [hd]; rfl
  rw [Oper.upon_skip, e]
  exact h
end
theorem SB.store {w0 w : World} {bh : Nat} {v : Value} {l h : List Int} (s : SB w0 w bh v l h) (h' : List Int) (hl : h.length = 8) (hl' : h'.length = 8) :
    (Instr.storeAt 42 (.pointer (some ⟨bh, 0, none⟩)) (.agg (u32c h'))).run Tryd.prog w = .ok () (w.setRow bh (u32c h')) := by
  simp only [Instr.storeAt, Instr.sureAddr, Sem.run_bind, Sem.run_pure, Result.andThen]
  exact run_storeVar_row w bh 42 42 (u32c h) (u32c h') s.hb.heap (by rw [u32c_size, hl']; kernel_rfl) (by rw [u32c_size, u32c_size, hl, hl']) (u32c_cells h')
theorem info42 {h : List Int} (hl : h.length = 8) : (Tryd.prog.info? 42).map (·.size) = some (u32c h).size := by rw [u32c_size, hl]; kernel_rfl
theorem info45 {h : List Int} (hl : h.length = 64) : (Tryd.prog.info? 45).map (·.size) = some (u32c h).size := by rw [u32c_size, hl]; kernel_rfl
theorem quiet_drawn {P : Program} {f : FuncId} {args : Array Value} {w : World} {n : Nat} {v : Value}
    (h : Calls P f args (w.drewN n) fun e w' => e = .returned v ∧ Drawn0 (w.drewN n) w') : Calls P f args (w.drewN n) fun e w'' => e = .returned v ∧ ∃ m, w'' = w.drewN m :=
  Calls.quiet_of (h.mono fun _ _ ⟨he, hd⟩ => ⟨he, hd.out⟩)
/-- The numbers of the rounds lie in the program's own table. -/
structure Rt (w : World) : Prop where
  heap : ∃ t fr, w.heap[0]? = some (.cells (u32c KEYS) t fr)
theorem Rt.on {w w' : World} (h : Rt w) (hb : Below w.heap.size w w') : Rt w' := by
  obtain ⟨t, fr, hh⟩ := h.heap
  exact ⟨t, fr, (hb.block 0 (Array.getElem?_eq_some_iff.1 hh).1).trans hh⟩
theorem Rt.cell {w : World} (h : Rt w) (j : Nat) (hj : j < 64) : w.cell? ⟨0, j, none⟩ = some (.int .u32 (KEYS.getD j 0)) := by
  obtain ⟨t, fr, hh⟩ := h.heap
  exact (cell_of_row w 0 j _ t fr hh).trans (u32c_get KEYS j hj)
theorem run_index_u32 (l : List Int) (m : Nat) (hl : l.length = 64) (hm : m < 64) (w : World) : (Instr.index 45 (.agg (u32c l)) (.int .i64 (m : Int))).run Tryd.prog w = .ok (.int .u32 (l.getD m 0)) w := by
  have h1 : ∀ w_, (isAgg 41).run Tryd.prog w_ = .ok false w_ := fun w_ => by
    unfold isAgg
    rw [Sem.run_bind, run_underlying Tryd.underlying41 w_]
    rfl
  have h2 : ∀ w_, (sizeOf 41).run Tryd.prog w_ = .ok 1 w_ := fun w_ => by
    have h : (Tryd.prog.info? 41).map (·.size) = some 1 := by kernel_rfl
    cases hq : Tryd.prog.info? 41 with
    | none => simp [hq] at h
    | some i =>
      have hs : i.size = 1 := by simpa [hq] using h
      simp [sizeOf, typeInfo, hq, hs]
  have h3 : (u32c l)[m * 1]? = some (.int .u32 (l.getD m 0)) := by rw [Nat.mul_one]; exact u32c_get l m (by omega)
  have hb : 0 ≤ (m : Int) ∧ (m : Int) < 64 := by omega
  simp [Instr.index, asIntOf, Sem.run_bind, run_underlying Tryd.underlying45, hb, h2, part, h1, hm]
  rw [Nat.mul_one] at h3
  rw [h3]
  rfl
theorem xor_comm32 (a b : Int) : Go.bits .xor .u32 a b = Go.bits .xor .u32 b a := by
  show IntKind.u32.wrap ((BitVec.ofInt 32 a ^^^ BitVec.ofInt 32 b).toNat : Int) = IntKind.u32.wrap ((BitVec.ofInt 32 b ^^^ BitVec.ofInt 32 a).toNat : Int)
  rw [BitVec.xor_comm]

end Go.Proofs.YtekplhhkbeemnaaDoor.Sha
