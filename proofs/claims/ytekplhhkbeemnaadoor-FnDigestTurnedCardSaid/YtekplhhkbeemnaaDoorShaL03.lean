-- Written by a program of this session (sha.sh): no printed text.
import Derived.Test.YtekplhhkbeemnaaDoorProg
import Derived.Test.YtekplhhkbeemnaaDoorWWords
import Derived.Test.YtekplhhkbeemnaaDoorWLast
import Derived.Test.YtekplhhkbeemnaaDoorWTab
import Derived.Test.YtekplhhkbeemnaaDoorWFour
import Derived.Test.YtekplhhkbeemnaaDoorWQPut
import Derived.Test.YtekplhhkbeemnaaDoorWApart
import Derived.Test.YtekplhhkbeemnaaDoorWArr
import Derived.Test.YtekplhhkbeemnaaDoorWZeros
import Derived.Test.YtekplhhkbeemnaaDoorWFoot
import Derived.Test.YtekplhhkbeemnaaDoorWKept
import Derived.Test.YtekplhhkbeemnaaDoorWShare
import Derived.Test.YtekplhhkbeemnaaDoorWN
import Derived.Test.YtekplhhkbeemnaaDoorWFootNe
import Derived.Test.YtekplhhkbeemnaaDoorWAt
import Derived.Test.YtekplhhkbeemnaaDoorWEqStruct
import Derived.Test.YtekplhhkbeemnaaDoorWRepsOne
import Derived.Test.YtekplhhkbeemnaaDoorWInv
import Derived.Test.YtekplhhkbeemnaaDoorWInvWords
import Derived.Test.YtekplhhkbeemnaaDoorWGuard
import Derived.Test.YtekplhhkbeemnaaDoorWNEv
import Derived.Test.YtekplhhkbeemnaaDoorWMore
import Derived.Below
import Derived.Deep.Draws
import Derived.Deep.AppendLies
import Derived.Tactics
import Derived.Lib.ConvBytes
import Derived.Laws.Slices
import Derived.WalkKit
import Derived.StillTailTactics
import Derived.Laws.CopyOwn
import Derived.KernelRfl
import Derived.RowKit3
import Derived.Deep.LoopGhost
import Derived.Deep.QuietTactic
import Derived.BigQuiet
import Derived.WideLaws
import Derived.Deep.Onto
import Derived.Deep.WholeRow
import Derived.Laws.Rows
import Derived.Laws.IdiomStrings
import Derived.Laws.BitsLemmas
import Derived.Laws.NewBlocks
import Derived.WalkLawsBesides
import Derived.Test.YtekplhhkbeemnaaDoorShaTurn
set_option linter.unusedVariables false
set_option linter.unusedSimpArgs false
namespace Go.Proofs.YtekplhhkbeemnaaDoor.Sha
open Go.RowKit Go.Proofs.YtekplhhkbeemnaaDoorW.PrintWords Go.Proofs.YtekplhhkbeemnaaDoorW.PrintLast
/-! ### Arrays of 32-bit numbers in blocks of the call's own -/
def u32c (l : List Int) : Array Value := (l.map (Value.int .u32)).toArray
theorem u32c_size (l : List Int) : (u32c l).size = l.length := by simp [u32c]
theorem u32c_get (l : List Int) (j : Nat) (h : j < l.length) : (u32c l)[j]? = some (.int .u32 (l.getD j 0)) := by
  unfold u32c
  rw [List.getElem?_toArray, List.getElem?_map, List.getElem?_eq_getElem h, List.getD_eq_getElem?_getD, List.getElem?_eq_getElem h]
  rfl
/-- Block b holds these numbers. -/
structure Blk (w : World) (b t : Nat) (l : List Int) : Prop where
  heap : w.heap[b]? = some (.cells (u32c l) t (0, 0))
section
variable {w w' : World} {b t : Nat} {l : List Int}
theorem Blk.lt (h : Blk w b t l) : b < w.heap.size := (Array.getElem?_eq_some_iff.1 h.heap).1
theorem Blk.cell (h : Blk w b t l) (j : Nat) (hj : j < l.length) : w.cell? ⟨b, j, none⟩ = some (.int .u32 (l.getD j 0)) := (cell_of_row w b j _ t _ h.heap).trans (u32c_get l j hj)
theorem Blk.free (h : Blk w b t l) (j : Nat) : w.frozen? ⟨b, j, none⟩ = false := frozen_of_row w b j _ t h.heap
theorem Blk.of_heap (h : Blk w b t l) (e : w'.heap = w.heap) : Blk w' b t l := ⟨by rw [e]; exact h.heap⟩
theorem Blk.drewN (h : Blk w b t l) (n : Nat) : Blk (w.drewN n) b t l := ⟨h.heap⟩
theorem Blk.drew (h : Blk w b t l) : Blk w.drew b t l := ⟨h.heap⟩
theorem Blk.alloc (h : Blk w b t l) (o : Obj) : Blk (w.alloc o) b t l := ⟨(Below.heap_alloc w o _ h.lt).trans h.heap⟩
theorem Blk.set (h : Blk w b t l) (i : Nat) (v : Int) : Blk (w.setCell ⟨b, i, none⟩ (.int .u32 v)) b t (l.set i v) := by
  refine ⟨(heap_setCell_same w b i (u32c l) t (.int .u32 v) h.heap).trans ?_⟩
  congr 2
  unfold u32c
  rw [List.setIfInBounds_toArray, List.map_set]
theorem Blk.other (h : Blk w b t l) (a : Addr) (v : Value) (hne : b ≠ a.block) : Blk (w.setCell a v) b t l := ⟨(heap_setCell_other w a b v hne).trans h.heap⟩
theorem Blk.new (w : World) (t : Nat) (l : List Int) : Blk (w.alloc (.cells (u32c l) t)) w.heap.size t l := ⟨heap_alloc_new w _⟩
end
def sg0 (x : Int) : Int := Go.bits .xor .u32 (Go.bits .xor .u32 (rot 7 x) (rot 18 x)) (x / 8)
def sg1 (x : Int) : Int := Go.bits .xor .u32 (Go.bits .xor .u32 (rot 17 x) (rot 19 x)) (x / 1024)
def SG1 (x : Int) : Int := Go.bits .xor .u32 (Go.bits .xor .u32 (rot 6 x) (rot 11 x)) (rot 25 x)
def SG0 (x : Int) : Int := Go.bits .xor .u32 (Go.bits .xor .u32 (rot 2 x) (rot 13 x)) (rot 22 x)
def chV (e f g : Int) : Int := Go.bits .xor .u32 (Go.bits .and .u32 e f) (Go.bits .and .u32 (Go.bits .xor .u32 e 4294967295) g)
def majV (a b c : Int) : Int := Go.bits .xor .u32 (Go.bits .xor .u32 (Go.bits .and .u32 a b) (Go.bits .and .u32 a c)) (Go.bits .and .u32 b c)
def add32 (x y : Int) : Int := (x + y) % 4294967296
def In32 (x : Int) : Prop := 0 ≤ x ∧ x ≤ 4294967295
theorem bits_in (o : BinOp) (x y : Int) : In32 (Go.bits o .u32 x y) := by
  have h : ∀ z : Int, IntKind.u32.wrap z = z % 4294967296 := fun z => IntKind.wrap_u32 z
  unfold Go.bits
  constructor
  · cases o <;> (simp only [h]; omega)
  · cases o <;> (simp only [h]; omega)
theorem add_in (x y : Int) : In32 (add32 x y) := by unfold add32 In32; omega
theorem rot_in (n : Nat) (x : Int) : In32 (rot n x) := bits_in _ _ _
/-! ### Single operations by a told fact (great arrays stay closed) -/
section
variable {P : Program}
theorem wpList_build_f (w : World) {ops : Array Oper} {rest : List Oper} {o : Oper} {a : Act} {Q : Exit → Act → World → Prop} (hgd : o.guard = none) (t : TypeId) (v : Value) (ho : o.op = .build t #[])
    (hrun : ∀ w_, (Instr.build t #[]).run P w_ = .ok v w_) (hK : wpList P ops Q rest (a.put o.dst v) w) : wpList P ops Q (o :: rest) a w := by
  refine wpList_plain hgd fun K hK' => ?_
  unfold Oper.wp
  simp [execOp, ho, hrun, Result.andThen]
  exact hK' _ _ hK
theorem wpList_alloc_f (w w' : World) {ops : Array Oper} {rest : List Oper} {o : Oper} {a : Act} {Q : Exit → Act → World → Prop} (hgd : o.guard = none) (t : TypeId) (v : Value) (ho : o.op = .alloc t)
    (hrun : (Instr.alloc t true (.tuple #[])).run P w = .ok v w') (hK : wpList P ops Q rest (a.put o.dst v) w') : wpList P ops Q (o :: rest) a w := by
  refine wpList_plain hgd fun K hK' => ?_
  unfold Oper.wp
  simp [execOp, ho, hrun, Result.andThen]
  exact hK' _ _ hK
theorem wpList_store_f (w w' : World) {ops : Array Oper} {rest : List Oper} {o : Oper} {a : Act} {Q : Exit → Act → World → Prop} (hgd : o.guard = none) (t : TypeId) (x y : Operand) (X Y : Value) (ho : o.op = .store t x y) (hd : o.dst = none)
    (hx : a.eval x = X) (hy : a.eval y = Y) (hrun : (Instr.storeAt t X Y).run P w = .ok () w') (hK : wpList P ops Q rest a w') : wpList P ops Q (o :: rest) a w := by
  refine wpList_plain hgd fun K hK' => ?_
  unfold Oper.wp
  simp [execOp, ho, hx, hy, hrun, Result.andThen]
  have e : a.put o.dst undef = a := by rw [hd]; rfl
  rw [Oper.upon_skip, e]
  exact hK' _ _ hK
end
def wordA (s : ByteArray) (a : Int) : Int :=
  Go.bits .or .u32 (Go.bits .or .u32 (Go.bits .or .u32 (bt s a % 4294967296 * 16777216 % 4294967296) (bt s (a + 1) % 4294967296 * 65536 % 4294967296)) (bt s (a + 2) % 4294967296 * 256 % 4294967296)) (bt s (a + 3) % 4294967296)
def wInit (s : ByteArray) (m : Nat) : List Int := ((List.range m).map fun (j : Nat) => wordA s (4 * (j : Int))) ++ List.replicate (64 - m) 0
theorem wInit_len (s : ByteArray) (m : Nat) (h : m ≤ 64) : (wInit s m).length = 64 := by simp [wInit]; omega
theorem wInit_set (s : ByteArray) (m : Nat) (h : m < 64) : (wInit s m).set m (wordA s (4 * (m : Int))) = wInit s (m + 1) := by
  unfold wInit
  have e : List.replicate (64 - m) (0 : Int) = 0 :: List.replicate (64 - (m + 1)) 0 := by rw [← List.replicate_succ]; congr 1; omega
  rw [List.set_append_right _ _ (by simp), e]
  simp [List.range_succ]
/-- The row made longer, one word a step: place 16 + j. -/
def wStep (l : List Int) (i : Nat) : Int := add32 (add32 (add32 (l.getD (i - 16) 0) (sg0 (l.getD (i - 15) 0))) (l.getD (i - 7) 0)) (sg1 (l.getD (i - 2) 0))
def wMore : Nat → List Int → List Int
  | 0, l => l
  | j + 1, l => (wMore j l).set (16 + j) (wStep (wMore j l) (16 + j))
theorem wMore_len : ∀ (j : Nat) (l : List Int), (wMore j l).length = l.length
  | 0, _ => rfl
  | j + 1, l => by rw [wMore, List.length_set, wMore_len j l]
theorem getD_set (l : List Int) (i j : Nat) (v : Int) : In32 v → (∀ k, In32 (l.getD k 0)) → In32 ((l.set i v).getD j 0) := by
  intro hv hl
  rw [List.getD_eq_getElem?_getD, List.getElem?_set]
  split
  · split
    · exact hv
    · exact ⟨by decide, by decide⟩
  · rw [← List.getD_eq_getElem?_getD]; exact hl j
theorem wMore_in : ∀ (j : Nat) (l : List Int), (∀ k, In32 (l.getD k 0)) → ∀ k, In32 ((wMore j l).getD k 0)
  | 0, _, h, k => h k
  | j + 1, l, h, k => by
    rw [wMore]
    exact getD_set _ _ _ _ (add_in _ _) (wMore_in j l h)
theorem wInit_in (s : ByteArray) (m : Nat) : ∀ k, In32 ((wInit s m).getD k 0) := by
  intro k
  rw [List.getD_eq_getElem?_getD]
  cases h : (wInit s m)[k]? with
  | none => exact ⟨by decide, by decide⟩
  | some x =>
    have hx := List.mem_of_getElem? h
    unfold wInit at hx
    rcases List.mem_append.1 hx with hx | hx
    · obtain ⟨j, _, rfl⟩ := List.mem_map.1 hx
      show In32 (wordA s (4 * (j : Int)))
      unfold wordA
      exact bits_in _ _ _
    · obtain ⟨_, rfl⟩ := List.mem_replicate.1 hx
      exact ⟨by decide, by decide⟩
/-! ### The rounds and the last sums -/
def rnd (k w : Int) : List Int → List Int
  | [a, b, c, d, e, f, g, h] =>
    [add32 (add32 (add32 (add32 (add32 h (SG1 e)) (chV e f g)) k) w) (add32 (SG0 a) (majV a b c)), a, b, c, add32 d (add32 (add32 (add32 (add32 h (SG1 e)) (chV e f g)) k) w), e, f, g]
  | l => l
def rndN (ks ws : List Int) : Nat → List Int → List Int
  | 0, s => s
  | m + 1, s => rnd (ks.getD m 0) (ws.getD m 0) (rndN ks ws m s)
def Eight (l : List Int) : Prop := ∃ a b c d e f g h : Int, l = [a, b, c, d, e, f, g, h] ∧ In32 a ∧ In32 b ∧ In32 c ∧ In32 d ∧ In32 e ∧ In32 f ∧ In32 g ∧ In32 h
theorem Eight.rnd {l : List Int} (h : Eight l) (k w : Int) : Eight (rnd k w l) := by
  obtain ⟨a, b, c, d, e, f, g, h, rfl, ia, ib, ic, id, ie, iff, ig, ih⟩ := h
  exact ⟨_, _, _, _, _, _, _, _, rfl, add_in _ _, ia, ib, ic, add_in _ _, ie, iff, ig⟩
theorem Eight.rndN {l : List Int} (h : Eight l) (ks ws : List Int) : ∀ m, Eight (rndN ks ws m l)
  | 0 => h
  | m + 1 => (Eight.rndN h ks ws m).rnd _ _
theorem Eight.len {l : List Int} (h : Eight l) : l.length = 8 := by obtain ⟨a, b, c, d, e, f, g, h, rfl, _⟩ := h; rfl
def plusN (s : List Int) : Nat → List Int → List Int
  | 0, h => h
  | m + 1, h => (plusN s m h).set m (add32 ((plusN s m h).getD m 0) (s.getD m 0))
theorem plusN_len (s : List Int) : ∀ (m : Nat) (h : List Int), (plusN s m h).length = h.length
  | 0, _ => rfl
  | m + 1, h => by rw [plusN, List.length_set, plusN_len s m h]
def wordsV (s : ByteArray) : List Int := wMore 48 (wInit s 16)
def blkV (hs : List Int) (s : ByteArray) (ks : List Int) : List Int := plusN (rndN ks (wordsV s) 64 hs) 8 hs
theorem u32c_cells (l : List Int) : (u32c l).all (·.oneCell') = true := by
  unfold u32c
  rw [Array.all_eq_true_iff_forall_mem]
  intro v hv
  simp at hv
  obtain ⟨x, _, rfl⟩ := hv
  rfl
/-- The five arrays of a block's walk. -/
structure Five (w0 w : World) (b0 bs : Nat) (hs ks zs W l : List Int) : Prop where
  k0 : Blk w b0 42 hs
  k1 : Blk w (b0 + 1) 45 ks
  k2 : Blk w (b0 + 1 + 1) 42 zs
  k3 : Blk w (b0 + 1 + 1 + 1) 45 W
  k4 : Blk w bs 42 l
  kb : Below b0 w0 w
  lt : b0 + 1 + 1 + 1 < bs
section
variable {w0 w : World} {b0 bs : Nat} {hs ks zs W l : List Int}
theorem Five.set (h : Five w0 w b0 bs hs ks zs W l) (i : Nat) (v : Int) : Five w0 (w.setCell ⟨bs, i, none⟩ (.int .u32 v)) b0 bs hs ks zs W (l.set i v) := by
  have := h.lt
  exact ⟨h.k0.other _ _ (by show b0 ≠ bs; omega), h.k1.other _ _ (by show b0 + 1 ≠ bs; omega), h.k2.other _ _ (by show b0 + 1 + 1 ≠ bs; omega), h.k3.other _ _ (by show b0 + 1 + 1 + 1 ≠ bs; omega), h.k4.set i v,
    h.kb.setCell (p := ⟨bs, i, none⟩) (by show b0 ≤ bs; omega) _, h.lt⟩
theorem Five.setH (h : Five w0 w b0 bs hs ks zs W l) (i : Nat) (v : Int) : Five w0 (w.setCell ⟨b0, i, none⟩ (.int .u32 v)) b0 bs (hs.set i v) ks zs W l := by
  have := h.lt
  exact ⟨h.k0.set i v, h.k1.other _ _ (by show b0 + 1 ≠ b0; omega), h.k2.other _ _ (by show b0 + 1 + 1 ≠ b0; omega), h.k3.other _ _ (by show b0 + 1 + 1 + 1 ≠ b0; omega), h.k4.other _ _ (by show bs ≠ b0; omega),
    h.kb.setCell (p := ⟨b0, i, none⟩) (Nat.le_refl _) _, h.lt⟩
theorem Five.drewN (h : Five w0 w b0 bs hs ks zs W l) (n : Nat) : Five w0 (w.drewN n) b0 bs hs ks zs W l :=
  ⟨h.k0.drewN n, h.k1.drewN n, h.k2.drewN n, h.k3.drewN n, h.k4.drewN n, pw_below_drewN h.kb n, h.lt⟩
theorem Five.drew (h : Five w0 w b0 bs hs ks zs W l) : Five w0 w.drew b0 bs hs ks zs W l :=
  ⟨h.k0.drew, h.k1.drew, h.k2.drew, h.k3.drew, h.k4.drew, h.kb.drew, h.lt⟩
end
set_option maxHeartbeats 8000000 in
set_option maxRecDepth 1000000 in
theorem l03_walk (hs ks : List Int) (s : ByteArray) (w : World) (hh : hs.length = 8) (hk : ks.length = 64) (hsz : s.size = 64) (hin8 : Eight hs) :
    Calls Tryd.prog 34 #[.agg (u32c hs), .string s, .agg (u32c ks)] w fun e w' => e = .returned (.agg (u32c (blkV hs s ks))) ∧ Below w.heap.size w w' := by
  obtain ⟨H, hH⟩ : ∃ H, u32c hs = H := ⟨_, rfl⟩
  obtain ⟨K, hK⟩ : ∃ K, u32c ks = K := ⟨_, rfl⟩
  obtain ⟨Z, hZ⟩ : ∃ Z, u32c (List.replicate 64 0) = Z := ⟨_, rfl⟩
  have hbld : ∀ w_, (Instr.build 45 #[]).run Tryd.prog w_ = .ok (.agg Z) w_ := fun w_ => run_build w_ 45 #[] Z (by rw [← hZ]; kernel_rfl)
  have hal : ∀ w_ : World, (Instr.alloc 45 true (.tuple #[])).run Tryd.prog w_ = .ok (.pointer (some ⟨w_.heap.size, 0, none⟩)) (w_.alloc (.cells Z 45)) := fun w_ => by rw [← hZ]; kernel_rfl
  obtain ⟨BV, hBV⟩ : ∃ b, blkV hs s ks = b := ⟨_, rfl⟩
  rw [hH, hK, hBV]
  have HBV := Aside0.mk hBV
  clear hBV
  have HH := Aside0.mk hh
  have H8 := Aside0.mk hin8
  have HK := Aside0.mk hk
  have HH2 := Aside0.mk hH
  have HK2 := Aside0.mk hK
  have HZ2 := Aside0.mk hZ
  clear hH hK hh hk hZ hin8
  go_enter Tryd.func34, Tryd.ntmps34
  go_upto_region 1 with (fail)
  have hb0 : Blk (((w.alloc (Obj.cells H 42)).alloc (Obj.cells K 45)).alloc (Obj.cells #[Value.int .u32 0, .int .u32 0, .int .u32 0, .int .u32 0, .int .u32 0, .int .u32 0, .int .u32 0, .int .u32 0] 42)) w.heap.size 42 hs := by
    rw [← HH2.out]
    exact ((Blk.new w 42 hs).alloc _).alloc _
  have hb1 : Blk (((w.alloc (Obj.cells H 42)).alloc (Obj.cells K 45)).alloc (Obj.cells #[Value.int .u32 0, .int .u32 0, .int .u32 0, .int .u32 0, .int .u32 0, .int .u32 0, .int .u32 0, .int .u32 0] 42)) (w.heap.size + 1) 45 ks := by
    rw [← HK2.out]
    have h := (Blk.new (w.alloc (Obj.cells H 42)) 45 ks)
    rw [show (w.alloc (Obj.cells H 42)).heap.size = w.heap.size + 1 by simp] at h
    exact h.alloc _
  have hb2 : Blk (((w.alloc (Obj.cells H 42)).alloc (Obj.cells K 45)).alloc (Obj.cells #[Value.int .u32 0, .int .u32 0, .int .u32 0, .int .u32 0, .int .u32 0, .int .u32 0, .int .u32 0, .int .u32 0] 42)) (w.heap.size + 1 + 1) 42 (List.replicate 8 0) := by
    have h := (Blk.new ((w.alloc (Obj.cells H 42)).alloc (Obj.cells K 45)) 42 (List.replicate 8 0))
    rw [show ((w.alloc (Obj.cells H 42)).alloc (Obj.cells K 45)).heap.size = w.heap.size + 1 + 1 by simp] at h
    exact h
  have hsz0 : (((w.alloc (Obj.cells H 42)).alloc (Obj.cells K 45)).alloc (Obj.cells #[Value.int .u32 0, .int .u32 0, .int .u32 0, .int .u32 0, .int .u32 0, .int .u32 0, .int .u32 0, .int .u32 0] 42)).heap.size = w.heap.size + 1 + 1 + 1 := by simp
  have hbel0 : Below w.heap.size w (((w.alloc (Obj.cells H 42)).alloc (Obj.cells K 45)).alloc (Obj.cells #[Value.int .u32 0, .int .u32 0, .int .u32 0, .int .u32 0, .int .u32 0, .int .u32 0, .int .u32 0, .int .u32 0] 42)) := below_alloc (below_alloc (below_alloc (Below.refl _ _) _) _) _
  generalize (((w.alloc (Obj.cells H 42)).alloc (Obj.cells K 45)).alloc (Obj.cells #[Value.int .u32 0, .int .u32 0, .int .u32 0, .int .u32 0, .int .u32 0, .int .u32 0, .int .u32 0, .int .u32 0] 42)) = W0 at hb0 hb1 hb2 hsz0 hbel0 ⊢
  have hst : (Instr.storeAt 45 (.pointer (some ⟨W0.heap.size, 0, none⟩)) (.agg Z)).run Tryd.prog (W0.alloc (.cells Z 45)) = .ok () (W0.alloc (.cells Z 45)) := by
    rw [← HZ2.out]
    exact run_storeAt_new W0 45 _ _ (by kernel_rfl) rfl (by kernel_rfl)
  have HB0 := Aside0.mk hb0
  have HB1 := Aside0.mk hb1
  have HB2 := Aside0.mk hb2
  have HBEL := Aside0.mk hbel0
  obtain ⟨b0, eb0⟩ : ∃ b, w.heap.size = b := ⟨_, rfl⟩
  have HS0 := Aside0.mk hsz0
  clear hb0 hb1 hb2 hbel0 hsz0
  go_upto_region 2 with (first | (refine wpList_build_f _ rfl 45 (.agg Z) rfl hbld ?_) | (refine wpList_alloc_f _ _ rfl 45 _ rfl (hal _) ?_) | (refine wpList_store_f _ _ rfl 45 _ _ _ _ rfl rfl rfl rfl hst ?_))
  simp only [Act.put, List.setIfInBounds_toArray, List.set_cons_zero, List.set_cons_succ]
  have hb0 := HB0.out.alloc (.cells Z 45)
  have hb1 := HB1.out.alloc (.cells Z 45)
  have hb2 := HB2.out.alloc (.cells Z 45)
  have hb3 : Blk (W0.alloc (.cells Z 45)) W0.heap.size 45 (List.replicate 64 0) := by rw [← HZ2.out]; exact Blk.new W0 45 _
  have hbel := below_alloc HBEL.out (.cells Z 45)
  generalize W0.alloc (.cells Z 45) = W1 at hb0 hb1 hb2 hb3 hbel ⊢
  rw [HS0.out, eb0] at hb3
  rw [HS0.out]
  rw [eb0] at hb0 hb1 hb2 hbel ⊢
  have HB0' := Aside0.mk hb0
  have HB1' := Aside0.mk hb1
  have HB2' := Aside0.mk hb2
  have HB3' := Aside0.mk hb3
  have HBEL' := Aside0.mk hbel
  clear hb0 hb1 hb2 hb3 hbel HB0 HB1 HB2 HBEL HS0 hbld hal hst
  go_wp2
  go_loopg [8] 16 (fun g v wr => Aside0 (∃ m : Nat, ∃ l : List Int, m ≤ 16 ∧ g = 16 - m ∧ v = .int .i64 m ∧ l = wInit s m ∧ Blk wr b0 42 hs ∧ Blk wr (b0 + 1) 45 ks ∧ Blk wr (b0 + 1 + 1) 42 (List.replicate 8 0) ∧ Blk wr (b0 + 1 + 1 + 1) 45 l ∧ Below b0 w wr))
  case atStart => exact ⟨0, _, by omega, rfl, rfl, rfl, HB0'.out, HB1'.out, HB2'.out, HB3'.out, HBEL'.out⟩
  case round =>
    obtain ⟨m, l, hm, hg, rfl, hl, k0, k1, k2, k3, kb⟩ := hrel.out
    clear hrel HB0' HB1' HB2' HB3' HBEL'
    have K0 := Aside0.mk k0
    have K1 := Aside0.mk k1
    have K2 := Aside0.mk k2
    have K3 := Aside0.mk k3
    have KB := Aside0.mk kb
    have HM := Aside0.mk hm
    have HG := Aside0.mk hg
    have HLL := Aside0.mk hl
    have HL := Aside0.mk (show l.length = 64 by rw [hl]; exact wInit_len s m (by omega))
    clear k0 k1 k2 k3 kb hg
    by_cases hlt : (m : Int) < 16
    · skip
      have hd := decide_eq_true hlt
      have hml : m < 16 := by omega
      have w64' : ∀ n : Int, 0 ≤ n → n ≤ 1000 → IntKind.i64.wrap n = n := fun n h0 h1 => by rw [IntKind.wrap_i64]; omega
      obtain ⟨a0, ha0⟩ : ∃ a : Int, 4 * (m : Int) = a := ⟨_, rfl⟩
      have e0 : IntKind.i64.wrap (4 * (m : Int)) = a0 := by rw [w64' _ (by omega) (by omega)]; exact ha0
      have e1 : IntKind.i64.wrap (a0 + 1) = a0 + 1 := w64' _ (by omega) (by omega)
      have e2 : IntKind.i64.wrap (a0 + 2) = a0 + 2 := w64' _ (by omega) (by omega)
      have e3 : IntKind.i64.wrap (a0 + 3) = a0 + 3 := w64' _ (by omega) (by omega)
      have p0 : (0 ≤ a0) = True := eq_true (by omega)
      have q0 : (a0 < (s.size : Int)) = True := eq_true (by omega)
      have p1 : (0 ≤ a0 + 1) = True := eq_true (by omega)
      have q1 : (a0 + 1 < (s.size : Int)) = True := eq_true (by omega)
      have p2 : (0 ≤ a0 + 2) = True := eq_true (by omega)
      have q2 : (a0 + 2 < (s.size : Int)) = True := eq_true (by omega)
      have p3 : (0 ≤ a0 + 3) = True := eq_true (by omega)
      have q3 : (a0 + 3 < (s.size : Int)) = True := eq_true (by omega)
      have x0 := bt_at s a0
      have x1 := bt_at s (a0 + 1)
      have x2 := bt_at s (a0 + 2)
      have x3 := bt_at s (a0 + 3)
      have HA := Aside0.mk ha0
      have HS := Aside0.mk hsz
      clear ha0 w64' hlt hm hl hsz
      go_upto_region 5 with (fail)
      go_still_tail 30, (by kernel_rfl)
      change wpList _ _ _ _ _ wr.drew
      clear x0 x1 x2 x3 p0 p1 p2 p3 q0 q1 q2 q3
      have D0 := Aside0.mk K0.out.drew
      have D1 := Aside0.mk K1.out.drew
      have D2 := Aside0.mk K2.out.drew
      have D3 := Aside0.mk K3.out.drew
      have DB := Aside0.mk (KB.out.drew)
      clear K0 K1 K2 K3 KB
      generalize wr.drew = w2 at D0 D1 D2 D3 DB ⊢
      have hc := D3.out.cell m (by rw [HL.out]; omega)
      have hf := D3.out.free m
      have hm64 : ((m : Int) < 64) = True := eq_true (by omega)
      have hm0 : (0 ≤ (m : Int)) = True := eq_true (by omega)
      go_upto_region 4 with (fail)
      have S0 := Aside0.mk (D0.out.other ⟨b0 + 1 + 1 + 1, m, none⟩ (.int .u32 (wordA s a0)) (by show b0 ≠ b0 + 1 + 1 + 1; omega))
      have S1 := Aside0.mk (D1.out.other ⟨b0 + 1 + 1 + 1, m, none⟩ (.int .u32 (wordA s a0)) (by show b0 + 1 ≠ b0 + 1 + 1 + 1; omega))
      have S2 := Aside0.mk (D2.out.other ⟨b0 + 1 + 1 + 1, m, none⟩ (.int .u32 (wordA s a0)) (by show b0 + 1 + 1 ≠ b0 + 1 + 1 + 1; omega))
      have S3 := Aside0.mk (D3.out.set m (wordA s a0))
      have SB := Aside0.mk (DB.out.setCell (p := ⟨b0 + 1 + 1 + 1, m, none⟩) (by show b0 ≤ b0 + 1 + 1 + 1; omega) (.int .u32 (wordA s a0)))
      change Code.wp _ _ _ _ (w2.setCell ⟨b0 + 1 + 1 + 1, m, none⟩ (.int .u32 (wordA s a0)))
      generalize w2.setCell ⟨b0 + 1 + 1 + 1, m, none⟩ (.int .u32 (wordA s a0)) = w3 at S0 S1 S2 S3 SB ⊢
      clear hc hf D0 D1 D2 D3 DB e0 e1 e2 e3 hd hm64 hm0
      have e4 : IntKind.i64.wrap ((m : Int) + 1) = ((m + 1 : Nat) : Int) := by rw [IntKind.wrap_i64]; omega
      have HML := Aside0.mk hml
      clear hml
      go_wp2
      go_roundg (16 - (m + 1))
      case measure => have := HML.out; have := HG.out; omega
      case rel => exact ⟨⟨m + 1, _, HML.out, rfl, rfl, by rw [HLL.out, ← HA.out]; exact wInit_set s m (by have := HML.out; omega), S0.out, S1.out, S2.out, S3.out, SB.out⟩⟩
    · have hm16 : m = 16 := by omega
      subst hm16
      go_upto_region 6 with (fail)
      have M0 := K0
      have M1 := K1
      have M2 := K2
      have M3 : Aside0 (Blk wr (b0 + 1 + 1 + 1) 45 (wInit s 16)) := ⟨HLL.out ▸ K3.out⟩
      have MB := KB
      clear K0 K1 K2 K3 KB HL HLL HG HM hlt hm hl
      clear l
      generalize wr = v0 at M0 M1 M2 M3 MB ⊢
      go_wp2
      go_loopg [9] 48 (fun g v wr => Aside0 (∃ m : Nat, 16 ≤ m ∧ m ≤ 64 ∧ g = 64 - m ∧ v = .int .i64 m ∧ Blk wr b0 42 hs ∧ Blk wr (b0 + 1) 45 ks ∧ Blk wr (b0 + 1 + 1) 42 (List.replicate 8 0) ∧ Blk wr (b0 + 1 + 1 + 1) 45 (wMore (m - 16) (wInit s 16)) ∧ Below b0 w wr))
      case atStart => exact ⟨16, by omega, by omega, rfl, rfl, M0.out, M1.out, M2.out, M3.out, MB.out⟩
      case round =>
        obtain ⟨m, hm0, hm, hg, rfl, k0, k1, k2, k3, kb⟩ := hrel.out
        clear hrel M0 M1 M2 M3 MB
        obtain ⟨l, hl⟩ : ∃ l, wMore (m - 16) (wInit s 16) = l := ⟨_, rfl⟩
        rw [hl] at k3
        have hll : l.length = 64 := by rw [← hl, wMore_len, wInit_len s 16 (by omega)]
        have hin : ∀ j, In32 (l.getD j 0) := by rw [← hl]; exact wMore_in _ _ (wInit_in s 16)
        have HLW := Aside0.mk hl
        have HLL := Aside0.mk hll
        have hl_ := hl
        clear hl
        by_cases hlt : (m : Int) < 64
        · clear hl_
          have hd := decide_eq_true hlt
          have w64' : ∀ n : Int, 0 ≤ n → n ≤ 1000 → IntKind.i64.wrap n = n := fun n h0 h1 => by rw [IntKind.wrap_i64]; omega
          obtain ⟨n15, h15⟩ : ∃ n : Nat, m - 15 = n := ⟨_, rfl⟩
          obtain ⟨n2, h2⟩ : ∃ n : Nat, m - 2 = n := ⟨_, rfl⟩
          have e15 : IntKind.i64.wrap ((m : Int) - 15) = (n15 : Int) := by rw [w64' _ (by omega) (by omega)]; omega
          have e2 : IntKind.i64.wrap ((m : Int) - 2) = (n2 : Int) := by rw [w64' _ (by omega) (by omega)]; omega
          have q15 : ((n15 : Int) < 64) = True := eq_true (by omega)
          have q2 : ((n2 : Int) < 64) = True := eq_true (by omega)
          have z15 : (0 ≤ (n15 : Int)) = True := eq_true (by omega)
          have z2 : (0 ≤ (n2 : Int)) = True := eq_true (by omega)
          have c15 := k3.cell n15 (by omega)
          have c2 := k3.cell n2 (by omega)
          have i15 := hin n15
          have i2 := hin n2
          obtain ⟨x15, hx15⟩ : ∃ x, l.getD n15 0 = x := ⟨_, rfl⟩
          obtain ⟨x2, hx2⟩ : ∃ x, l.getD n2 0 = x := ⟨_, rfl⟩
          rw [hx15] at c15 i15
          rw [hx2] at c2 i2
          have HX15 := Aside0.mk hx15
          have HX2 := Aside0.mk hx2
          have H15 := Aside0.mk h15
          have H2 := Aside0.mk h2
          have I15 := Aside0.mk i15
          have I2 := Aside0.mk i2
          have HIN := Aside0.mk hin
          have HLT := Aside0.mk hlt
          have HM := Aside0.mk hm0
          have HG := Aside0.mk hg
          have K0 := Aside0.mk k0
          have K1 := Aside0.mk k1
          have K2 := Aside0.mk k2
          have K3 := Aside0.mk k3
          have KB := Aside0.mk kb
          clear hx15 hx2 h15 h2 i15 i2 hin hlt hm hm0 hg k0 k1 k2 k3 kb w64' hll
          go_upto_region 9 with (fail)
          refine wp_region_quiet_lit (by kernel_rfl) (by kernel_rfl) ?_
          repeat (go_big_quiet_want; go_big_quiet_op; go_big_quiet_on)
          go_big_quiet_want
          go_big_quiet_op
          apply Exists.intro
          refine ⟨fun _ => ?_, ?_⟩
          · go_at_call 51
            exact Calls.quiet_of_same (turn_7 x15 _ I15.out.1 I15.out.2)
          go_big_quiet_on
          repeat (go_big_quiet_want; go_big_quiet_op; go_big_quiet_on)
          go_big_quiet_want
          go_big_quiet_op
          apply Exists.intro
          refine ⟨fun _ => ?_, ?_⟩
          · go_at_call 51
            exact Calls.quiet_of_same (turn_18 x15 _ I15.out.1 I15.out.2)
          go_big_quiet_on
          repeat (go_big_quiet_want; go_big_quiet_op; go_big_quiet_on)
          refine wpQuiet_nil ?_
          intro _ hw'
          obtain ⟨nq, hw''⟩ := hw'
          subst hw''
          clear c15 q15 z15 e15 c2
          have D0 := Aside0.mk (K0.out.drewN nq)
          have D1 := Aside0.mk (K1.out.drewN nq)
          have D2 := Aside0.mk (K2.out.drewN nq)
          have D3 := Aside0.mk (K3.out.drewN nq)
          have DB := Aside0.mk (show Below b0 w (wr.drewN nq) from pw_below_drewN KB.out nq)
          clear K0 K1 K2 K3 KB
          generalize wr.drewN nq = w2 at D0 D1 D2 D3 DB ⊢
          have c2 := D3.out.cell n2 (by have := HLL.out; have := H2.out; have := HM.out; have := HLT.out; omega)
          rw [HX2.out] at c2
          go_upto_region 10 with (fail)
          refine wp_region_quiet_lit (by kernel_rfl) (by kernel_rfl) ?_
          repeat (go_big_quiet_want; go_big_quiet_op; go_big_quiet_on)
          go_big_quiet_want
          go_big_quiet_op
          apply Exists.intro
          refine ⟨fun _ => ?_, ?_⟩
          · go_at_call 51
            exact Calls.quiet_of_same (turn_17 x2 _ I2.out.1 I2.out.2)
          go_big_quiet_on
          repeat (go_big_quiet_want; go_big_quiet_op; go_big_quiet_on)
          go_big_quiet_want
          go_big_quiet_op
          apply Exists.intro
          refine ⟨fun _ => ?_, ?_⟩
          · go_at_call 51
            exact Calls.quiet_of_same (turn_19 x2 _ I2.out.1 I2.out.2)
          go_big_quiet_on
          repeat (go_big_quiet_want; go_big_quiet_op; go_big_quiet_on)
          refine wpQuiet_nil ?_
          intro _ hw'
          obtain ⟨nq, hw''⟩ := hw'
          subst hw''
          clear c2 q2 z2 e2
          go_upto_region 11 with (fail)
          obtain ⟨a15, ha15⟩ : ∃ a, Go.bits .xor .u32 (Go.bits .xor .u32 (rot 7 x15) (rot 18 x15)) (x15 / 8) = a := ⟨_, rfl⟩
          obtain ⟨a2, ha2⟩ : ∃ a, Go.bits .xor .u32 (Go.bits .xor .u32 (rot 17 x2) (rot 19 x2)) (x2 / 1024) = a := ⟨_, rfl⟩
          rw [ha15, ha2]
          have HA15 := Aside0.mk ha15
          have HA2 := Aside0.mk ha2
          clear ha15 ha2
          have E0 := Aside0.mk (D0.out.drewN nq)
          have E1 := Aside0.mk (D1.out.drewN nq)
          have E2 := Aside0.mk (D2.out.drewN nq)
          have E3 := Aside0.mk (D3.out.drewN nq)
          have EB := Aside0.mk (show Below b0 w (w2.drewN nq) from pw_below_drewN DB.out nq)
          clear D0 D1 D2 D3 DB
          generalize w2.drewN nq = w3 at E0 E1 E2 E3 EB ⊢
          have m0 := HM.out
          have m1 := HLT.out
          have ll := HLL.out
          obtain ⟨n16, h16⟩ : ∃ n : Nat, m - 16 = n := ⟨_, rfl⟩
          obtain ⟨n7, h7⟩ : ∃ n : Nat, m - 7 = n := ⟨_, rfl⟩
          have e16 : IntKind.i64.wrap ((m : Int) - 16) = (n16 : Int) := by rw [IntKind.wrap_i64]; omega
          have e7 : IntKind.i64.wrap ((m : Int) - 7) = (n7 : Int) := by rw [IntKind.wrap_i64]; omega
          have e8 : IntKind.i64.wrap ((m : Int) + 1) = ((m + 1 : Nat) : Int) := by rw [IntKind.wrap_i64]; omega
          have E8 := Aside0.mk e8
          have q16 : ((n16 : Int) < 64) = True := eq_true (by omega)
          have q7 : ((n7 : Int) < 64) = True := eq_true (by omega)
          have z16 : (0 ≤ (n16 : Int)) = True := eq_true (by omega)
          have z7 : (0 ≤ (n7 : Int)) = True := eq_true (by omega)
          have c16 := E3.out.cell n16 (by omega)
          have c7 := E3.out.cell n7 (by omega)
          obtain ⟨x16, hx16⟩ : ∃ x, l.getD n16 0 = x := ⟨_, rfl⟩
          obtain ⟨x7, hx7⟩ : ∃ x, l.getD n7 0 = x := ⟨_, rfl⟩
          rw [hx16] at c16
          rw [hx7] at c7
          have HX16 := Aside0.mk hx16
          have HX7 := Aside0.mk hx7
          have H16 := Aside0.mk h16
          have H7 := Aside0.mk h7
          clear hx16 hx7 h16 h7 m0 m1 ll e8
          go_still_tail 14, (by kernel_rfl)
          change wpList _ _ _ _ _ w3.drew
          clear c16 c7 q16 q7 z16 z7 e16 e7
          have F0 := Aside0.mk E0.out.drew
          have F1 := Aside0.mk E1.out.drew
          have F2 := Aside0.mk E2.out.drew
          have F3 := Aside0.mk E3.out.drew
          have FB := Aside0.mk (show Below b0 w w3.drew from EB.out.drew)
          clear E0 E1 E2 E3 EB
          generalize w3.drew = w4 at F0 F1 F2 F3 FB ⊢
          have hc := F3.out.cell m (by have := HLL.out; have := HLT.out; omega)
          have hf := F3.out.free m
          have hm64 : ((m : Int) < 64) = True := eq_true HLT.out
          have hm0 : (0 ≤ (m : Int)) = True := eq_true (by omega)
          go_upto_region 8 with (fail)
          change Code.wp _ _ _ _ (w4.setCell ⟨b0 + 1 + 1 + 1, m, none⟩ (.int .u32 (add32 (add32 (add32 x16 a15) x7) a2)))
          have S0 := Aside0.mk (F0.out.other ⟨b0 + 1 + 1 + 1, m, none⟩ (.int .u32 (add32 (add32 (add32 x16 a15) x7) a2)) (by show b0 ≠ b0 + 1 + 1 + 1; omega))
          have S1 := Aside0.mk (F1.out.other ⟨b0 + 1 + 1 + 1, m, none⟩ (.int .u32 (add32 (add32 (add32 x16 a15) x7) a2)) (by show b0 + 1 ≠ b0 + 1 + 1 + 1; omega))
          have S2 := Aside0.mk (F2.out.other ⟨b0 + 1 + 1 + 1, m, none⟩ (.int .u32 (add32 (add32 (add32 x16 a15) x7) a2)) (by show b0 + 1 + 1 ≠ b0 + 1 + 1 + 1; omega))
          have S3 := Aside0.mk (F3.out.set m (add32 (add32 (add32 x16 a15) x7) a2))
          have SB := Aside0.mk (FB.out.setCell (p := ⟨b0 + 1 + 1 + 1, m, none⟩) (by show b0 ≤ b0 + 1 + 1 + 1; omega) (.int .u32 (add32 (add32 (add32 x16 a15) x7) a2)))
          generalize w4.setCell ⟨b0 + 1 + 1 + 1, m, none⟩ (.int .u32 (add32 (add32 (add32 x16 a15) x7) a2)) = w5 at S0 S1 S2 S3 SB ⊢
          clear hc hf F0 F1 F2 F3 FB hm64 hm0 hd
          have e8 := E8.out
          go_wp2
          go_roundg (64 - (m + 1))
          case measure => have := HM.out; have := HG.out; have := HLT.out; omega
          case rel =>
            clear e8
            refine ⟨⟨m + 1, by have := HM.out; omega, by have := HLT.out; omega, rfl, rfl, S0.out, S1.out, S2.out, ?_, SB.out⟩⟩
            have hw : wMore (m + 1 - 16) (wInit s 16) = l.set m (add32 (add32 (add32 x16 a15) x7) a2) := by
              have hj : m + 1 - 16 = (m - 16) + 1 := by have := HM.out; omega
              have hi : 16 + (m - 16) = m := by have := HM.out; omega
              rw [hj, wMore, HLW.out, hi]
              congr 1
              show add32 (add32 (add32 (l.getD (m - 16) 0) (sg0 (l.getD (m - 15) 0))) (l.getD (m - 7) 0)) (sg1 (l.getD (m - 2) 0)) = _
              rw [H16.out, H15.out, H7.out, H2.out, HX16.out, HX15.out, HX7.out, HX2.out, ← HA15.out, ← HA2.out]
              rfl
            rw [hw]
            exact S3.out
        · skip
          have hm64 : m = 64 := by omega
          subst hm64
          obtain ⟨bs, hbs⟩ : ∃ b, wr.heap.size = b := ⟨_, rfl⟩
          obtain rfl : wordsV s = l := hl_
          have hfive : Five w (wr.alloc (.cells (u32c hs) 42)) b0 bs hs ks (List.replicate 8 0) (wordsV s) hs := by
            rw [← hbs]
            exact ⟨k0.alloc _, k1.alloc _, k2.alloc _, k3.alloc _, Blk.new wr 42 hs, kb.alloc (by have := k3.lt; omega) _, k3.lt⟩
          have hld := k0.heap
          have hst : (Instr.storeAt 42 (.pointer (some ⟨wr.heap.size, 0, none⟩)) (.agg (u32c hs))).run Tryd.prog (wr.alloc (.cells #[Value.int .u32 0, .int .u32 0, .int .u32 0, .int .u32 0, .int .u32 0, .int .u32 0, .int .u32 0, .int .u32 0] 42)) = .ok () (wr.alloc (.cells (u32c hs) 42)) :=
            run_storeAt_new wr 42 _ _ (by rw [u32c_size, HH.out]; kernel_rfl) (by rw [u32c_size, HH.out]; rfl) (u32c_cells hs)
          have hi42 : (Tryd.prog.info? 42).map (·.size) = some (u32c hs).size := by rw [u32c_size, HH.out]; kernel_rfl
          have HF := Aside0.mk hfive
          have HBS := Aside0.mk hbs
          have HLL3 := Aside0.mk hll
          have HI42 := Aside0.mk hi42
          have HLD := Aside0.mk hld
          have HST := Aside0.mk hst
          clear hfive hbs hll hin hi42 hld hst k0 k1 k2 k3 kb HLW HLL hlt hm0 hm hg
          go_upto_region 13 with (first | (refine wpList_load_row rfl 42 _ rfl b0 rfl 42 (u32c hs) (0, 0) _ HLD.out Tryd.underlying42 rfl HI42.out ?_) | (refine wpList_store_f _ _ rfl 42 _ _ _ _ rfl rfl rfl rfl HST.out ?_))
          rw [HBS.out]
          generalize wr.alloc (.cells (u32c hs) 42) = W3 at HF ⊢
          clear HLD HST HI42
          obtain ⟨wl, hwl⟩ : ∃ l, wordsV s = l := ⟨_, rfl⟩
          rw [hwl] at HF HLL3
          have HWL := Aside0.mk hwl
          clear hwl HBS
          go_wp2
          go_loopg [13] 64 (fun g v wr => Aside0 (∃ m : Nat, m ≤ 64 ∧ g = 64 - m ∧ v = .int .i64 m ∧ Five w wr b0 bs hs ks (List.replicate 8 0) wl (rndN ks wl m hs)))
          case atStart => exact ⟨0, by omega, rfl, rfl, HF.out⟩
          case round =>
            obtain ⟨m, hm, hg, rfl, hf⟩ := hrel.out
            clear hrel HF
            obtain ⟨a, b, c, d, e, f, g, h, hl, ia, ib, ic, id, ie, iff_, ig, ih⟩ := H8.out.rndN ks wl m
            rw [hl] at hf
            have HLR := Aside0.mk hl
            have HIA := Aside0.mk ia
            have HIE := Aside0.mk ie
            have HMM := Aside0.mk hm
            have HG := Aside0.mk hg
            have HF := Aside0.mk hf
            clear hl ia ib ic id ie iff_ ig ih hg hf
            by_cases hlt : (m : Int) < 64
            · skip
              have HLT := Aside0.mk hlt
              have hd := decide_eq_true hlt
              clear hlt hm
              have c4 : wr.cell? ⟨bs, 4, none⟩ = some (.int .u32 e) := HF.out.k4.cell 4 (by simp)
              go_upto_region 16 with (fail)
              refine wp_region_quiet_lit (by kernel_rfl) (by kernel_rfl) ?_
              repeat (go_big_quiet_want; go_big_quiet_op; go_big_quiet_on)
              go_big_quiet_want
              go_big_quiet_op
              apply Exists.intro
              refine ⟨fun _ => ?_, ?_⟩
              · go_at_call 51
                exact Calls.quiet_of_same (turn_6 e _ HIE.out.1 HIE.out.2)
              go_big_quiet_on
              repeat (go_big_quiet_want; go_big_quiet_op; go_big_quiet_on)
              go_big_quiet_want
              go_big_quiet_op
              apply Exists.intro
              refine ⟨fun _ => ?_, ?_⟩
              · go_at_call 51
                exact Calls.quiet_of_same (turn_11 e _ HIE.out.1 HIE.out.2)
              go_big_quiet_on
              repeat (go_big_quiet_want; go_big_quiet_op; go_big_quiet_on)
              go_big_quiet_want
              go_big_quiet_op
              apply Exists.intro
              refine ⟨fun _ => ?_, ?_⟩
              · go_at_call 51
                exact Calls.quiet_of_same (turn_25 e _ HIE.out.1 HIE.out.2)
              go_big_quiet_on
              repeat (go_big_quiet_want; go_big_quiet_op; go_big_quiet_on)
              refine wpQuiet_nil ?_
              intro _ hw'
              obtain ⟨nq, hw''⟩ := hw'
              subst hw''
              have G := Aside0.mk (HF.out.drewN nq)
              clear HF c4 hd
              generalize wr.drewN nq = w2 at G ⊢
              clear nq
              have c4 : w2.cell? ⟨bs, 4, none⟩ = some (.int .u32 e) := G.out.k4.cell 4 (by simp)
              have c5 : w2.cell? ⟨bs, 5, none⟩ = some (.int .u32 f) := G.out.k4.cell 5 (by simp)
              have c6 : w2.cell? ⟨bs, 6, none⟩ = some (.int .u32 g) := G.out.k4.cell 6 (by simp)
              go_upto_region 17 with (fail)
              obtain ⟨eV, heV⟩ : ∃ x, Go.bits .xor .u32 (Go.bits .xor .u32 (rot 6 e) (rot 11 e)) (rot 25 e) = x := ⟨_, rfl⟩
              rw [heV]
              have HEV := Aside0.mk heV
              clear heV
              go_upto_region 18 with (fail)
              obtain ⟨cV, hcV⟩ : ∃ x, Go.bits .xor .u32 (Go.bits .and .u32 e f) (Go.bits .and .u32 (Go.bits .xor .u32 e 4294967295) g) = x := ⟨_, rfl⟩
              rw [hcV]
              have HCV := Aside0.mk hcV
              clear hcV c4 c5 c6
              have c7 : w2.cell? ⟨bs, 7, none⟩ = some (.int .u32 h) := G.out.k4.cell 7 (by simp)
              have ck := G.out.k1.cell m (by have := HK.out; have := HLT.out; omega)
              have cw := G.out.k3.cell m (by have := HLL3.out; have := HLT.out; omega)
              obtain ⟨kv, hkv⟩ : ∃ x, ks.getD m 0 = x := ⟨_, rfl⟩
              obtain ⟨wv, hwv⟩ : ∃ x, wl.getD m 0 = x := ⟨_, rfl⟩
              rw [hkv] at ck
              rw [hwv] at cw
              have HKV := Aside0.mk hkv
              have HWV := Aside0.mk hwv
              clear hkv hwv
              have hm64 : ((m : Int) < 64) = True := eq_true HLT.out
              have hm0 : (0 ≤ (m : Int)) = True := eq_true (by omega)
              refine wp_region_quiet_lit (by kernel_rfl) (by kernel_rfl) ?_
              repeat (go_big_quiet_want; go_big_quiet_op; go_big_quiet_on)
              refine wpQuiet_nil ?_
              intro _ hw'
              obtain ⟨nq, hw''⟩ := hw'
              subst hw''
              have G3 := Aside0.mk (G.out.drewN nq)
              clear G c7 ck cw hm64 hm0
              generalize w2.drewN nq = w3 at G3 ⊢
              clear nq
              obtain ⟨one, hone⟩ : ∃ x, ((h + eV + cV + kv) % 4294967296 + wv) % 4294967296 = x := ⟨_, rfl⟩
              rw [hone]
              have HONE := Aside0.mk hone
              clear hone
              have c0 : w3.cell? ⟨bs, 0, none⟩ = some (.int .u32 a) := G3.out.k4.cell 0 (by simp)
              go_upto_region 19 with (fail)
              refine wp_region_quiet_lit (by kernel_rfl) (by kernel_rfl) ?_
              repeat (go_big_quiet_want; go_big_quiet_op; go_big_quiet_on)
              go_big_quiet_want
              go_big_quiet_op
              apply Exists.intro
              refine ⟨fun _ => ?_, ?_⟩
              · go_at_call 51
                exact Calls.quiet_of_same (turn_2 a _ HIA.out.1 HIA.out.2)
              go_big_quiet_on
              repeat (go_big_quiet_want; go_big_quiet_op; go_big_quiet_on)
              go_big_quiet_want
              go_big_quiet_op
              apply Exists.intro
              refine ⟨fun _ => ?_, ?_⟩
              · go_at_call 51
                exact Calls.quiet_of_same (turn_13 a _ HIA.out.1 HIA.out.2)
              go_big_quiet_on
              repeat (go_big_quiet_want; go_big_quiet_op; go_big_quiet_on)
              go_big_quiet_want
              go_big_quiet_op
              apply Exists.intro
              refine ⟨fun _ => ?_, ?_⟩
              · go_at_call 51
                exact Calls.quiet_of_same (turn_22 a _ HIA.out.1 HIA.out.2)
              go_big_quiet_on
              repeat (go_big_quiet_want; go_big_quiet_op; go_big_quiet_on)
              refine wpQuiet_nil ?_
              intro _ hw'
              obtain ⟨nq, hw''⟩ := hw'
              subst hw''
              have G4 := Aside0.mk (G3.out.drewN nq)
              clear G3 c0
              generalize w3.drewN nq = w4 at G4 ⊢
              clear nq
              have c0 : w4.cell? ⟨bs, 0, none⟩ = some (.int .u32 a) := G4.out.k4.cell 0 (by simp)
              have c1 : w4.cell? ⟨bs, 1, none⟩ = some (.int .u32 b) := G4.out.k4.cell 1 (by simp)
              have c2 : w4.cell? ⟨bs, 2, none⟩ = some (.int .u32 c) := G4.out.k4.cell 2 (by simp)
              go_upto_region 20 with (fail)
              obtain ⟨aV, haV⟩ : ∃ x, Go.bits .xor .u32 (Go.bits .xor .u32 (rot 2 a) (rot 13 a)) (rot 22 a) = x := ⟨_, rfl⟩
              rw [haV]
              have HAV := Aside0.mk haV
              clear haV
              go_upto_region 21 with (fail)
              obtain ⟨jV, hjV⟩ : ∃ x, Go.bits .xor .u32 (Go.bits .xor .u32 (Go.bits .and .u32 a b) (Go.bits .and .u32 a c)) (Go.bits .and .u32 b c) = x := ⟨_, rfl⟩
              rw [hjV]
              have HJV := Aside0.mk hjV
              clear hjV
              go_upto_region 22 with (fail)
              obtain ⟨two, htwo⟩ : ∃ x, (aV + jV) % 4294967296 = x := ⟨_, rfl⟩
              rw [htwo]
              have HTWO := Aside0.mk htwo
              clear htwo c0 c1 c2
              have P4 := G4
              clear G4
              have cs : w4.cell? ⟨bs, 6, none⟩ = some (.int .u32 g) := P4.out.k4.cell 6 (by simp)
              have cd := P4.out.k4.cell 7 (by simp)
              have fd := P4.out.k4.free 7
              go_upto_region 23 with (fail)
              change Code.wp _ _ _ _ (w4.setCell ⟨bs, 7, none⟩ (.int .u32 g))
              have P5 : Aside0 (Five w (w4.setCell ⟨bs, 7, none⟩ (.int .u32 g)) b0 bs hs ks (List.replicate 8 0) wl [a, b, c, d, e, f, g, g]) := Aside0.mk (P4.out.set 7 g)
              clear P4 cd fd cs
              generalize w4.setCell ⟨bs, 7, none⟩ (.int .u32 g) = w5 at P5 ⊢
              have cs : w5.cell? ⟨bs, 5, none⟩ = some (.int .u32 f) := P5.out.k4.cell 5 (by simp)
              have cd := P5.out.k4.cell 6 (by simp)
              have fd := P5.out.k4.free 6
              go_upto_region 24 with (fail)
              change Code.wp _ _ _ _ (w5.setCell ⟨bs, 6, none⟩ (.int .u32 f))
              have P6 : Aside0 (Five w (w5.setCell ⟨bs, 6, none⟩ (.int .u32 f)) b0 bs hs ks (List.replicate 8 0) wl [a, b, c, d, e, f, f, g]) := Aside0.mk (P5.out.set 6 f)
              clear P5 cd fd cs
              generalize w5.setCell ⟨bs, 6, none⟩ (.int .u32 f) = w6 at P6 ⊢
              have cs : w6.cell? ⟨bs, 4, none⟩ = some (.int .u32 e) := P6.out.k4.cell 4 (by simp)
              have cd := P6.out.k4.cell 5 (by simp)
              have fd := P6.out.k4.free 5
              go_upto_region 25 with (fail)
              change Code.wp _ _ _ _ (w6.setCell ⟨bs, 5, none⟩ (.int .u32 e))
              have P7 : Aside0 (Five w (w6.setCell ⟨bs, 5, none⟩ (.int .u32 e)) b0 bs hs ks (List.replicate 8 0) wl [a, b, c, d, e, e, f, g]) := Aside0.mk (P6.out.set 5 e)
              clear P6 cd fd cs
              generalize w6.setCell ⟨bs, 5, none⟩ (.int .u32 e) = w7 at P7 ⊢
              have cs : w7.cell? ⟨bs, 3, none⟩ = some (.int .u32 d) := P7.out.k4.cell 3 (by simp)
              have cd := P7.out.k4.cell 4 (by simp)
              have fd := P7.out.k4.free 4
              go_upto_region 26 with (fail)
              change Code.wp _ _ _ _ (w7.setCell ⟨bs, 4, none⟩ (.int .u32 ((d + one) % 4294967296)))
              have P8 : Aside0 (Five w (w7.setCell ⟨bs, 4, none⟩ (.int .u32 ((d + one) % 4294967296))) b0 bs hs ks (List.replicate 8 0) wl [a, b, c, d, ((d + one) % 4294967296), e, f, g]) := Aside0.mk (P7.out.set 4 ((d + one) % 4294967296))
              clear P7 cd fd cs
              generalize w7.setCell ⟨bs, 4, none⟩ (.int .u32 ((d + one) % 4294967296)) = w8 at P8 ⊢
              obtain ⟨n4, hn4⟩ : ∃ x, (d + one) % 4294967296 = x := ⟨_, rfl⟩
              rw [hn4] at P8
              have HN4 := Aside0.mk hn4
              clear hn4
              have cs : w8.cell? ⟨bs, 2, none⟩ = some (.int .u32 c) := P8.out.k4.cell 2 (by simp)
              have cd := P8.out.k4.cell 3 (by simp)
              have fd := P8.out.k4.free 3
              go_upto_region 27 with (fail)
              change Code.wp _ _ _ _ (w8.setCell ⟨bs, 3, none⟩ (.int .u32 c))
              have P9 : Aside0 (Five w (w8.setCell ⟨bs, 3, none⟩ (.int .u32 c)) b0 bs hs ks (List.replicate 8 0) wl [a, b, c, c, n4, e, f, g]) := Aside0.mk (P8.out.set 3 c)
              clear P8 cd fd cs
              generalize w8.setCell ⟨bs, 3, none⟩ (.int .u32 c) = w9 at P9 ⊢
              have cs : w9.cell? ⟨bs, 1, none⟩ = some (.int .u32 b) := P9.out.k4.cell 1 (by simp)
              have cd := P9.out.k4.cell 2 (by simp)
              have fd := P9.out.k4.free 2
              go_upto_region 28 with (fail)
              change Code.wp _ _ _ _ (w9.setCell ⟨bs, 2, none⟩ (.int .u32 b))
              have P10 : Aside0 (Five w (w9.setCell ⟨bs, 2, none⟩ (.int .u32 b)) b0 bs hs ks (List.replicate 8 0) wl [a, b, b, c, n4, e, f, g]) := Aside0.mk (P9.out.set 2 b)
              clear P9 cd fd cs
              generalize w9.setCell ⟨bs, 2, none⟩ (.int .u32 b) = w10 at P10 ⊢
              have cs : w10.cell? ⟨bs, 0, none⟩ = some (.int .u32 a) := P10.out.k4.cell 0 (by simp)
              have cd := P10.out.k4.cell 1 (by simp)
              have fd := P10.out.k4.free 1
              go_upto_region 29 with (fail)
              change Code.wp _ _ _ _ (w10.setCell ⟨bs, 1, none⟩ (.int .u32 a))
              have P11 : Aside0 (Five w (w10.setCell ⟨bs, 1, none⟩ (.int .u32 a)) b0 bs hs ks (List.replicate 8 0) wl [a, a, b, c, n4, e, f, g]) := Aside0.mk (P10.out.set 1 a)
              clear P10 cd fd cs
              generalize w10.setCell ⟨bs, 1, none⟩ (.int .u32 a) = w11 at P11 ⊢
              have cd := P11.out.k4.cell 0 (by simp)
              have fd := P11.out.k4.free 0
              go_upto_region 15 with (fail)
              change Code.wp _ _ _ _ (w11.setCell ⟨bs, 0, none⟩ (.int .u32 ((one + two) % 4294967296)))
              have P12 : Aside0 (Five w (w11.setCell ⟨bs, 0, none⟩ (.int .u32 ((one + two) % 4294967296))) b0 bs hs ks (List.replicate 8 0) wl [((one + two) % 4294967296), a, b, c, n4, e, f, g]) := Aside0.mk (P11.out.set 0 ((one + two) % 4294967296))
              clear P11 cd fd
              generalize w11.setCell ⟨bs, 0, none⟩ (.int .u32 ((one + two) % 4294967296)) = w12 at P12 ⊢
              obtain ⟨n0, hn0⟩ : ∃ x, (one + two) % 4294967296 = x := ⟨_, rfl⟩
              rw [hn0] at P12
              have HN0 := Aside0.mk hn0
              clear hn0
              have e8 : IntKind.i64.wrap ((m : Int) + 1) = ((m + 1 : Nat) : Int) := by have := HLT.out; rw [IntKind.wrap_i64]; omega
              go_wp2
              go_roundg (64 - (m + 1))
              case measure => have := HMM.out; have := HG.out; have := HLT.out; omega
              case rel =>
                clear e8
                have hw : rndN ks wl (m + 1) hs = [n0, a, b, c, n4, e, f, g] := by
                  have e1 : one = add32 (add32 (add32 (add32 h (SG1 e)) (chV e f g)) (ks.getD m 0)) (wl.getD m 0) := by
                    have x1 : SG1 e = eV := HEV.out
                    have x2 : chV e f g = cV := HCV.out
                    rw [x1, x2, HKV.out, HWV.out, ← HONE.out]
                    unfold add32
                    omega
                  have e2 : two = add32 (SG0 a) (majV a b c) := by
                    have x1 : SG0 a = aV := HAV.out
                    have x2 : majV a b c = jV := HJV.out
                    rw [x1, x2, ← HTWO.out]
                    rfl
                  rw [rndN, HLR.out]
                  show [add32 (add32 (add32 (add32 (add32 h (SG1 e)) (chV e f g)) (ks.getD m 0)) (wl.getD m 0)) (add32 (SG0 a) (majV a b c)), a, b, c, add32 d (add32 (add32 (add32 (add32 h (SG1 e)) (chV e f g)) (ks.getD m 0)) (wl.getD m 0)), e, f, g] = _
                  rw [← e1, ← e2, ← HN0.out, ← HN4.out]
                  rfl
                refine ⟨⟨m + 1, by have := HLT.out; omega, rfl, rfl, ?_⟩⟩
                rw [hw]
                exact P12.out
            · skip
              have hm64 : m = 64 := by omega
              subst hm64
              obtain ⟨S, hS⟩ : ∃ l, rndN ks wl 64 hs = l := ⟨_, rfl⟩
              have hSl : S.length = 8 := by rw [← hS]; exact (H8.out.rndN ks wl 64).len
              have HSL := Aside0.mk hSl
              have HS2 := Aside0.mk hS
              have F := HF.out
              rw [← HLR.out, hS] at F
              have HF2 := Aside0.mk F
              clear F hS hSl hlt hm HF HLR HG HMM HIA HIE
              clear a b c d e f g h
              generalize wr = V0 at HF2 ⊢
              go_upto_region 30 with (fail)
              go_wp2
              go_loopg [20] 8 (fun g v wr => Aside0 (∃ m : Nat, m ≤ 8 ∧ g = 8 - m ∧ v = .int .i64 m ∧ Five w wr b0 bs (plusN S m hs) ks (List.replicate 8 0) wl S))
              case atStart => exact ⟨0, by omega, rfl, rfl, HF2.out⟩
              case round =>
                obtain ⟨m, hm, hg, rfl, hf⟩ := hrel.out
                clear hrel HF2
                obtain ⟨hl, hhl⟩ : ∃ l, plusN S m hs = l := ⟨_, rfl⟩
                rw [hhl] at hf
                have hll : hl.length = 8 := by rw [← hhl, plusN_len, HH.out]
                have HHL := Aside0.mk hhl
                have HHLL := Aside0.mk hll
                have HMM := Aside0.mk hm
                have HG := Aside0.mk hg
                have F0 := Aside0.mk hf
                clear hhl hll hg hf
                by_cases hlt : (m : Int) < 8
                · skip
                  have HLT := Aside0.mk hlt
                  have hd := decide_eq_true hlt
                  clear hlt hm
                  have ch := F0.out.k0.cell m (by have := HHLL.out; have := HLT.out; omega)
                  have cs := F0.out.k4.cell m (by have := HSL.out; have := HLT.out; omega)
                  obtain ⟨xh, hxh⟩ : ∃ x, hl.getD m 0 = x := ⟨_, rfl⟩
                  obtain ⟨xs, hxs⟩ : ∃ x, S.getD m 0 = x := ⟨_, rfl⟩
                  rw [hxh] at ch
                  rw [hxs] at cs
                  have HXH := Aside0.mk hxh
                  have HXS := Aside0.mk hxs
                  clear hxh hxs
                  have hm8 : ((m : Int) < 8) = True := eq_true HLT.out
                  have hm0 : (0 ≤ (m : Int)) = True := eq_true (by omega)
                  go_upto_region 33 with (fail)
                  go_still_tail 8, (by kernel_rfl)
                  change wpList _ _ _ _ _ wr.drew
                  have F1 := Aside0.mk F0.out.drew
                  clear F0 ch cs
                  generalize wr.drew = w1 at F1 ⊢
                  have ch := F1.out.k0.cell m (by have := HHLL.out; have := HLT.out; omega)
                  have fh := F1.out.k0.free m
                  rw [HXH.out] at ch
                  go_upto_region 32 with (fail)
                  change Code.wp _ _ _ _ (w1.setCell ⟨b0, m, none⟩ (.int .u32 (add32 xh xs)))
                  have F2 := Aside0.mk (F1.out.setH m (add32 xh xs))
                  clear F1 ch fh hm8 hm0 hd
                  generalize w1.setCell ⟨b0, m, none⟩ (.int .u32 (add32 xh xs)) = w2 at F2 ⊢
                  have e8 : IntKind.i64.wrap ((m : Int) + 1) = ((m + 1 : Nat) : Int) := by have := HLT.out; rw [IntKind.wrap_i64]; omega
                  go_wp2
                  go_roundg (8 - (m + 1))
                  case measure => have := HMM.out; have := HG.out; have := HLT.out; omega
                  case rel =>
                    clear e8
                    refine ⟨⟨m + 1, by have := HLT.out; omega, rfl, rfl, ?_⟩⟩
                    rw [plusN, HHL.out, HXH.out, HXS.out]
                    exact F2.out
                · have hm8 : m = 8 := by omega
                  subst hm8
                  have hbv : hl = BV := by
                    rw [← HHL.out, ← HS2.out, ← HBV.out, ← HWL.out]
                    rfl
                  subst hbv
                  have hi42 : (Tryd.prog.info? 42).map (·.size) = some (u32c hl).size := by rw [u32c_size, HHLL.out]; kernel_rfl
                  have HI42 := Aside0.mk hi42
                  have F := F0.out
                  have hst : (Instr.storeAt 42 (.pointer (some ⟨b0 + 1 + 1, 0, none⟩)) (.agg (u32c hl))).run Tryd.prog wr = .ok () (wr.setRow (b0 + 1 + 1) (u32c hl)) := by
                    simp only [Instr.storeAt, Instr.sureAddr, Sem.run_bind, Sem.run_pure, Result.andThen]
                    exact run_storeVar_row wr (b0 + 1 + 1) 42 42 (u32c (List.replicate 8 0)) (u32c hl) F.k2.heap hi42 (by rw [u32c_size, u32c_size, HHLL.out]; rfl) (u32c_cells hl)
                  have HST := Aside0.mk hst
                  have HLD := Aside0.mk F.k0.heap
                  have HRS := Aside0.mk (setRow_heap wr (b0 + 1 + 1) _ (u32c hl) 42 _ F.k2.heap)
                  have HBE := Aside0.mk (below_setRow F.kb (show b0 ≤ b0 + 1 + 1 by omega) (u32c hl))
                  clear hi42 hst F F0 hlt hm HG HMM
                  go_upto_region 34 with (fail)
                  go_wp2_with (first | (refine wpList_load_row rfl 42 _ rfl b0 rfl 42 (u32c hl) (0, 0) _ HLD.out Tryd.underlying42 rfl HI42.out ?_) | (refine wpList_store_f _ _ rfl 42 _ _ _ _ rfl rfl rfl rfl HST.out ?_))
                  refine bodyPost_ret (v := .agg (u32c hl)) (results_cell_row Tryd.results34 _ _ (b0 + 1 + 1) 42 (u32c hl) (0, 0) _ rfl HRS.out Tryd.underlying42 rfl HI42.out) rfl ⟨rfl, ?_⟩
                  rw [eb0]
                  exact HBE.out

end Go.Proofs.YtekplhhkbeemnaaDoor.Sha
