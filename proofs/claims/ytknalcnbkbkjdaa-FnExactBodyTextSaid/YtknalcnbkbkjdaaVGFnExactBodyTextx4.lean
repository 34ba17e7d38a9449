-- Written by a program of this session (gp.py) over the kit's printer: no printed text.
import Derived.Test.YtknalcnbkbkjdaaVGFnExactBodyTextx0
import Derived.Test.YtknalcnbkbkjdaaVGFnExactBodyTextx2
import Derived.Test.YtknalcnbkbkjdaaVGFnExactBodyTextx3
import Derived.Laws.CopyOwn
namespace Go.Proofs.Ytknalcnbkbkjdaa.GFnExactBodyText
open Go.RowKit Go.Proofs.YtknalcnbkbkjdaaW.PrintWords Go.Proofs.YtknalcnbkbkjdaaW.PrintLast Go.Proofs.YtknalcnbkbkjdaaW.PrintMore
attribute [local go_sem] max2_int min2_int max_two min_two max_three min_three max_four min_four   -- for this text's walks alone
set_option linter.unusedVariables false
set_option linter.unusedSimpArgs false

/-! ### A law's own steps: a struct of type 26 put into a variable of its own -/
section
variable {P : Program} {ops : Array Oper} {rest : List Oper} {o : Oper} {a : Act} {Q : Exit → Act → World → Prop}
end
theorem lk_one (t : Int) (x : ByteArray) (v : Value) (hv : v.oneCell' = true) : (#[Value.int .i64 t, .string x, v] : Array Value).all (·.oneCell') = true := by
 rw [Array.all_eq_true_iff_forall_mem]
 intro u hu
 simp only [List.mem_toArray, List.mem_cons, List.not_mem_nil, or_false] at hu
 rcases hu with rfl | rfl | rfl
 ·rfl
 ·rfl
 ·exact hv
theorem lk_store_run (w : World) (b : Nat) (old : Array Value) (hb : w.heap[b]? = some (.cells old 26 (0, 0))) (ho : old.size = 3) (t : Int) (x : ByteArray) (v : Value) (hv : v.oneCell' = true) :
  (Instr.storeAt 26 (.pointer (some ⟨b, 0, none⟩)) (.agg #[.int .i64 t, .string x, v])).run Try.prog w = .ok () (w.setRow b #[.int .i64 t, .string x, v]) := by
 simp only [Instr.storeAt, Instr.sureAddr, Sem.run_bind, Sem.run_pure, Result.andThen]
 exact run_storeVar_row w b 26 26 old #[.int .i64 t, .string x, v] hb (by kernel_rfl) ho (lk_one t x v hv)
/-! ### A letter's body as an item: both sides, by hand (body.py) -/
section
variable {W W' w : World} {g g1 g2 : Nat} {cs z : Array Value}
theorem reps3 {α : Type} {R : α → List Value → Prop} {ps : List α} {cs : List Value} {p : α} {x y z : Value} (hp : R p [x, y, z]) (h : Reps R 3 ps cs) : Reps R 3 (p :: ps) (x :: y :: z :: cs) := by
 refine ⟨by simp [h.1]; omega, fun j q hq => ?_⟩
 cases j with
 | zero =>
  obtain rfl : p = q := by simpa using hq
  exact hp
 | succ j =>
  have h2 := h.2 j q (by simpa using hq)
  rw [Nat.succ_mul]
  exact h2
theorem leaf_K (W : World) (t : Int) (x : ByteArray) (A : Option Addr) (c : Nat) : k26.K W (⟨t, x, []⟩ : S26) [.int .i64 t, .string x, .slice A 0 c] :=
 k26_mk W (⟨t, x, []⟩ : S26) (Nat.zero_le c) ⟨rfl, Nat.zero_le _, fun h => absurd h (Nat.lt_irrefl 0)⟩
/-- A row built out of cells is read as its elements are. -/
theorem built_C {L : List S26} {inner : List Value} (hg : W.heap[g]? = some (.cells inner.toArray 26 (0, 0))) (hr : Reps (k26.K W) 3 L inner) (hm : L.length ≤ 9223372036854775807) : Kd.C k26 W (some ⟨g, 0, none⟩) L.length L := by
 refine ⟨rfl, hm, fun _ => ⟨_, rfl, fun j p hj => ⟨(inner.drop (j * 3)).take 3, ?_, hr.2 j p hj, fun i u hu => ?_⟩⟩⟩
 ·have := (List.getElem?_eq_some_iff.1 hj).1
  rw [List.length_take, List.length_drop, hr.1]
  show min 3 (L.length * 3 - j * 3) = 3
  omega
 ·rw [List.getElem?_take] at hu
  split at hu
  ·rw [List.getElem?_drop] at hu
   rw [add_plain, blk_cell hg]
   show inner.toArray[j * 3 + i]? = some u
   simpa using hu
  ·cases hu
theorem leaf_F (W : World) (ok : Nat → Prop) (t : Int) (x : ByteArray) (A : Option Addr) (c : Nat) : Kd.FK k26 W ok (⟨t, x, []⟩ : S26) [.int .i64 t, .string x, .slice A 0 c] := fun W2 _ => leaf_K W2 t x A c
theorem row_F {ok : Nat → Prop} {base c : Nat} {A : Option Addr} (t : Int) (x : ByteArray) {L : List S26} (h : Kd.R k26 26 W base ok (.slice A L.length c) L) : Kd.FK k26 W ok (⟨t, x, L⟩ : S26) [.int .i64 t, .string x, .slice A L.length c] := fun W2 hW =>
 k26_mk W2 (⟨t, x, L⟩ : S26) (Kd.R_reads' (Kd.R_step h hW)).2.1 (Kd.R_reads' (Kd.R_step h hW)).2.2
/-- A row made of cells in one go. -/
theorem N_alloc_lit {base : Nat} {ok : Nat → Prop} {L : List S26} {inner : List Value} (hrep : Reps (Kd.FK k26 W ok) 3 L inner) (hfresh : ok W.heap.size) (hbase : base ≤ W.heap.size) (hm : L.length ≤ 9223372036854775807) :
  Kd.N k26 26 (W.alloc (.cells inner.toArray 26)) base ok (.slice (some ⟨W.heap.size, 0, none⟩) L.length L.length) L := by
 have hraw := Kd.reps_raw hrep (fun y c hk => ⟨k26.K_len (Kd.FK_now hk), k26.K_one (Kd.FK_now hk)⟩)
 have hr : (Kd.raw 3).R 26 (W.alloc (.cells inner.toArray 26)) base (fun k => k = W.heap.size) (.slice (some ⟨W.heap.size, 0, none⟩) L.length L.length) (Kd.chunks 3 L.length inner) := by
  refine ⟨fun k hk => ?_, inner, ?_, hraw⟩
  ·have : W.heap.size = k := by simpa [Value.ownBlock] using hk
   exact this.symm
  ·have h2 := World.ownsRow_lit (base := base) (e := 26) (size := 3) W inner.toArray L.length hbase (by simpa [maxLen] using hm) (by simpa using hrep.1)
   rw [Kd.chunks_length]
   show (W.alloc (.cells inner.toArray 26)).ownsRow base 26 3 _ _ inner
   simpa using h2
 exact Kd.N_made (okp := ok) hr (World.grownBy_alloc W _ none) ⟨W.heap.size, by simp [Value.ownBlock], Nat.le_refl _⟩ (Kd.chunks_length _ _ _) (fun j y c hy hc => by rw [Kd.chunks_get hc]; exact hrep.2 j y hy) (fun _ h => h) hfresh
structure BS (w W : World) (g1 g2 : Nat) (cs z : Array Value) : Prop where
 bel : Below w.heap.size w W
 c1 : W.heap[g1]? = some (.cells cs 52 (0, 0))
 c2 : W.heap[g2]? = some (.cells z 26 (0, 0))
 n1 : w.heap.size ≤ g1
 n12 : g1 < g2
theorem BS.below (h : BS w W g1 g2 cs z) (hb : Below W.heap.size W W') : BS w W' g1 g2 cs z := ⟨below_step h.bel hb, blk_below h.c1 hb, blk_below h.c2 hb, h.n1, h.n12⟩
theorem BS.drew (h : BS w W g1 g2 cs z) : BS w W.drew g1 g2 cs z := ⟨below_drew1 h.bel, blk_drew h.c1, blk_drew h.c2, h.n1, h.n12⟩
theorem BS.row (h : BS w W g1 g2 cs z) (hg : g2 < g) (x : Array Value) : BS w (W.setRow g x) g1 g2 cs z := by
 have h1 := h.n1
 have h2 := h.n12
 exact ⟨below_setRow h.bel (by omega) _, (setRow_other _ g g1 _ (by omega)).trans h.c1, (setRow_other _ g g2 _ (by omega)).trans h.c2, h1, h2⟩
theorem BS.lt2 (h : BS w W g1 g2 cs z) : g2 < W.heap.size := blk_lt h.c2
theorem up_of {b : Nat → Bool} {i j : Nat} (hj : b j = false) (hne : j ≠ i) (h : up b i j = true) : False := by
 rw [up_ne hne, hj] at h
 cases h
end
/-! ### spec_BodyItem: function 30 -/
def spec_BodyItem.f (k : Nat) (a0_0 : Int) (a0_1 : ByteArray) (a0_2 : ByteArray) (a0_3 : Int) (a0_4 : Int) (a0_5 : ByteArray) (a0_6 : Bool) (a0_7 : Int) (a0_8 : Int) (l0_9 : List Int) (l0_10 : List ByteArray) (l0_11 : List ByteArray) (a0_12 : ByteArray) : Option (Int × ByteArray × (List (S26))) := (spec_IntItem.f k a0_3).bind fun bt169 => ((spec_IntItem.f k a0_4).bind fun bt174 => ((spec_IntItem.f k a0_0).bind fun bt183 => ((spec_TextItem.f a0_1).bind fun bt188 => ((spec_TextItem.f a0_2).bind fun bt193 => ((spec_l09Bytes.f a0_5).bind fun bt198 => ((spec_l09Bool.f a0_6).bind fun bt203 => ((spec_IntItem.f k a0_7).bind fun bt208 => ((spec_IntItem.f k a0_8).bind fun bt213 => ((spec_l09Ints.f k l0_9).bind fun bt218 => ((spec_l09Texts.f k l0_10).bind fun bt223 => ((spec_l09Texts.f k l0_11).bind fun bt228 => (some (48, (⟨#[]⟩ : ByteArray), (([(⟨bt183.1, bt183.2.1, bt183.2.2⟩ : S26), (⟨bt188.1, bt188.2.1, bt188.2.2⟩ : S26), (⟨48, (⟨#[]⟩ : ByteArray), (([(⟨bt169.1, bt169.2.1, bt169.2.2⟩ : S26), (⟨bt174.1, bt174.2.1, bt174.2.2⟩ : S26)] : List (S26)))⟩ : S26), (⟨bt193.1, bt193.2.1, bt193.2.2⟩ : S26), (⟨bt198.1, bt198.2.1, bt198.2.2⟩ : S26), (⟨bt203.1, bt203.2.1, bt203.2.2⟩ : S26), (⟨bt208.1, bt208.2.1, bt208.2.2⟩ : S26), (⟨bt213.1, bt213.2.1, bt213.2.2⟩ : S26), (⟨bt218.1, bt218.2.1, bt218.2.2⟩ : S26), (⟨bt223.1, bt223.2.1, bt223.2.2⟩ : S26), (⟨bt228.1, bt228.2.1, bt228.2.2⟩ : S26)] : List (S26))))))))))))))))
theorem spec_BodyItem.mono : ∀ a0 a1 a2 a3 a4 a5 a6 a7 a8 a9 a10 a11 a12 k, LeO (spec_BodyItem.f k a0 a1 a2 a3 a4 a5 a6 a7 a8 a9 a10 a11 a12) (spec_BodyItem.f (k + 1) a0 a1 a2 a3 a4 a5 a6 a7 a8 a9 a10 a11 a12) := by
 intro a0 a1 a2 a3 a4 a5 a6 a7 a8 a9 a10 a11 a12 k
 unfold spec_BodyItem.f
 repeat' first
   | (with_reducible exact spec_IntItem.mono _ _)
   | (with_reducible exact spec_l09Ints.mono _ _)
   | (with_reducible exact spec_l09Texts.mono _ _)
   | (with_reducible exact LeO.refl _)
   | (with_reducible exact LeO.none _)
   | (with_reducible refine LeO.ite ?_ ?_)
   | (with_reducible refine LeO.bind ?_ (fun _ => ?_))
   | exact LeO.none _
   | refine LeO.ite ?_ ?_
   | refine LeO.bind ?_ (fun _ => ?_)
def spec_BodyItem.T1 : Bool × List (List Nat × List Nat) := (true, [([], []), ([0], [0]), ([1], [1]), ([], []), ([3], [3]), ([4, 2], [4]), ([2, 5], [2, 5]), ([6], [6]), ([], []), ([8, 7, 5, 0, 1, 2, 3, 4, 5, 6, 7, 8], [7, 8])])
def spec_BodyItem.B1 : List Nat := [0, 1, 3, 0, 8, 31, 63, 127, 0, 511]
theorem spec_BodyItem.tab1 : rtab .any (opsOf Try.f30 1) = spec_BodyItem.T1 := by kernel_rfl
theorem spec_BodyItem.bits1 : waitsOk spec_BodyItem.T1.2 spec_BodyItem.B1 = true := by kernel_rfl
def spec_BodyItem.T2 : Bool × List (List Nat × List Nat) := (true, [([], []), ([0], [0]), ([1], [1]), ([], []), ([3], [3]), ([4, 2], [4]), ([], []), ([], []), ([7], [7]), ([8, 5], [8]), ([], []), ([10], [10]), ([11, 9], [11]), ([], []), ([13], [13]), ([14, 12], [14]), ([], []), ([16], [16]), ([17, 15], [17]), ([], []), ([19], [19]), ([20, 18], [20]), ([], []), ([22], [22]), ([23, 21], [23]), ([], []), ([25], [25]), ([26, 24], [26]), ([], []), ([28], [28]), ([29, 27], [29]), ([2, 5, 6, 9, 12, 15, 18, 21, 24, 27, 30], [2, 5, 6, 9, 12, 15, 18, 21, 24, 27, 30]), ([31], [31]), ([32, 30, 0, 1, 2, 3, 4, 5, 6, 7, 8, 9, 10, 11, 12, 13, 14, 15, 16, 17, 18, 19, 20, 21, 22, 23, 24, 25, 26, 27, 28, 29, 30, 31, 32], [32])])
def spec_BodyItem.B2 : List Nat := [0, 1, 3, 0, 8, 31, 0, 0, 128, 447, 0, 1024, 4031, 0, 8192, 32703, 0, 65536, 262079, 0, 524288, 2097087, 0, 4194304, 16777151, 0, 33554432, 134217663, 0, 268435456, 1073741759, 2147483647, 4294967295, 8589934591]
theorem spec_BodyItem.tab2 : rtab .any (opsOf Try.f30 2) = spec_BodyItem.T2 := by kernel_rfl
theorem spec_BodyItem.bits2 : waitsOk spec_BodyItem.T2.2 spec_BodyItem.B2 = true := by kernel_rfl
theorem spec_IntItem.l0_nil : ∀ (k : Nat) (x : Int) (y : ByteArray) (r : Int × ByteArray × List S26), spec_IntItem.l0 k x y = some r → r.2.2 = []
 | 0, _, _, _, h => by simp [spec_IntItem.l0] at h
 | k + 1, x, y, r, h => by
  simp only [spec_IntItem.l0, Option.bind_some] at h
  repeat' split at h
  all_goals first | exact spec_IntItem.l0_nil k _ _ _ h | (cases h; rfl) | cases h
theorem spec_IntItem.f_nil {k : Nat} {a t : Int} {x : ByteArray} {L : List S26} (h : spec_IntItem.f k a = some (t, x, L)) : L = [] := by
 simp only [spec_IntItem.f] at h
 replace h := Option.bind_eq_some_iff.mp h
 obtain ⟨b, _, h⟩ := h
 have j : ∀ x0, spec_IntItem.j0 k x0 = some (t, x, L) → L = [] := fun x0 h => by
  cases k with
  | zero => simp [spec_IntItem.j0] at h
  | succ k =>
   simp only [spec_IntItem.j0] at h
   exact spec_IntItem.l0_nil k _ _ _ h
 split at h
 ·exact j _ h
 ·exact j _ h
set_option maxHeartbeats 8000000 in
set_option maxRecDepth 100000 in
theorem spec_BodyItem.core (k : Nat) (a0 a3 a4 a7 a8 : Int) (a1 a2 a5 a12 : ByteArray) (a6 : Bool) (A9 : Option Addr) (c9 : Nat) (l9 : List Int) (A10 : Option Addr) (c10 : Nat) (l10 : List ByteArray) (A11 : Option Addr) (c11 : Nat) (l11 : List ByteArray) (t0 t1 t2 t3 t4 t5 t6 t7 t8 t9 t10 t11 : Int) (x0 x1 x2 x3 x4 x5 x6 x7 x8 x9 x10 x11 : ByteArray) (L9 L10 L11 : List S26) (w : World) (hr9 : Kd.C (Kd.int .i64) w A9 l9.length l9) (hc9 : l9.length ≤ c9) (hr10 : Kd.C Kd.string w A10 l10.length l10) (hc10 : l10.length ≤ c10) (hr11 : Kd.C Kd.string w A11 l11.length l11) (hc11 : l11.length ≤ c11) (e3 : spec_IntItem.f k a3 = some (t3, x3, [])) (e4 : spec_IntItem.f k a4 = some (t4, x4, [])) (e0 : spec_IntItem.f k a0 = some (t0, x0, [])) (e1 : spec_TextItem.f a1 = some (t1, x1, [])) (e2 : spec_TextItem.f a2 = some (t2, x2, [])) (e5 : spec_l09Bytes.f a5 = some (t5, x5, [])) (e6 : spec_l09Bool.f a6 = some (t6, x6, [])) (e7 : spec_IntItem.f k a7 = some (t7, x7, [])) (e8 : spec_IntItem.f k a8 = some (t8, x8, [])) (e9 : spec_l09Ints.f k l9 = some (t9, x9, L9)) (e10 : spec_l09Texts.f k l10 = some (t10, x10, L10)) (e11 : spec_l09Texts.f k l11 = some (t11, x11, L11)) :
  Calls Try.prog 30 #[.agg #[.int .i64 a0, .string a1, .string a2, .int .i64 a3, .int .i64 a4, .string a5, .bool a6, .int .i64 a7, .int .i64 a8, .slice A9 l9.length c9, .slice A10 l10.length c10, .slice A11 l11.length c11, .string a12]] w fun e w' => ∃ v : Value, e = .returned (.agg #[.int .i64 48, .string (⟨#[]⟩ : ByteArray), v]) ∧ Kd.N k26 26 w' w.heap.size (fun k_ => w.heap.size ≤ k_) v [(⟨t0, x0, []⟩ : S26), (⟨t1, x1, []⟩ : S26), (⟨48, (⟨#[]⟩ : ByteArray), [(⟨t3, x3, []⟩ : S26), (⟨t4, x4, []⟩ : S26)]⟩ : S26), (⟨t2, x2, []⟩ : S26), (⟨t5, x5, []⟩ : S26), (⟨t6, x6, []⟩ : S26), (⟨t7, x7, []⟩ : S26), (⟨t8, x8, []⟩ : S26), (⟨t9, x9, L9⟩ : S26), (⟨t10, x10, L10⟩ : S26), (⟨t11, x11, L11⟩ : S26)] ∧ Below w.heap.size w w' := by
 have hu52 := Try.underlying52
 have hu26 := Try.underlying26
 have HR9 := Aside0.mk hr9
 have HC9 := Aside0.mk hc9
 have HR10 := Aside0.mk hr10
 have HC10 := Aside0.mk hc10
 have HR11 := Aside0.mk hr11
 have HC11 := Aside0.mk hc11
 have E0 := Aside0.mk e0
 have E1 := Aside0.mk e1
 have E2 := Aside0.mk e2
 have E3 := Aside0.mk e3
 have E4 := Aside0.mk e4
 have E5 := Aside0.mk e5
 have E6 := Aside0.mk e6
 have E7 := Aside0.mk e7
 have E8 := Aside0.mk e8
 have E9 := Aside0.mk e9
 have E10 := Aside0.mk e10
 have E11 := Aside0.mk e11
 clear hr9 hc9 hr10 hc10 hr11 hc11 e0 e1 e2 e3 e4 e5 e6 e7 e8 e9 e10 e11
 go_enter Try.func30, Try.ntmps30
 go_upto_region 1 with (first | ((with_reducible refine gate_dst (N := 1) rfl ?_); refine box_event ?hg (N := 1) ?hd (cs := #[.int .i64 a0, .string a1, .string a2, .int .i64 a3, .int .i64 a4, .string a5, .bool a6, .int .i64 a7, .int .i64 a8, .slice A9 l9.length c9, .slice A10 l10.length c10, .slice A11 l11.length c11, .string a12]) (t := 52) ?hr ?_; (case hd => rfl); (case hg => rfl); (case hr => first | (go_simp; done) | (go_simp; rfl)); intro g1 hg w1 hbox hb; have HC := Aside0.mk hbox; have HB := Aside0.mk hb; have HG := Aside0.mk (Nat.le_of_eq hg.symm); clear hbox hb hg) | ((with_reducible refine gate_dst (N := 2) rfl ?_); refine box_event ?hg (N := 2) ?hd (cs := #[.int .i64 0, .string (⟨#[]⟩ : ByteArray), .slice none 0 0]) (t := 26) ?hr ?_; (case hd => rfl); (case hg => rfl); (case hr => first | (go_simp; done) | (go_simp; rfl)); intro g2 hg w2 hbox hb; have HS := Aside0.mk (show BS w w2 g1 g2 #[.int .i64 a0, .string a1, .string a2, .int .i64 a3, .int .i64 a4, .string a5, .bool a6, .int .i64 a7, .int .i64 a8, .slice A9 l9.length c9, .slice A10 l10.length c10, .slice A11 l11.length c11, .string a12] #[.int .i64 0, .string (⟨#[]⟩ : ByteArray), .slice none 0 0] from ⟨below_step HB.out hb, blk_below HC.out hb, hbox, HG.out, by rw [hg]; exact blk_lt HC.out⟩); clear hbox hb hg))
 clear HC HB HG
 (try simp only [Act.put, List.setIfInBounds_toArray, List.set_cons_zero, List.set_cons_succ])
 replace HS := Aside0.mk HS.out.drew
 refine start_ (n := 10) (S := fun _ => True) (ds := []) #[false, false, false, false, false, false, false, false, false, false] (by kernel_rfl) rfl rfl trivial (fun _ => ?_); refine with_tabW spec_BodyItem.tab1 spec_BodyItem.bits1 (fun HT_ HW_ => ?_)
 generalize w2.drew = w3 at HS ⊢
 refine pure_ (i := 0) (N := some 4) (v := ?_) (a' := ?_) #[true, false, false, false, false, false, false, false, false, false] rfl rfl (any_of HT_.out (by kernel_rfl)) (fun _ _ _ h => h) (Or.inl ⟨by rfl, ?_⟩) ?_ ?_
 rotate_left
 ·intro w'
  go_simp
  with_reducible rfl
 rotate_left
 ·simp only [Act.put, List.setIfInBounds_toArray, List.set_cons_zero, List.set_cons_succ, i64_w, i32_w]
  rfl
 refine pure_ (i := 3) (N := some 7) (v := ?_) (a' := ?_) #[true, false, false, true, false, false, false, false, false, false] rfl rfl (any_of HT_.out (by kernel_rfl)) (fun _ _ _ h => h) (Or.inl ⟨by rfl, ?_⟩) ?_ ?_
 rotate_left
 ·intro w'
  go_simp
  with_reducible rfl
 rotate_left
 ·simp only [Act.put, List.setIfInBounds_toArray, List.set_cons_zero, List.set_cons_succ, i64_w, i32_w]
  rfl
 refine inv_at [1, 2, 4, 5, 6, 7, 8, 9] (fun a0_ b a w' => ∃ (A6 : Option Addr) (c6 : Nat) (B6 : Option Addr) (d6 : Nat) (g10 : Nat) (h7 : Nat) (g3 : Nat), a = putSel a0_ b [(1, 5, .int .i64 a3), (2, 6, .agg #[.int .i64 t3, .string x3, .slice A6 0 c6]), (4, 8, .int .i64 a4), (5, 9, .agg #[.int .i64 t4, .string x4, .slice B6 0 d6]), (6, 10, .slice (some ⟨g10, 0, none⟩) 2 2), (7, 11, .agg #[.int .i64 48, .string (⟨#[]⟩ : ByteArray), .slice (some ⟨h7, 0, none⟩) 2 2]), (8, 3, .pointer (some ⟨g3, 0, none⟩))] ∧ BS w w' g1 g2 #[.int .i64 a0, .string a1, .string a2, .int .i64 a3, .int .i64 a4, .string a5, .bool a6, .int .i64 a7, .int .i64 a8, .slice A9 l9.length c9, .slice A10 l10.length c10, .slice A11 l11.length c11, .string a12] #[.int .i64 0, .string (⟨#[]⟩ : ByteArray), .slice none 0 0] ∧ (b 6 = true → g2 < g10 ∧ w'.heap[g10]? = some (.cells #[.int .i64 t3, .string x3, .slice A6 0 c6, .int .i64 t4, .string x4, .slice B6 0 d6] 26 (0, 0))) ∧ (b 8 = true → g2 < g3 ∧ (b 9 = false → w'.heap[g3]? = some (.cells #[.int .i64 0, .string (⟨#[]⟩ : ByteArray), .slice none 0 0] 26 (0, 0)))) ∧ (b 6 = true → b 8 = true → g10 ≠ g3) ∧ (b 7 = true → h7 = g10) ∧ (b 9 = true → w'.heap[g3]? = some (.cells #[.int .i64 48, .string (⟨#[]⟩ : ByteArray), .slice (some ⟨h7, 0, none⟩) 2 2] 26 (0, 0)))) HT_.out HW_.out (by kernel_rfl) (by kernel_rfl) ?_ ?_ ?_
 ·exact ⟨none, 0, none, 0, 0, 0, 0, by simp only [putSel, Bool.false_eq_true, if_false], HS.out, fun h_ => absurd h_ (by decide), fun h_ => absurd h_ (by decide), fun h_ => absurd h_ (by decide), fun h_ => absurd h_ (by decide), fun h_ => absurd h_ (by decide)⟩
 ·clear HS
  refine steps_cons ?_ ?_
  ·rintro b a w' ⟨A6, c6, B6, d6, g10, h7, g3, ha, QS, Q10, Q3, QN, Q7, QX⟩ hb_ hon hoff
   refine ⟨_, rfl, fun K hK => ?_⟩
   have e4 : a.tmps[4]? = some (.pointer (some ⟨g1, 3, none⟩)) := by rw [ha]; exact (putSel_off rfl).trans rfl
   replace ha := Aside0.mk ha
   have s_ : w'.cell? ⟨g1, 3, none⟩ = some (.int .i64 a3) := (blk_cell QS.c1 3).trans rfl
   refine value_ (w1 := w') (v := .int .i64 a3) (by rfl) rfl ?_ ?_
   ·go_simp
    try rfl
   exact hK.out _ _ ⟨A6, c6, B6, d6, g10, h7, g3, (by rw [ha.out]; exact putSel_upk 0 hb_ rfl rfl rfl), QS, Q10, Q3, QN, Q7, QX⟩
  refine steps_cons ?_ ?_
  ·rintro b a w' ⟨A6, c6, B6, d6, g10, h7, g3, ha, QS, Q10, Q3, QN, Q7, QX⟩ hb_ hon hoff
   refine ⟨_, rfl, fun K hK => ?_⟩
   have e5 : a.tmps[5]? = some (.int .i64 a3) := by rw [ha]; exact putSel_on (e := (1, 5, .int .i64 a3)) 0 rfl rfl (hon 1 (by kernel_rfl)) rfl
   replace ha := Aside0.mk ha
   refine goes_ Try.func59 (by kernel_rfl) rfl #[.int .i64 a3] (by rfl) rfl rfl (by first | (simp only [List.map_toArray, List.map_cons, List.map_nil, Act.eval, Array.getD_eq_getD_getElem?, Option.getD_some, e5]; done) | (simp only [List.map_toArray, List.map_cons, List.map_nil, Act.eval, Array.getD_eq_getD_getElem?, Option.getD_some, e5]; rfl)) ?_
   with_reducible refine (spec_IntItem.calls k a3 t3 x3 [] _ E3.out).mono ?_
   rintro e w4 ⟨v, rfl, ho, hb⟩
   refine ⟨_, rfl, ?_⟩
   obtain ⟨A_, c_, ev⟩ := Kd.R_slice ho
   subst ev
   exact hK.out _ _ ⟨A_, c_, B6, d6, g10, h7, g3, (by rw [ha.out]; exact putSel_upk 1 hb_ rfl rfl rfl), QS.below hb, fun h => (up_of (hoff 6 (by kernel_rfl)) (by decide) h).elim, fun h => ⟨(Q3 h).1, fun h9 => blk_below ((Q3 h).2 h9) hb⟩, fun h => (up_of (hoff 6 (by kernel_rfl)) (by decide) h).elim, Q7, fun h => (up_of (hoff 9 (by kernel_rfl)) (by decide) h).elim⟩
  refine steps_cons ?_ ?_
  ·rintro b a w' ⟨A6, c6, B6, d6, g10, h7, g3, ha, QS, Q10, Q3, QN, Q7, QX⟩ hb_ hon hoff
   refine ⟨_, rfl, fun K hK => ?_⟩
   have e7 : a.tmps[7]? = some (.pointer (some ⟨g1, 4, none⟩)) := by rw [ha]; exact (putSel_off rfl).trans rfl
   replace ha := Aside0.mk ha
   have s_ : w'.cell? ⟨g1, 4, none⟩ = some (.int .i64 a4) := (blk_cell QS.c1 4).trans rfl
   refine value_ (w1 := w') (v := .int .i64 a4) (by rfl) rfl ?_ ?_
   ·go_simp
    try rfl
   exact hK.out _ _ ⟨A6, c6, B6, d6, g10, h7, g3, (by rw [ha.out]; exact putSel_upk 2 hb_ rfl rfl rfl), QS, Q10, Q3, QN, Q7, QX⟩
  refine steps_cons ?_ ?_
  ·rintro b a w' ⟨A6, c6, B6, d6, g10, h7, g3, ha, QS, Q10, Q3, QN, Q7, QX⟩ hb_ hon hoff
   refine ⟨_, rfl, fun K hK => ?_⟩
   have e8 : a.tmps[8]? = some (.int .i64 a4) := by rw [ha]; exact putSel_on (e := (4, 8, .int .i64 a4)) 2 rfl rfl (hon 4 (by kernel_rfl)) rfl
   replace ha := Aside0.mk ha
   refine goes_ Try.func59 (by kernel_rfl) rfl #[.int .i64 a4] (by rfl) rfl rfl (by first | (simp only [List.map_toArray, List.map_cons, List.map_nil, Act.eval, Array.getD_eq_getD_getElem?, Option.getD_some, e8]; done) | (simp only [List.map_toArray, List.map_cons, List.map_nil, Act.eval, Array.getD_eq_getD_getElem?, Option.getD_some, e8]; rfl)) ?_
   with_reducible refine (spec_IntItem.calls k a4 t4 x4 [] _ E4.out).mono ?_
   rintro e w4 ⟨v, rfl, ho, hb⟩
   refine ⟨_, rfl, ?_⟩
   obtain ⟨A_, c_, ev⟩ := Kd.R_slice ho
   subst ev
   exact hK.out _ _ ⟨A6, c6, A_, c_, g10, h7, g3, (by rw [ha.out]; exact putSel_upk 3 hb_ rfl rfl rfl), QS.below hb, fun h => (up_of (hoff 6 (by kernel_rfl)) (by decide) h).elim, fun h => ⟨(Q3 h).1, fun h9 => blk_below ((Q3 h).2 h9) hb⟩, fun h => (up_of (hoff 6 (by kernel_rfl)) (by decide) h).elim, Q7, fun h => (up_of (hoff 9 (by kernel_rfl)) (by decide) h).elim⟩
  refine steps_cons ?_ ?_
  ·rintro b a w' ⟨A6, c6, B6, d6, g10, h7, g3, ha, QS, Q10, Q3, QN, Q7, QX⟩ hb_ hon hoff
   refine ⟨_, rfl, fun K hK => ?_⟩
   have e6 : a.tmps[6]? = some (.agg #[.int .i64 t3, .string x3, .slice A6 0 c6]) := by rw [ha]; exact putSel_on (e := (2, 6, .agg #[.int .i64 t3, .string x3, .slice A6 0 c6])) 1 rfl rfl (hon 2 (by kernel_rfl)) rfl
   have e9 : a.tmps[9]? = some (.agg #[.int .i64 t4, .string x4, .slice B6 0 d6]) := by rw [ha]; exact putSel_on (e := (5, 9, .agg #[.int .i64 t4, .string x4, .slice B6 0 d6])) 3 rfl rfl (hon 5 (by kernel_rfl)) rfl
   replace ha := Aside0.mk ha
   have hb := below_alloc (Below.refl w'.heap.size w') (.cells #[.int .i64 t3, .string x3, .slice A6 0 c6, .int .i64 t4, .string x4, .slice B6 0 d6] 26)
   refine value_ (w1 := w'.alloc (.cells #[.int .i64 t3, .string x3, .slice A6 0 c6, .int .i64 t4, .string x4, .slice B6 0 d6] 26)) (v := .slice (some ⟨w'.heap.size, 0, none⟩) 2 2) (by rfl) rfl ?_ ?_
   ·go_simp
    try rfl
   exact hK.out _ _ ⟨A6, c6, B6, d6, w'.heap.size, h7, g3, (by rw [ha.out]; exact putSel_upk 4 hb_ rfl rfl rfl), QS.below hb, fun _ => ⟨QS.lt2, heap_alloc_new w' _⟩, fun h => ⟨(Q3 h).1, fun h9 => blk_below ((Q3 h).2 (hoff 9 (by kernel_rfl))) hb⟩, fun _ h8 => Nat.ne_of_gt (by have h9 := hoff 9 (by kernel_rfl); exact blk_lt ((Q3 h8).2 h9)), fun h => (up_of (hoff 7 (by kernel_rfl)) (by decide) h).elim, fun h => (up_of (hoff 9 (by kernel_rfl)) (by decide) h).elim⟩
  refine steps_cons ?_ ?_
  ·rintro b a w' ⟨A6, c6, B6, d6, g10, h7, g3, ha, QS, Q10, Q3, QN, Q7, QX⟩ hb_ hon hoff
   refine ⟨_, rfl, fun K hK => ?_⟩
   have e10 : a.tmps[10]? = some (.slice (some ⟨g10, 0, none⟩) 2 2) := by rw [ha]; exact putSel_on (e := (6, 10, .slice (some ⟨g10, 0, none⟩) 2 2)) 4 rfl rfl (hon 6 (by kernel_rfl)) rfl
   replace ha := Aside0.mk ha
   refine value_ (w1 := w') (v := .agg #[.int .i64 48, .string (⟨#[]⟩ : ByteArray), .slice (some ⟨g10, 0, none⟩) 2 2]) (by rfl) rfl ?_ ?_
   ·go_simp
    try rfl
   exact hK.out _ _ ⟨A6, c6, B6, d6, g10, g10, g3, (by rw [ha.out]; exact putSel_upk 5 hb_ rfl rfl rfl), QS, Q10, Q3, QN, fun _ => rfl, fun h => (up_of (hoff 9 (by kernel_rfl)) (by decide) h).elim⟩
  refine steps_cons ?_ ?_
  ·rintro b a w' ⟨A6, c6, B6, d6, g10, h7, g3, ha, QS, Q10, Q3, QN, Q7, QX⟩ hb_ hon hoff
   refine ⟨_, rfl, fun K hK => ?_⟩
   have hb := below_alloc (Below.refl w'.heap.size w') (.cells #[.int .i64 0, .string (⟨#[]⟩ : ByteArray), .slice none 0 0] 26)
   replace ha := Aside0.mk ha
   refine value_ (w1 := w'.alloc (.cells #[.int .i64 0, .string (⟨#[]⟩ : ByteArray), .slice none 0 0] 26)) (v := .pointer (some ⟨w'.heap.size, 0, none⟩)) (by rfl) rfl ?_ ?_
   ·go_simp
    try rfl
   exact hK.out _ _ ⟨A6, c6, B6, d6, g10, h7, w'.heap.size, (by rw [ha.out]; exact putSel_upk 6 hb_ rfl rfl rfl), QS.below hb, fun h => ⟨(Q10 h).1, blk_below (Q10 h).2 hb⟩, fun _ => ⟨QS.lt2, fun _ => heap_alloc_new w' _⟩, fun h6 _ => Nat.ne_of_lt (blk_lt (Q10 h6).2), Q7, fun h => (up_of (hoff 9 (by kernel_rfl)) (by decide) h).elim⟩
  refine steps_cons ?_ ?_
  ·rintro b a w' ⟨A6, c6, B6, d6, g10, h7, g3, ha, QS, Q10, Q3, QN, Q7, QX⟩ hb_ hon hoff
   refine ⟨_, rfl, fun K hK => ?_⟩
   have e3 : a.tmps[3]? = some (.pointer (some ⟨g3, 0, none⟩)) := by rw [ha]; exact putSel_on (e := (8, 3, .pointer (some ⟨g3, 0, none⟩))) 6 rfl rfl (hon 8 (by kernel_rfl)) rfl
   have e11 : a.tmps[11]? = some (.agg #[.int .i64 48, .string (⟨#[]⟩ : ByteArray), .slice (some ⟨h7, 0, none⟩) 2 2]) := by rw [ha]; exact putSel_on (e := (7, 11, .agg #[.int .i64 48, .string (⟨#[]⟩ : ByteArray), .slice (some ⟨h7, 0, none⟩) 2 2])) 5 rfl rfl (hon 7 (by kernel_rfl)) rfl
   replace ha := Aside0.mk ha
   have h3 := Q3 (hon 8 (by kernel_rfl))
   have hrun := lk_store_run w' g3 _ (h3.2 hb_) rfl 48 (⟨#[]⟩ : ByteArray) (.slice (some ⟨h7, 0, none⟩) 2 2) rfl
   refine skip_ (w1 := w'.setRow g3 #[.int .i64 48, .string (⟨#[]⟩ : ByteArray), .slice (some ⟨h7, 0, none⟩) 2 2]) (by rfl) rfl ?_ ?_
   ·simp [execOp, Act.eval, e3, e11, hrun, Result.andThen]
   exact hK.out _ _ ⟨A6, c6, B6, d6, g10, h7, g3, (by rw [ha.out]; exact putSel_none (v := undef) rfl), QS.row h3.1 _, fun h => ⟨(Q10 h).1, (setRow_other _ g3 g10 _ (QN h (hon 8 (by kernel_rfl)))).trans (Q10 h).2⟩, fun h => ⟨h3.1, fun h9 => absurd ((up_self b 9).symm.trans h9) (by decide)⟩, QN, Q7, fun _ => setRow_heap _ g3 _ _ 26 _ (h3.2 hb_)⟩
  exact steps_nil
 clear HS
 rintro b a w4 hall ⟨A6, c6, B6, d6, g10, h7, g3, ha, QS, Q10, Q3, QN, Q7, QX⟩
 have hb1_ := hall 1 (by kernel_rfl)
 have hb2_ := hall 2 (by kernel_rfl)
 have hb4_ := hall 4 (by kernel_rfl)
 have hb5_ := hall 5 (by kernel_rfl)
 have hb6_ := hall 6 (by kernel_rfl)
 have hb7_ := hall 7 (by kernel_rfl)
 have hb8_ := hall 8 (by kernel_rfl)
 have hb9_ := hall 9 (by kernel_rfl)
 subst ha
 simp only [putSel, hb1_, hb2_, hb4_, hb5_, hb6_, hb7_, hb8_, hb9_, if_true, Act.put, List.setIfInBounds_toArray, List.set_cons_zero, List.set_cons_succ]
 have e7_ := (Q7 hb7_).symm
 subst e7_
 have HX := Aside0.mk (QX hb9_)
 have H10 := Aside0.mk (Q10 hb6_).2
 have N10 := Aside0.mk (Q10 hb6_).1
 have HS := Aside0.mk QS
 have HN3 := Aside0.mk (Q3 hb8_).1
 clear hall HT_ HW_ hb1_ hb2_ hb4_ hb5_ hb6_ hb7_ hb8_ hb9_ QS Q10 Q3 QN Q7 QX
 replace HS := Aside0.mk HS.out.drew
 replace HX := Aside0.mk (blk_drew HX.out)
 replace H10 := Aside0.mk (blk_drew H10.out)
 try go_wp2
 refine start_ (n := 34) (S := fun w' => w'.heap[g1]? = some (.cells #[.int .i64 a0, .string a1, .string a2, .int .i64 a3, .int .i64 a4, .string a5, .bool a6, .int .i64 a7, .int .i64 a8, .slice A9 l9.length c9, .slice A10 l10.length c10, .slice A11 l11.length c11, .string a12] 52 (0, 0)) ∧ w'.heap[g3]? = some (.cells #[.int .i64 48, .string (⟨#[]⟩ : ByteArray), .slice (some ⟨g10, 0, none⟩) 2 2] 26 (0, 0))) (ds := [33]) #[false, false, false, false, false, false, false, false, false, false, false, false, false, false, false, false, false, false, false, false, false, false, false, false, false, false, false, false, false, false, false, false, false, false] (by kernel_rfl) rfl rfl ⟨HS.out.c1, HX.out⟩ (fun hHeld => ?_); refine with_tabW spec_BodyItem.tab2 spec_BodyItem.bits2 (fun HT_ HW_ => ?_)
 generalize w4.drew = w5 at HS HX H10 hHeld ⊢
 refine pure_ (i := 0) (N := some 12) (v := ?_) (a' := ?_) #[true, false, false, false, false, false, false, false, false, false, false, false, false, false, false, false, false, false, false, false, false, false, false, false, false, false, false, false, false, false, false, false, false, false] rfl rfl (any_of HT_.out (by kernel_rfl)) (fun _ _ _ h => h) (Or.inl ⟨by rfl, ?_⟩) ?_ ?_
 rotate_left
 ·intro w'
  go_simp
  with_reducible rfl
 rotate_left
 ·simp only [Act.put, List.setIfInBounds_toArray, List.set_cons_zero, List.set_cons_succ, i64_w, i32_w]
  rfl
 refine pure_ (i := 3) (N := some 15) (v := ?_) (a' := ?_) #[true, false, false, true, false, false, false, false, false, false, false, false, false, false, false, false, false, false, false, false, false, false, false, false, false, false, false, false, false, false, false, false, false, false] rfl rfl (any_of HT_.out (by kernel_rfl)) (fun _ _ _ h => h) (Or.inl ⟨by rfl, ?_⟩) ?_ ?_
 rotate_left
 ·intro w'
  go_simp
  with_reducible rfl
 rotate_left
 ·simp only [Act.put, List.setIfInBounds_toArray, List.set_cons_zero, List.set_cons_succ, i64_w, i32_w]
  rfl
 refine pure_ (i := 7) (N := some 19) (v := ?_) (a' := ?_) #[true, false, false, true, false, false, false, true, false, false, false, false, false, false, false, false, false, false, false, false, false, false, false, false, false, false, false, false, false, false, false, false, false, false] rfl rfl (any_of HT_.out (by kernel_rfl)) (fun _ _ _ h => h) (Or.inl ⟨by rfl, ?_⟩) ?_ ?_
 rotate_left
 ·intro w'
  go_simp
  with_reducible rfl
 rotate_left
 ·simp only [Act.put, List.setIfInBounds_toArray, List.set_cons_zero, List.set_cons_succ, i64_w, i32_w]
  rfl
 refine pure_ (i := 10) (N := some 22) (v := ?_) (a' := ?_) #[true, false, false, true, false, false, false, true, false, false, true, false, false, false, false, false, false, false, false, false, false, false, false, false, false, false, false, false, false, false, false, false, false, false] rfl rfl (any_of HT_.out (by kernel_rfl)) (fun _ _ _ h => h) (Or.inl ⟨by rfl, ?_⟩) ?_ ?_
 rotate_left
 ·intro w'
  go_simp
  with_reducible rfl
 rotate_left
 ·simp only [Act.put, List.setIfInBounds_toArray, List.set_cons_zero, List.set_cons_succ, i64_w, i32_w]
  rfl
 refine pure_ (i := 13) (N := some 25) (v := ?_) (a' := ?_) #[true, false, false, true, false, false, false, true, false, false, true, false, false, true, false, false, false, false, false, false, false, false, false, false, false, false, false, false, false, false, false, false, false, false] rfl rfl (any_of HT_.out (by kernel_rfl)) (fun _ _ _ h => h) (Or.inl ⟨by rfl, ?_⟩) ?_ ?_
 rotate_left
 ·intro w'
  go_simp
  with_reducible rfl
 rotate_left
 ·simp only [Act.put, List.setIfInBounds_toArray, List.set_cons_zero, List.set_cons_succ, i64_w, i32_w]
  rfl
 refine pure_ (i := 16) (N := some 28) (v := ?_) (a' := ?_) #[true, false, false, true, false, false, false, true, false, false, true, false, false, true, false, false, true, false, false, false, false, false, false, false, false, false, false, false, false, false, false, false, false, false] rfl rfl (any_of HT_.out (by kernel_rfl)) (fun _ _ _ h => h) (Or.inl ⟨by rfl, ?_⟩) ?_ ?_
 rotate_left
 ·intro w'
  go_simp
  with_reducible rfl
 rotate_left
 ·simp only [Act.put, List.setIfInBounds_toArray, List.set_cons_zero, List.set_cons_succ, i64_w, i32_w]
  rfl
 refine pure_ (i := 19) (N := some 31) (v := ?_) (a' := ?_) #[true, false, false, true, false, false, false, true, false, false, true, false, false, true, false, false, true, false, false, true, false, false, false, false, false, false, false, false, false, false, false, false, false, false] rfl rfl (any_of HT_.out (by kernel_rfl)) (fun _ _ _ h => h) (Or.inl ⟨by rfl, ?_⟩) ?_ ?_
 rotate_left
 ·intro w'
  go_simp
  with_reducible rfl
 rotate_left
 ·simp only [Act.put, List.setIfInBounds_toArray, List.set_cons_zero, List.set_cons_succ, i64_w, i32_w]
  rfl
 refine pure_ (i := 22) (N := some 34) (v := ?_) (a' := ?_) #[true, false, false, true, false, false, false, true, false, false, true, false, false, true, false, false, true, false, false, true, false, false, true, false, false, false, false, false, false, false, false, false, false, false] rfl rfl (any_of HT_.out (by kernel_rfl)) (fun _ _ _ h => h) (Or.inl ⟨by rfl, ?_⟩) ?_ ?_
 rotate_left
 ·intro w'
  go_simp
  with_reducible rfl
 rotate_left
 ·simp only [Act.put, List.setIfInBounds_toArray, List.set_cons_zero, List.set_cons_succ, i64_w, i32_w]
  rfl
 refine pure_ (i := 25) (N := some 37) (v := ?_) (a' := ?_) #[true, false, false, true, false, false, false, true, false, false, true, false, false, true, false, false, true, false, false, true, false, false, true, false, false, true, false, false, false, false, false, false, false, false] rfl rfl (any_of HT_.out (by kernel_rfl)) (fun _ _ _ h => h) (Or.inl ⟨by rfl, ?_⟩) ?_ ?_
 rotate_left
 ·intro w'
  go_simp
  with_reducible rfl
 rotate_left
 ·simp only [Act.put, List.setIfInBounds_toArray, List.set_cons_zero, List.set_cons_succ, i64_w, i32_w]
  rfl
 refine pure_ (i := 28) (N := some 40) (v := ?_) (a' := ?_) #[true, false, false, true, false, false, false, true, false, false, true, false, false, true, false, false, true, false, false, true, false, false, true, false, false, true, false, false, true, false, false, false, false, false] rfl rfl (any_of HT_.out (by kernel_rfl)) (fun _ _ _ h => h) (Or.inl ⟨by rfl, ?_⟩) ?_ ?_
 rotate_left
 ·intro w'
  go_simp
  with_reducible rfl
 rotate_left
 ·simp only [Act.put, List.setIfInBounds_toArray, List.set_cons_zero, List.set_cons_succ, i64_w, i32_w]
  rfl
 refine take_ (i := 1) (N := some 13) (v := ?_) (a' := ?_) #[true, true, false, true, false, false, false, true, false, false, true, false, false, true, false, false, true, false, false, true, false, false, true, false, false, true, false, false, true, false, false, false, false, false] rfl rfl (take_ofW HT_.out HW_.out (by kernel_rfl)) (fun _ _ _ h => h) (Or.inl ⟨by rfl, ?_⟩) hHeld ?_ ?_
 rotate_left
 ·rintro w' ⟨h1_, h3_⟩
  have s_ : w'.cell? ⟨g1, 0, none⟩ = some (.int .i64 a0) := (blk_cell h1_ 0).trans rfl
  clear h1_ h3_
  go_simp
  with_reducible rfl
 rotate_left
 ·simp only [Act.put, List.setIfInBounds_toArray, List.set_cons_zero, List.set_cons_succ, i64_w, i32_w]
  rfl
 refine take_ (i := 4) (N := some 16) (v := ?_) (a' := ?_) #[true, true, false, true, true, false, false, true, false, false, true, false, false, true, false, false, true, false, false, true, false, false, true, false, false, true, false, false, true, false, false, false, false, false] rfl rfl (take_ofW HT_.out HW_.out (by kernel_rfl)) (fun _ _ _ h => h) (Or.inl ⟨by rfl, ?_⟩) hHeld ?_ ?_
 rotate_left
 ·rintro w' ⟨h1_, h3_⟩
  have s_ : w'.cell? ⟨g1, 1, none⟩ = some (.string a1) := (blk_cell h1_ 1).trans rfl
  clear h1_ h3_
  go_simp
  with_reducible rfl
 rotate_left
 ·simp only [Act.put, List.setIfInBounds_toArray, List.set_cons_zero, List.set_cons_succ, i64_w, i32_w]
  rfl
 refine take_ (i := 8) (N := some 20) (v := ?_) (a' := ?_) #[true, true, false, true, true, false, false, true, true, false, true, false, false, true, false, false, true, false, false, true, false, false, true, false, false, true, false, false, true, false, false, false, false, false] rfl rfl (take_ofW HT_.out HW_.out (by kernel_rfl)) (fun _ _ _ h => h) (Or.inl ⟨by rfl, ?_⟩) hHeld ?_ ?_
 rotate_left
 ·rintro w' ⟨h1_, h3_⟩
  have s_ : w'.cell? ⟨g1, 2, none⟩ = some (.string a2) := (blk_cell h1_ 2).trans rfl
  clear h1_ h3_
  go_simp
  with_reducible rfl
 rotate_left
 ·simp only [Act.put, List.setIfInBounds_toArray, List.set_cons_zero, List.set_cons_succ, i64_w, i32_w]
  rfl
 refine take_ (i := 11) (N := some 23) (v := ?_) (a' := ?_) #[true, true, false, true, true, false, false, true, true, false, true, true, false, true, false, false, true, false, false, true, false, false, true, false, false, true, false, false, true, false, false, false, false, false] rfl rfl (take_ofW HT_.out HW_.out (by kernel_rfl)) (fun _ _ _ h => h) (Or.inl ⟨by rfl, ?_⟩) hHeld ?_ ?_
 rotate_left
 ·rintro w' ⟨h1_, h3_⟩
  have s_ : w'.cell? ⟨g1, 5, none⟩ = some (.string a5) := (blk_cell h1_ 5).trans rfl
  clear h1_ h3_
  go_simp
  with_reducible rfl
 rotate_left
 ·simp only [Act.put, List.setIfInBounds_toArray, List.set_cons_zero, List.set_cons_succ, i64_w, i32_w]
  rfl
 refine take_ (i := 14) (N := some 26) (v := ?_) (a' := ?_) #[true, true, false, true, true, false, false, true, true, false, true, true, false, true, true, false, true, false, false, true, false, false, true, false, false, true, false, false, true, false, false, false, false, false] rfl rfl (take_ofW HT_.out HW_.out (by kernel_rfl)) (fun _ _ _ h => h) (Or.inl ⟨by rfl, ?_⟩) hHeld ?_ ?_
 rotate_left
 ·rintro w' ⟨h1_, h3_⟩
  have s_ : w'.cell? ⟨g1, 6, none⟩ = some (.bool a6) := (blk_cell h1_ 6).trans rfl
  clear h1_ h3_
  go_simp
  with_reducible rfl
 rotate_left
 ·simp only [Act.put, List.setIfInBounds_toArray, List.set_cons_zero, List.set_cons_succ, i64_w, i32_w]
  rfl
 refine take_ (i := 17) (N := some 29) (v := ?_) (a' := ?_) #[true, true, false, true, true, false, false, true, true, false, true, true, false, true, true, false, true, true, false, true, false, false, true, false, false, true, false, false, true, false, false, false, false, false] rfl rfl (take_ofW HT_.out HW_.out (by kernel_rfl)) (fun _ _ _ h => h) (Or.inl ⟨by rfl, ?_⟩) hHeld ?_ ?_
 rotate_left
 ·rintro w' ⟨h1_, h3_⟩
  have s_ : w'.cell? ⟨g1, 7, none⟩ = some (.int .i64 a7) := (blk_cell h1_ 7).trans rfl
  clear h1_ h3_
  go_simp
  with_reducible rfl
 rotate_left
 ·simp only [Act.put, List.setIfInBounds_toArray, List.set_cons_zero, List.set_cons_succ, i64_w, i32_w]
  rfl
 refine take_ (i := 20) (N := some 32) (v := ?_) (a' := ?_) #[true, true, false, true, true, false, false, true, true, false, true, true, false, true, true, false, true, true, false, true, true, false, true, false, false, true, false, false, true, false, false, false, false, false] rfl rfl (take_ofW HT_.out HW_.out (by kernel_rfl)) (fun _ _ _ h => h) (Or.inl ⟨by rfl, ?_⟩) hHeld ?_ ?_
 rotate_left
 ·rintro w' ⟨h1_, h3_⟩
  have s_ : w'.cell? ⟨g1, 8, none⟩ = some (.int .i64 a8) := (blk_cell h1_ 8).trans rfl
  clear h1_ h3_
  go_simp
  with_reducible rfl
 rotate_left
 ·simp only [Act.put, List.setIfInBounds_toArray, List.set_cons_zero, List.set_cons_succ, i64_w, i32_w]
  rfl
 refine take_ (i := 23) (N := some 35) (v := ?_) (a' := ?_) #[true, true, false, true, true, false, false, true, true, false, true, true, false, true, true, false, true, true, false, true, true, false, true, true, false, true, false, false, true, false, false, false, false, false] rfl rfl (take_ofW HT_.out HW_.out (by kernel_rfl)) (fun _ _ _ h => h) (Or.inl ⟨by rfl, ?_⟩) hHeld ?_ ?_
 rotate_left
 ·rintro w' ⟨h1_, h3_⟩
  have s_ : w'.cell? ⟨g1, 9, none⟩ = some (.slice A9 l9.length c9) := (blk_cell h1_ 9).trans rfl
  clear h1_ h3_
  go_simp
  with_reducible rfl
 rotate_left
 ·simp only [Act.put, List.setIfInBounds_toArray, List.set_cons_zero, List.set_cons_succ, i64_w, i32_w]
  rfl
 refine take_ (i := 26) (N := some 38) (v := ?_) (a' := ?_) #[true, true, false, true, true, false, false, true, true, false, true, true, false, true, true, false, true, true, false, true, true, false, true, true, false, true, true, false, true, false, false, false, false, false] rfl rfl (take_ofW HT_.out HW_.out (by kernel_rfl)) (fun _ _ _ h => h) (Or.inl ⟨by rfl, ?_⟩) hHeld ?_ ?_
 rotate_left
 ·rintro w' ⟨h1_, h3_⟩
  have s_ : w'.cell? ⟨g1, 10, none⟩ = some (.slice A10 l10.length c10) := (blk_cell h1_ 10).trans rfl
  clear h1_ h3_
  go_simp
  with_reducible rfl
 rotate_left
 ·simp only [Act.put, List.setIfInBounds_toArray, List.set_cons_zero, List.set_cons_succ, i64_w, i32_w]
  rfl
 refine take_ (i := 29) (N := some 41) (v := ?_) (a' := ?_) #[true, true, false, true, true, false, false, true, true, false, true, true, false, true, true, false, true, true, false, true, true, false, true, true, false, true, true, false, true, true, false, false, false, false] rfl rfl (take_ofW HT_.out HW_.out (by kernel_rfl)) (fun _ _ _ h => h) (Or.inl ⟨by rfl, ?_⟩) hHeld ?_ ?_
 rotate_left
 ·rintro w' ⟨h1_, h3_⟩
  have s_ : w'.cell? ⟨g1, 11, none⟩ = some (.slice A11 l11.length c11) := (blk_cell h1_ 11).trans rfl
  clear h1_ h3_
  go_simp
  with_reducible rfl
 rotate_left
 ·simp only [Act.put, List.setIfInBounds_toArray, List.set_cons_zero, List.set_cons_succ, i64_w, i32_w]
  rfl
 refine take_ (i := 6) (N := some 18) (v := ?_) (a' := ?_) #[true, true, false, true, true, false, true, true, true, false, true, true, false, true, true, false, true, true, false, true, true, false, true, true, false, true, true, false, true, true, false, false, false, false] rfl rfl (take_ofW HT_.out HW_.out (by kernel_rfl)) (fun _ _ _ h => h) (Or.inl ⟨by rfl, ?_⟩) hHeld ?_ ?_
 rotate_left
 ·rintro w' ⟨h1_, h3_⟩
  have s0_ : w'.cell? ⟨g3, 0, none⟩ = some (.int .i64 48) := (blk_cell h3_ 0).trans rfl
  have s1_ : w'.cell? ⟨g3, 1, none⟩ = some (.string (⟨#[]⟩ : ByteArray)) := (blk_cell h3_ 1).trans rfl
  have s2_ : w'.cell? ⟨g3, 2, none⟩ = some (.slice (some ⟨g10, 0, none⟩) 2 2) := (blk_cell h3_ 2).trans rfl
  clear h1_ h3_
  go_simp
  with_reducible rfl
 rotate_left
 ·simp only [Act.put, List.setIfInBounds_toArray, List.set_cons_zero, List.set_cons_succ, i64_w, i32_w]
  rfl
 refine one_ (i := 2) (N := some 14) #[true, true, true, true, true, false, true, true, true, false, true, true, false, true, true, false, true, true, false, true, true, false, true, true, false, true, true, false, true, true, false, false, false, false] rfl rfl (one_of HT_.out (by kernel_rfl)) (by decide) (fun K hK => ?_)
 refine goes_ Try.func59 (by kernel_rfl) rfl #[.int .i64 a0] (by rfl) rfl rfl (by (try simp only [List.map_toArray, List.map_cons, List.map_nil]); first | done | rfl) ?_
 with_reducible refine (spec_IntItem.calls k a0 t0 x0 [] _ E0.out).mono ?_
 rintro e w6 ⟨v, rfl, ho, hb⟩
 refine ⟨_, rfl, ?_⟩
 replace HS := Aside0.mk (HS.out.below hb)
 replace HX := Aside0.mk (blk_below HX.out hb)
 replace H10 := Aside0.mk (blk_below H10.out hb)
 obtain ⟨D2, d2, ev⟩ := Kd.R_slice ho
 subst ev
 clear ho hb
 refine hK.out _ _ ⟨HS.out.c1, HX.out⟩ (fun hHeld => ?_)
 clear hK K
 refine norm_ (a' := ?_) ?_ ?_
 rotate_left
 ·show Act.put _ (some 14) _ = _
  simp only [Act.put, List.setIfInBounds_toArray, List.set_cons_zero, List.set_cons_succ, i64_w, i32_w]
  rfl
 refine one_ (i := 5) (N := some 17) #[true, true, true, true, true, true, true, true, true, false, true, true, false, true, true, false, true, true, false, true, true, false, true, true, false, true, true, false, true, true, false, false, false, false] rfl rfl (one_of HT_.out (by kernel_rfl)) (by decide) (fun K hK => ?_)
 refine goes_ Try.func60 (by kernel_rfl) rfl #[.string a1] (by rfl) rfl rfl (by (try simp only [List.map_toArray, List.map_cons, List.map_nil]); first | done | rfl) ?_
 with_reducible refine (spec_TextItem.calls a1 t1 x1 [] _ E1.out).mono ?_
 rintro e w7 ⟨v, rfl, ho, hb⟩
 refine ⟨_, rfl, ?_⟩
 replace HS := Aside0.mk (HS.out.below hb)
 replace HX := Aside0.mk (blk_below HX.out hb)
 replace H10 := Aside0.mk (blk_below H10.out hb)
 obtain ⟨D5, d5, ev⟩ := Kd.R_slice ho
 subst ev
 clear ho hb
 refine hK.out _ _ ⟨HS.out.c1, HX.out⟩ (fun hHeld => ?_)
 clear hK K
 refine norm_ (a' := ?_) ?_ ?_
 rotate_left
 ·show Act.put _ (some 17) _ = _
  simp only [Act.put, List.setIfInBounds_toArray, List.set_cons_zero, List.set_cons_succ, i64_w, i32_w]
  rfl
 refine one_ (i := 9) (N := some 21) #[true, true, true, true, true, true, true, true, true, true, true, true, false, true, true, false, true, true, false, true, true, false, true, true, false, true, true, false, true, true, false, false, false, false] rfl rfl (one_of HT_.out (by kernel_rfl)) (by decide) (fun K hK => ?_)
 refine goes_ Try.func60 (by kernel_rfl) rfl #[.string a2] (by rfl) rfl rfl (by (try simp only [List.map_toArray, List.map_cons, List.map_nil]); first | done | rfl) ?_
 with_reducible refine (spec_TextItem.calls a2 t2 x2 [] _ E2.out).mono ?_
 rintro e w8 ⟨v, rfl, ho, hb⟩
 refine ⟨_, rfl, ?_⟩
 replace HS := Aside0.mk (HS.out.below hb)
 replace HX := Aside0.mk (blk_below HX.out hb)
 replace H10 := Aside0.mk (blk_below H10.out hb)
 obtain ⟨D9, d9, ev⟩ := Kd.R_slice ho
 subst ev
 clear ho hb
 refine hK.out _ _ ⟨HS.out.c1, HX.out⟩ (fun hHeld => ?_)
 clear hK K
 refine norm_ (a' := ?_) ?_ ?_
 rotate_left
 ·show Act.put _ (some 21) _ = _
  simp only [Act.put, List.setIfInBounds_toArray, List.set_cons_zero, List.set_cons_succ, i64_w, i32_w]
  rfl
 refine one_ (i := 12) (N := some 24) #[true, true, true, true, true, true, true, true, true, true, true, true, true, true, true, false, true, true, false, true, true, false, true, true, false, true, true, false, true, true, false, false, false, false] rfl rfl (one_of HT_.out (by kernel_rfl)) (by decide) (fun K hK => ?_)
 refine goes_ Try.func61 (by kernel_rfl) rfl #[.string a5] (by rfl) rfl rfl (by (try simp only [List.map_toArray, List.map_cons, List.map_nil]); first | done | rfl) ?_
 with_reducible refine (spec_l09Bytes.calls a5 t5 x5 [] _ E5.out).mono ?_
 rintro e w9 ⟨v, rfl, ho, hb⟩
 refine ⟨_, rfl, ?_⟩
 replace HS := Aside0.mk (HS.out.below hb)
 replace HX := Aside0.mk (blk_below HX.out hb)
 replace H10 := Aside0.mk (blk_below H10.out hb)
 obtain ⟨D12, d12, ev⟩ := Kd.R_slice ho
 subst ev
 clear ho hb
 refine hK.out _ _ ⟨HS.out.c1, HX.out⟩ (fun hHeld => ?_)
 clear hK K
 refine norm_ (a' := ?_) ?_ ?_
 rotate_left
 ·show Act.put _ (some 24) _ = _
  simp only [Act.put, List.setIfInBounds_toArray, List.set_cons_zero, List.set_cons_succ, i64_w, i32_w]
  rfl
 refine one_ (i := 15) (N := some 27) #[true, true, true, true, true, true, true, true, true, true, true, true, true, true, true, true, true, true, false, true, true, false, true, true, false, true, true, false, true, true, false, false, false, false] rfl rfl (one_of HT_.out (by kernel_rfl)) (by decide) (fun K hK => ?_)
 refine goes_ Try.func62 (by kernel_rfl) rfl #[.bool a6] (by rfl) rfl rfl (by (try simp only [List.map_toArray, List.map_cons, List.map_nil]); first | done | rfl) ?_
 with_reducible refine (spec_l09Bool.calls a6 t6 x6 [] _ E6.out).mono ?_
 rintro e w10 ⟨v, rfl, ho, hb⟩
 refine ⟨_, rfl, ?_⟩
 replace HS := Aside0.mk (HS.out.below hb)
 replace HX := Aside0.mk (blk_below HX.out hb)
 replace H10 := Aside0.mk (blk_below H10.out hb)
 obtain ⟨D15, d15, ev⟩ := Kd.R_slice ho
 subst ev
 clear ho hb
 refine hK.out _ _ ⟨HS.out.c1, HX.out⟩ (fun hHeld => ?_)
 clear hK K
 refine norm_ (a' := ?_) ?_ ?_
 rotate_left
 ·show Act.put _ (some 27) _ = _
  simp only [Act.put, List.setIfInBounds_toArray, List.set_cons_zero, List.set_cons_succ, i64_w, i32_w]
  rfl
 refine one_ (i := 18) (N := some 30) #[true, true, true, true, true, true, true, true, true, true, true, true, true, true, true, true, true, true, true, true, true, false, true, true, false, true, true, false, true, true, false, false, false, false] rfl rfl (one_of HT_.out (by kernel_rfl)) (by decide) (fun K hK => ?_)
 refine goes_ Try.func59 (by kernel_rfl) rfl #[.int .i64 a7] (by rfl) rfl rfl (by (try simp only [List.map_toArray, List.map_cons, List.map_nil]); first | done | rfl) ?_
 with_reducible refine (spec_IntItem.calls k a7 t7 x7 [] _ E7.out).mono ?_
 rintro e w11 ⟨v, rfl, ho, hb⟩
 refine ⟨_, rfl, ?_⟩
 replace HS := Aside0.mk (HS.out.below hb)
 replace HX := Aside0.mk (blk_below HX.out hb)
 replace H10 := Aside0.mk (blk_below H10.out hb)
 obtain ⟨D18, d18, ev⟩ := Kd.R_slice ho
 subst ev
 clear ho hb
 refine hK.out _ _ ⟨HS.out.c1, HX.out⟩ (fun hHeld => ?_)
 clear hK K
 refine norm_ (a' := ?_) ?_ ?_
 rotate_left
 ·show Act.put _ (some 30) _ = _
  simp only [Act.put, List.setIfInBounds_toArray, List.set_cons_zero, List.set_cons_succ, i64_w, i32_w]
  rfl
 refine one_ (i := 21) (N := some 33) #[true, true, true, true, true, true, true, true, true, true, true, true, true, true, true, true, true, true, true, true, true, true, true, true, false, true, true, false, true, true, false, false, false, false] rfl rfl (one_of HT_.out (by kernel_rfl)) (by decide) (fun K hK => ?_)
 refine goes_ Try.func59 (by kernel_rfl) rfl #[.int .i64 a8] (by rfl) rfl rfl (by (try simp only [List.map_toArray, List.map_cons, List.map_nil]); first | done | rfl) ?_
 with_reducible refine (spec_IntItem.calls k a8 t8 x8 [] _ E8.out).mono ?_
 rintro e w12 ⟨v, rfl, ho, hb⟩
 refine ⟨_, rfl, ?_⟩
 replace HS := Aside0.mk (HS.out.below hb)
 replace HX := Aside0.mk (blk_below HX.out hb)
 replace H10 := Aside0.mk (blk_below H10.out hb)
 obtain ⟨D21, d21, ev⟩ := Kd.R_slice ho
 subst ev
 clear ho hb
 refine hK.out _ _ ⟨HS.out.c1, HX.out⟩ (fun hHeld => ?_)
 clear hK K
 refine norm_ (a' := ?_) ?_ ?_
 rotate_left
 ·show Act.put _ (some 33) _ = _
  simp only [Act.put, List.setIfInBounds_toArray, List.set_cons_zero, List.set_cons_succ, i64_w, i32_w]
  rfl
 refine one_ (i := 24) (N := some 36) #[true, true, true, true, true, true, true, true, true, true, true, true, true, true, true, true, true, true, true, true, true, true, true, true, true, true, true, false, true, true, false, false, false, false] rfl rfl (one_of HT_.out (by kernel_rfl)) (by decide) (fun K hK => ?_)
 refine goes_ Try.func63 (by kernel_rfl) rfl #[.slice A9 l9.length c9] (by rfl) rfl rfl (by (try simp only [List.map_toArray, List.map_cons, List.map_nil]); first | done | rfl) ?_
 with_reducible refine (spec_l09Ints.calls k A9 c9 l9 t9 x9 L9 _ (Kd.C_below HR9.out HS.out.bel) HC9.out E9.out).mono ?_
 rintro e w13 ⟨v, rfl, ho, hb⟩
 refine ⟨_, rfl, ?_⟩
 have HN_ := Aside0.mk (Kd.R_lower (Kd.R_mono (Kd.R_bound ho) (fun k_ hk => ⟨Nat.le_trans HS.out.bel.size hk.2.1, Nat.ne_of_gt (Nat.lt_of_lt_of_le HS.out.lt2 hk.2.1)⟩)) HS.out.bel.size : Kd.R k26 26 w13 w.heap.size (fun k_ => w.heap.size ≤ k_ ∧ k_ ≠ g2) v _)
 replace HS := Aside0.mk (HS.out.below hb)
 replace HX := Aside0.mk (blk_below HX.out hb)
 replace H10 := Aside0.mk (blk_below H10.out hb)
 obtain ⟨D24, d24, ev⟩ := Kd.R_slice ho
 subst ev
 have HV24 := HN_
 clear HN_
 clear ho hb
 refine hK.out _ _ ⟨HS.out.c1, HX.out⟩ (fun hHeld => ?_)
 clear hK K
 refine norm_ (a' := ?_) ?_ ?_
 rotate_left
 ·show Act.put _ (some 36) _ = _
  simp only [Act.put, List.setIfInBounds_toArray, List.set_cons_zero, List.set_cons_succ, i64_w, i32_w]
  rfl
 refine one_ (i := 27) (N := some 39) #[true, true, true, true, true, true, true, true, true, true, true, true, true, true, true, true, true, true, true, true, true, true, true, true, true, true, true, true, true, true, false, false, false, false] rfl rfl (one_of HT_.out (by kernel_rfl)) (by decide) (fun K hK => ?_)
 refine goes_ Try.func64 (by kernel_rfl) rfl #[.slice A10 l10.length c10] (by rfl) rfl rfl (by (try simp only [List.map_toArray, List.map_cons, List.map_nil]); first | done | rfl) ?_
 with_reducible refine (spec_l09Texts.calls k A10 c10 l10 t10 x10 L10 _ (Kd.C_below HR10.out HS.out.bel) HC10.out E10.out).mono ?_
 rintro e w14 ⟨v, rfl, ho, hb⟩
 refine ⟨_, rfl, ?_⟩
 have HN_ := Aside0.mk (Kd.R_lower (Kd.R_mono (Kd.R_bound ho) (fun k_ hk => ⟨Nat.le_trans HS.out.bel.size hk.2.1, Nat.ne_of_gt (Nat.lt_of_lt_of_le HS.out.lt2 hk.2.1)⟩)) HS.out.bel.size : Kd.R k26 26 w14 w.heap.size (fun k_ => w.heap.size ≤ k_ ∧ k_ ≠ g2) v _)
 replace HS := Aside0.mk (HS.out.below hb)
 replace HX := Aside0.mk (blk_below HX.out hb)
 replace H10 := Aside0.mk (blk_below H10.out hb)
 replace HV24 := Aside0.mk (Kd.R_below HV24.out hb)
 obtain ⟨D27, d27, ev⟩ := Kd.R_slice ho
 subst ev
 have HV27 := HN_
 clear HN_
 clear ho hb
 refine hK.out _ _ ⟨HS.out.c1, HX.out⟩ (fun hHeld => ?_)
 clear hK K
 refine norm_ (a' := ?_) ?_ ?_
 rotate_left
 ·show Act.put _ (some 39) _ = _
  simp only [Act.put, List.setIfInBounds_toArray, List.set_cons_zero, List.set_cons_succ, i64_w, i32_w]
  rfl
 refine one_ (i := 30) (N := some 42) #[true, true, true, true, true, true, true, true, true, true, true, true, true, true, true, true, true, true, true, true, true, true, true, true, true, true, true, true, true, true, true, false, false, false] rfl rfl (one_of HT_.out (by kernel_rfl)) (by decide) (fun K hK => ?_)
 refine goes_ Try.func64 (by kernel_rfl) rfl #[.slice A11 l11.length c11] (by rfl) rfl rfl (by (try simp only [List.map_toArray, List.map_cons, List.map_nil]); first | done | rfl) ?_
 with_reducible refine (spec_l09Texts.calls k A11 c11 l11 t11 x11 L11 _ (Kd.C_below HR11.out HS.out.bel) HC11.out E11.out).mono ?_
 rintro e w15 ⟨v, rfl, ho, hb⟩
 refine ⟨_, rfl, ?_⟩
 have HN_ := Aside0.mk (Kd.R_lower (Kd.R_mono (Kd.R_bound ho) (fun k_ hk => ⟨Nat.le_trans HS.out.bel.size hk.2.1, Nat.ne_of_gt (Nat.lt_of_lt_of_le HS.out.lt2 hk.2.1)⟩)) HS.out.bel.size : Kd.R k26 26 w15 w.heap.size (fun k_ => w.heap.size ≤ k_ ∧ k_ ≠ g2) v _)
 replace HS := Aside0.mk (HS.out.below hb)
 replace HX := Aside0.mk (blk_below HX.out hb)
 replace H10 := Aside0.mk (blk_below H10.out hb)
 replace HV24 := Aside0.mk (Kd.R_below HV24.out hb)
 replace HV27 := Aside0.mk (Kd.R_below HV27.out hb)
 obtain ⟨D30, d30, ev⟩ := Kd.R_slice ho
 subst ev
 have HV30 := HN_
 clear HN_
 clear ho hb
 refine hK.out _ _ ⟨HS.out.c1, HX.out⟩ (fun hHeld => ?_)
 clear hK K
 refine norm_ (a' := ?_) ?_ ?_
 rotate_left
 ·show Act.put _ (some 42) _ = _
  simp only [Act.put, List.setIfInBounds_toArray, List.set_cons_zero, List.set_cons_succ, i64_w, i32_w]
  rfl
 refine one_ (i := 31) (N := some 43) #[true, true, true, true, true, true, true, true, true, true, true, true, true, true, true, true, true, true, true, true, true, true, true, true, true, true, true, true, true, true, true, true, false, false] rfl rfl (one_of HT_.out (by kernel_rfl)) (by decide) (fun K hK => ?_)
 have hb := below_alloc (Below.refl w15.heap.size w15) (.cells #[.int .i64 t0, .string x0, .slice D2 0 d2, .int .i64 t1, .string x1, .slice D5 0 d5, .int .i64 48, .string (⟨#[]⟩ : ByteArray), .slice (some ⟨g10, 0, none⟩) 2 2, .int .i64 t2, .string x2, .slice D9 0 d9, .int .i64 t5, .string x5, .slice D12 0 d12, .int .i64 t6, .string x6, .slice D15 0 d15, .int .i64 t7, .string x7, .slice D18 0 d18, .int .i64 t8, .string x8, .slice D21 0 d21, .int .i64 t9, .string x9, .slice D24 L9.length d24, .int .i64 t10, .string x10, .slice D27 L10.length d27, .int .i64 t11, .string x11, .slice D30 L11.length d30] 26)
 have hnew := heap_alloc_new w15 (.cells #[.int .i64 t0, .string x0, .slice D2 0 d2, .int .i64 t1, .string x1, .slice D5 0 d5, .int .i64 48, .string (⟨#[]⟩ : ByteArray), .slice (some ⟨g10, 0, none⟩) 2 2, .int .i64 t2, .string x2, .slice D9 0 d9, .int .i64 t5, .string x5, .slice D12 0 d12, .int .i64 t6, .string x6, .slice D15 0 d15, .int .i64 t7, .string x7, .slice D18 0 d18, .int .i64 t8, .string x8, .slice D21 0 d21, .int .i64 t9, .string x9, .slice D24 L9.length d24, .int .i64 t10, .string x10, .slice D27 L10.length d27, .int .i64 t11, .string x11, .slice D30 L11.length d30] 26)
 refine value_ (w1 := w15.alloc (.cells #[.int .i64 t0, .string x0, .slice D2 0 d2, .int .i64 t1, .string x1, .slice D5 0 d5, .int .i64 48, .string (⟨#[]⟩ : ByteArray), .slice (some ⟨g10, 0, none⟩) 2 2, .int .i64 t2, .string x2, .slice D9 0 d9, .int .i64 t5, .string x5, .slice D12 0 d12, .int .i64 t6, .string x6, .slice D15 0 d15, .int .i64 t7, .string x7, .slice D18 0 d18, .int .i64 t8, .string x8, .slice D21 0 d21, .int .i64 t9, .string x9, .slice D24 L9.length d24, .int .i64 t10, .string x10, .slice D27 L10.length d27, .int .i64 t11, .string x11, .slice D30 L11.length d30] 26)) (v := .slice (some ⟨w15.heap.size, 0, none⟩) 11 11) (by rfl) rfl ?_ ?_
 ·go_simp
  try rfl
 have HL := Aside0.mk (N_alloc_lit (W := w15) (base := w.heap.size) (ok := fun k_ => w.heap.size ≤ k_ ∧ k_ ≠ g2) (L := [(⟨t0, x0, []⟩ : S26), (⟨t1, x1, []⟩ : S26), (⟨48, (⟨#[]⟩ : ByteArray), [(⟨t3, x3, []⟩ : S26), (⟨t4, x4, []⟩ : S26)]⟩ : S26), (⟨t2, x2, []⟩ : S26), (⟨t5, x5, []⟩ : S26), (⟨t6, x6, []⟩ : S26), (⟨t7, x7, []⟩ : S26), (⟨t8, x8, []⟩ : S26), (⟨t9, x9, L9⟩ : S26), (⟨t10, x10, L10⟩ : S26), (⟨t11, x11, L11⟩ : S26)]) (inner := [.int .i64 t0, .string x0, .slice D2 0 d2, .int .i64 t1, .string x1, .slice D5 0 d5, .int .i64 48, .string (⟨#[]⟩ : ByteArray), .slice (some ⟨g10, 0, none⟩) 2 2, .int .i64 t2, .string x2, .slice D9 0 d9, .int .i64 t5, .string x5, .slice D12 0 d12, .int .i64 t6, .string x6, .slice D15 0 d15, .int .i64 t7, .string x7, .slice D18 0 d18, .int .i64 t8, .string x8, .slice D21 0 d21, .int .i64 t9, .string x9, .slice D24 L9.length d24, .int .i64 t10, .string x10, .slice D27 L10.length d27, .int .i64 t11, .string x11, .slice D30 L11.length d30]) (reps3 (leaf_F _ _ t0 x0 D2 d2) (reps3 (leaf_F _ _ t1 x1 D5 d5) (reps3 (fun W2 hW => k26_mk W2 (⟨48, (⟨#[]⟩ : ByteArray), [(⟨t3, x3, []⟩ : S26), (⟨t4, x4, []⟩ : S26)]⟩ : S26) (Nat.le_refl 2) (built_C (L := [(⟨t3, x3, []⟩ : S26), (⟨t4, x4, []⟩ : S26)]) (inner := [.int .i64 t3, .string x3, .slice A6 0 c6, .int .i64 t4, .string x4, .slice B6 0 d6]) ((hW g10 ⟨Nat.le_of_lt (Nat.lt_of_le_of_lt (Nat.le_trans HS.out.n1 (Nat.le_of_lt HS.out.n12)) N10.out), Nat.ne_of_gt N10.out⟩ (blk_lt H10.out)).trans H10.out) (reps3 (leaf_K W2 t3 x3 A6 c6) (reps3 (leaf_K W2 t4 x4 B6 d6) (Reps.none _ _))) (by simp only [List.length_cons, List.length_nil]; omega))) (reps3 (leaf_F _ _ t2 x2 D9 d9) (reps3 (leaf_F _ _ t5 x5 D12 d12) (reps3 (leaf_F _ _ t6 x6 D15 d15) (reps3 (leaf_F _ _ t7 x7 D18 d18) (reps3 (leaf_F _ _ t8 x8 D21 d21) (reps3 (row_F t9 x9 HV24.out) (reps3 (row_F t10 x10 HV27.out) (reps3 (row_F t11 x11 HV30.out) (Reps.none _ _)))))))))))) ⟨HS.out.bel.size, Nat.ne_of_gt HS.out.lt2⟩ HS.out.bel.size (by simp only [List.length_cons, List.length_nil]; omega))
 generalize w15.alloc (.cells _ 26) = wb at hb hnew HL ⊢
 obtain ⟨gL, hgL⟩ : ∃ b, b = w15.heap.size := ⟨_, rfl⟩
 rw [← hgL] at HL hnew ⊢
 clear hgL
 replace HS := Aside0.mk (HS.out.below hb)
 replace HX := Aside0.mk (blk_below HX.out hb)
 clear hb hnew
 refine hK.out _ _ ⟨HS.out.c1, HX.out⟩ (fun hHeld => ?_)
 clear hK K
 refine norm_ (a' := ?_) ?_ ?_
 rotate_left
 ·show Act.put _ (some 43) _ = _
  simp only [Act.put, List.setIfInBounds_toArray, List.set_cons_zero, List.set_cons_succ, i64_w, i32_w]
  rfl
 refine pure_ (i := 32) (N := some 44) (v := ?_) (a' := ?_) #[true, true, true, true, true, true, true, true, true, true, true, true, true, true, true, true, true, true, true, true, true, true, true, true, true, true, true, true, true, true, true, true, true, false] rfl rfl (any_of HT_.out (by kernel_rfl)) (fun _ _ _ h => h) (Or.inl ⟨by rfl, ?_⟩) ?_ ?_
 rotate_left
 ·intro w'
  go_simp
  with_reducible rfl
 rotate_left
 ·simp only [Act.put, List.setIfInBounds_toArray, List.set_cons_zero, List.set_cons_succ, i64_w, i32_w]
  rfl
 refine last_ (i := 33) (N := none) #[true, true, true, true, true, true, true, true, true, true, true, true, true, true, true, true, true, true, true, true, true, true, true, true, true, true, true, true, true, true, true, true, true, true] rfl rfl (one_of HT_.out (by kernel_rfl)) (by decide) (fun K hK => ?_)
 have hrun := lk_store_run wb g2 _ HS.out.c2 rfl 48 (⟨#[]⟩ : ByteArray) (.slice (some ⟨gL, 0, none⟩) 11 11) rfl
 refine skip_ (w1 := wb.setRow g2 #[.int .i64 48, .string (⟨#[]⟩ : ByteArray), .slice (some ⟨gL, 0, none⟩) 11 11]) (by rfl) rfl ?_ ?_
 ·show (execOp _ _).run _ _ = _
  simp [execOp, Act.eval, hrun, Result.andThen]
 refine hK.out _ _ ?_
 clear hK K
 refine done_ (done_of HT_.out (by kernel_rfl)) ?_
 try go_wp2
 have hfin := setRow_heap wb g2 _ #[.int .i64 48, .string (⟨#[]⟩ : ByteArray), .slice (some ⟨gL, 0, none⟩) 11 11] 26 _ HS.out.c2
 have hn2 : w.heap.size ≤ g2 := Nat.le_trans HS.out.n1 (Nat.le_of_lt HS.out.n12)
 refine bodyPost_ret (results_cell_row rfl _ _ g2 26 #[.int .i64 48, .string (⟨#[]⟩ : ByteArray), .slice (some ⟨gL, 0, none⟩) 11 11] (0, 0) _ rfl hfin Try.underlying26 rfl (by kernel_rfl)) rfl ?_
 exact ⟨_, rfl, Kd.N_mono (Kd.N_step HL.out (fun k_ hk _ => setRow_other _ g2 k_ _ hk.2)) (fun _ hk => hk.1), below_setRow HS.out.bel hn2 _⟩
theorem spec_BodyItem.calls (k : Nat) (a0_0 : Int) (a0_1 : ByteArray) (a0_2 : ByteArray) (a0_3 : Int) (a0_4 : Int) (a0_5 : ByteArray) (a0_6 : Bool) (a0_7 : Int) (a0_8 : Int) (A0_9 : Option Addr) (c0_9 : Nat) (l0_9 : List Int) (A0_10 : Option Addr) (c0_10 : Nat) (l0_10 : List ByteArray) (A0_11 : Option Addr) (c0_11 : Nat) (l0_11 : List ByteArray) (a0_12 : ByteArray) (r1 : Int) (r2 : ByteArray) (r3 : List (S26)) (w : World) (hr0_9 : Kd.C (Kd.int .i64) w A0_9 l0_9.length l0_9) (hc0_9 : l0_9.length ≤ c0_9) (hr0_10 : Kd.C Kd.string w A0_10 l0_10.length l0_10) (hc0_10 : l0_10.length ≤ c0_10) (hr0_11 : Kd.C Kd.string w A0_11 l0_11.length l0_11) (hc0_11 : l0_11.length ≤ c0_11) (h : spec_BodyItem.f k a0_0 a0_1 a0_2 a0_3 a0_4 a0_5 a0_6 a0_7 a0_8 l0_9 l0_10 l0_11 a0_12 = some (r1, r2, r3)) :
  Calls Try.prog 30 #[.agg #[.int .i64 a0_0, .string a0_1, .string a0_2, .int .i64 a0_3, .int .i64 a0_4, .string a0_5, .bool a0_6, .int .i64 a0_7, .int .i64 a0_8, .slice A0_9 l0_9.length c0_9, .slice A0_10 l0_10.length c0_10, .slice A0_11 l0_11.length c0_11, .string a0_12]] w fun e w' => ∃ v2_ : Value, e = .returned (.agg #[.int .i64 r1, .string r2, v2_]) ∧ Kd.N k26 26 w' w.heap.size (fun k_ => (w.heap.size ≤ k_)) v2_ r3 ∧ Below w.heap.size w w' := by
 simp only [spec_BodyItem.f] at h
 replace h := Option.bind_eq_some_iff.mp h
 obtain ⟨⟨t3, x3, L3⟩, e3, h⟩ := h
 replace h := Option.bind_eq_some_iff.mp h
 obtain ⟨⟨t4, x4, L4⟩, e4, h⟩ := h
 replace h := Option.bind_eq_some_iff.mp h
 obtain ⟨⟨t0, x0, L0⟩, e0, h⟩ := h
 replace h := Option.bind_eq_some_iff.mp h
 obtain ⟨⟨t1, x1, L1⟩, e1, h⟩ := h
 replace h := Option.bind_eq_some_iff.mp h
 obtain ⟨⟨t2, x2, L2⟩, e2, h⟩ := h
 replace h := Option.bind_eq_some_iff.mp h
 obtain ⟨⟨t5, x5, L5⟩, e5, h⟩ := h
 replace h := Option.bind_eq_some_iff.mp h
 obtain ⟨⟨t6, x6, L6⟩, e6, h⟩ := h
 replace h := Option.bind_eq_some_iff.mp h
 obtain ⟨⟨t7, x7, L7⟩, e7, h⟩ := h
 replace h := Option.bind_eq_some_iff.mp h
 obtain ⟨⟨t8, x8, L8⟩, e8, h⟩ := h
 replace h := Option.bind_eq_some_iff.mp h
 obtain ⟨⟨t9, x9, L9⟩, e9, h⟩ := h
 replace h := Option.bind_eq_some_iff.mp h
 obtain ⟨⟨t10, x10, L10⟩, e10, h⟩ := h
 replace h := Option.bind_eq_some_iff.mp h
 obtain ⟨⟨t11, x11, L11⟩, e11, h⟩ := h
 cases h
 obtain rfl := spec_IntItem.f_nil e3
 obtain rfl := spec_IntItem.f_nil e4
 obtain rfl := spec_IntItem.f_nil e0
 obtain rfl := spec_IntItem.f_nil e7
 obtain rfl := spec_IntItem.f_nil e8
 obtain rfl : L1 = [] := by cases e1; rfl
 obtain rfl : L2 = [] := by cases e2; rfl
 obtain rfl : L5 = [] := by cases e5; rfl
 obtain rfl : L6 = [] := by
  unfold spec_l09Bool.f at e6
  split at e6
  ·cases e6
   rfl
  ·cases e6
   rfl
 exact spec_BodyItem.core k a0_0 a0_3 a0_4 a0_7 a0_8 a0_1 a0_2 a0_5 a0_12 a0_6 A0_9 c0_9 l0_9 A0_10 c0_10 l0_10 A0_11 c0_11 l0_11 t0 t1 t2 t3 t4 t5 t6 t7 t8 t9 t10 t11 x0 x1 x2 x3 x4 x5 x6 x7 x8 x9 x10 x11 L9 L10 L11 w hr0_9 hc0_9 hr0_10 hc0_10 hr0_11 hc0_11 e3 e4 e0 e1 e2 e5 e6 e7 e8 e9 e10 e11

end Go.Proofs.Ytknalcnbkbkjdaa.GFnExactBodyText
