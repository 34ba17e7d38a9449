-- Written by a program of this session (gp.py) over the kit's printer: no printed text.
import Derived.Test.YtknalcnbkbkjdaaVGFnItemsx0
import Derived.Test.YtknalcnbkbkjdaaVGFnItemsx1
import Derived.Test.YtknalcnbkbkjdaaVGFnItemsx2
import Derived.Test.YtknalcnbkbkjdaaVGFnItemsx8
namespace Go.Proofs.Ytknalcnbkbkjdaa.GFnItems
open Go.RowKit Go.Proofs.YtknalcnbkbkjdaaW.PrintWords Go.Proofs.YtknalcnbkbkjdaaW.PrintLast Go.Proofs.YtknalcnbkbkjdaaW.PrintMore
attribute [local go_sem] max2_int min2_int max_two min_two max_three min_three max_four min_four   -- for this text's walks alone
set_option linter.unusedVariables false
set_option linter.unusedSimpArgs false

/-! ### spec_l07Any: function 43, by hand (l07any.lean.in) -/
section
variable {P : Program}
theorem la_store_f (w w' : World) {ops : Array Oper} {rest : List Oper} {o : Oper} {a : Act} {Q : Exit → Act → World → Prop} (hgd : o.guard = none) (t : TypeId) (x y : Operand) (X Y : Value) (ho : o.op = .store t x y) (hd : o.dst = none)
  (hx : a.eval x = X) (hy : a.eval y = Y) (hrun : (Instr.storeAt t X Y).run P w = .ok () w') (hK : wpList P ops Q rest a w') : wpList P ops Q (o :: rest) a w := by
 refine wpList_plain hgd fun K hK' => ?_
 unfold Oper.wp
 simp [execOp, ho, hx, hy, hrun, Result.andThen]
 have e : a.put o.dst undef = a := by rw [hd]; rfl
 rw [Oper.upon_skip, e]
 exact hK' _ _ hK
end
theorem la_grown (W : World) (b : Nat) (cs : Array Value) : W.grownBy (W.setRow b cs) (some b) := ⟨rfl, rfl, rfl, by simp, fun k _ hk => setRow_other W b k cs (fun e => hk (by rw [e]))⟩
structure LA (w0 w1 w : World) (g gr gx : Nat) (s0 : List Int) (i h t : Int) (tx : ByteArray) (v : Value) (ks : List (S26)) : Prop where
 row : Kd.R k26 26 w w1.heap.size (fun k => k ≠ gr ∧ k ≠ gx ∧ k ≠ g) v ks
 br : w.heap[gr]? = some (.cells #[.int .i64 0, .string (⟨#[]⟩ : ByteArray), .slice none 0 0] 26 (0, 0))
 bx : w.heap[gx]? = some (.cells #[.int .i64 t, .string tx, v] 26 (0, 0))
 st : IsS95 w0 w g s0 i h
 bel : Below w0.heap.size w0 w
 kp : KeepBut w1 w g none
 n0 : w0.heap.size ≤ w1.heap.size
 n1 : w1.heap.size ≤ gr
 n2 : gr < gx
 n3 : g < w1.heap.size
section
variable {w0 w1 w : World} {g gr gx : Nat} {s0 : List Int} {i h t : Int} {tx : ByteArray} {v : Value} {ks : List (S26)}
theorem LA.alloc (s : LA w0 w1 w g gr gx s0 i h t tx v ks) (o : Obj) : LA w0 w1 (w.alloc o) g gr gx s0 i h t tx v ks :=
 ⟨Kd.R_alloc s.row o, blk_alloc s.br o, blk_alloc s.bx o, s.st.alloc o, below_alloc s.bel o, keep_alloc s.kp o, s.n0, s.n1, s.n2, s.n3⟩
theorem LA.moved {w' : World} {i' h' : Int} (s : LA w0 w1 w g gr gx s0 i h t tx v ks) (hI : IsS95 w0 w' g s0 i' h') (hB : Below w0.heap.size w0 w') (hK : KeepBut w w' g none) : LA w0 w1 w' g gr gx s0 i' h' t tx v ks := by
 have h1 := s.n1
 have h2 := s.n2
 have h3 := s.n3
 exact ⟨Kd.R_keep s.row hK (fun k hk => hk.2.2), hK.blk s.br (by omega) (by simp), hK.blk s.bx (by omega) (by simp), hI, hB, s.kp.trans hK (.inl rfl), s.n0, s.n1, s.n2, s.n3⟩
theorem LA.set0 (s : LA w0 w1 w g gr gx s0 i h t tx v ks) (t' : Int) : LA w0 w1 (w.setCell ⟨gx, 0, none⟩ (.int .i64 t')) g gr gx s0 i h t' tx v ks := by
 have h0 := s.n0
 have h1 := s.n1
 have h2 := s.n2
 have h3 := s.n3
 exact ⟨Kd.R_far s.row (fun k hk => hk.2.1) _, (heap_setCell_other w ⟨gx, 0, none⟩ gr _ (by show gr ≠ gx; omega)).trans s.br, heap_setCell_same w gx 0 _ 26 _ s.bx, s.st.far (p := ⟨gx, 0, none⟩) (by show g ≠ gx; omega) _, s.bel.setCell (p := ⟨gx, 0, none⟩) (by show w0.heap.size ≤ gx; omega) _, keep_far s.kp (p := ⟨gx, 0, none⟩) (by show w1.heap.size ≤ gx; omega) _, s.n0, s.n1, s.n2, s.n3⟩
theorem LA.set1 (s : LA w0 w1 w g gr gx s0 i h t tx v ks) (tx' : ByteArray) : LA w0 w1 (w.setCell ⟨gx, 1, none⟩ (.string tx')) g gr gx s0 i h t tx' v ks := by
 have h0 := s.n0
 have h1 := s.n1
 have h2 := s.n2
 have h3 := s.n3
 exact ⟨Kd.R_far s.row (fun k hk => hk.2.1) _, (heap_setCell_other w ⟨gx, 1, none⟩ gr _ (by show gr ≠ gx; omega)).trans s.br, heap_setCell_same w gx 1 _ 26 _ s.bx, s.st.far (p := ⟨gx, 1, none⟩) (by show g ≠ gx; omega) _, s.bel.setCell (p := ⟨gx, 1, none⟩) (by show w0.heap.size ≤ gx; omega) _, keep_far s.kp (p := ⟨gx, 1, none⟩) (by show w1.heap.size ≤ gx; omega) _, s.n0, s.n1, s.n2, s.n3⟩
/-- The kid stands in a row of its own, and the list is written over x. -/
theorem LA.wrap (s : LA w0 w1 w g gr gx s0 i h t tx v ks) : LA w0 w1 ((w.alloc (.cells #[.int .i64 t, .string tx, v] 26)).setRow gx #[.int .i64 48, .string (⟨#[]⟩ : ByteArray), .slice (some ⟨w.heap.size, 0, none⟩) 1 1]) g gr gx s0 i h 48 (⟨#[]⟩ : ByteArray) (.slice (some ⟨w.heap.size, 0, none⟩) 1 1) [(⟨t, tx, ks⟩ : S26)] := by
 have h0 := s.n0
 have h1 := s.n1
 have h2 := s.n2
 have h3 := s.n3
 have hlt := blk_lt s.bx
 have hrow : Kd.R k26 26 (w.alloc (.cells #[.int .i64 t, .string tx, v] 26)) w1.heap.size (fun k => k ≠ gr ∧ k ≠ gx ∧ k ≠ g) (.slice (some ⟨w.heap.size, 0, none⟩) 1 1) [(⟨t, tx, ks⟩ : S26)] := by
  have hrep : Reps (k26.M w w1.heap.size (fun k => (k ≠ gr ∧ k ≠ gx ∧ k ≠ g))) 3 [(⟨t, tx, ks⟩ : S26)] [.int .i64 t, .string tx, v] :=
   (Reps.none _ 3).snoc (k26_mkM w w1.heap.size _ (⟨t, tx, ks⟩ : S26) s.row) rfl
  refine ⟨fun k hk => ?_, [.int .i64 t, .string tx, v], ?_, ?_⟩
  ·have hk2 : w.heap.size = k := by simpa [Value.ownBlock] using hk
   exact ⟨by omega, by omega, by omega⟩
  ·exact World.ownsRow_lit (base := w1.heap.size) (e := 26) (size := 3) w #[.int .i64 t, .string tx, v] 1 (by omega) (by decide) rfl
  ·refine hrep.imp_ (fun p c hp => k26.M_mono (fun k hk => ⟨hk.1, fun he => ?_⟩) (Kd.M_below (k26.M_bound hp) (below_alloc (Below.refl _ _) _)))
   have h4 : k = w.heap.size := by simpa [Value.ownBlock] using he
   have := hk.2.2.1
   omega
 exact ⟨Kd.R_step hrow (fun k hk _ => setRow_other _ gx k _ hk.2.1), (setRow_other _ gx gr _ (by omega)).trans (blk_alloc s.br _), setRow_heap _ gx _ _ 26 _ (blk_alloc s.bx _), (s.st.alloc _).grown (la_grown _ gx _) (by intro e; injection e with e; omega),
  below_setRow (below_alloc s.bel _) (by omega) _, (keep_alloc s.kp _).trans (KeepBut.of_grown (la_grown _ gx _) g) (.inr ⟨gx, rfl, by omega⟩), s.n0, s.n1, s.n2, s.n3⟩
theorem la_one (t : Int) (x : ByteArray) (v : Value) (hv : v.oneCell' = true) : (#[Value.int .i64 t, .string x, v] : Array Value).all (·.oneCell') = true := by
 rw [Array.all_eq_true_iff_forall_mem]
 intro u hu
 simp only [List.mem_toArray, List.mem_cons, List.not_mem_nil, or_false] at hu
 rcases hu with rfl | rfl | rfl
 ·rfl
 ·rfl
 ·exact hv
/-- x as the result. -/
theorem LA.done (s : LA w0 w1 w g gr gx s0 i h t tx v ks) : LA w0 w1 (w.setRow gr #[.int .i64 t, .string tx, v]) g gr gx s0 i h t tx v ks ∨ True := .inr trivial
theorem LA.fin (s : LA w0 w1 w g gr gx s0 i h t tx v ks) : (w.setRow gr #[.int .i64 t, .string tx, v]).heap[gr]? = some (.cells #[.int .i64 t, .string tx, v] 26 (0, 0)) ∧ Kd.R k26 26 (w.setRow gr #[.int .i64 t, .string tx, v]) w1.heap.size (fun _ => True) v ks ∧ IsS95 w0 (w.setRow gr #[.int .i64 t, .string tx, v]) g s0 i h ∧ Below w0.heap.size w0 (w.setRow gr #[.int .i64 t, .string tx, v]) ∧ KeepBut w1 (w.setRow gr #[.int .i64 t, .string tx, v]) g none := by
 have h0 := s.n0
 have h1 := s.n1
 have h2 := s.n2
 have h3 := s.n3
 exact ⟨setRow_heap _ gr _ _ 26 _ s.br, Kd.R_mono (Kd.R_step s.row (fun k hk _ => setRow_other _ gr k _ hk.1)) (fun _ _ => trivial), s.st.grown (la_grown _ gr _) (by intro e; injection e with e; omega), below_setRow s.bel (by omega) _, s.kp.trans (KeepBut.of_grown (la_grown _ gr _) g) (.inr ⟨gr, rfl, by omega⟩)⟩
theorem LA.store (s : LA w0 w1 w g gr gx s0 i h t tx v ks) (b : Nat) (old : Array Value) (hb : w.heap[b]? = some (.cells old 26 (0, 0))) (ho : old.size = 3) (a c d : Value) (h1 : (#[a, c, d] : Array Value).all (·.oneCell') = true) :
  (Instr.storeAt 26 (.pointer (some ⟨b, 0, none⟩)) (.agg #[a, c, d])).run Try.prog w = .ok () (w.setRow b #[a, c, d]) := by
 simp only [Instr.storeAt, Instr.sureAddr, Sem.run_bind, Sem.run_pure, Result.andThen]
 exact run_storeVar_row w b 26 26 old #[a, c, d] hb (by kernel_rfl) ho h1
end
def nestV : Nat → S26 → S26
 | 0, x => x
 | n + 1, x => (⟨48, (⟨#[]⟩ : ByteArray), [nestV n x]⟩ : S26)
theorem la_alloc_f {P : Program} (w w' : World) {ops : Array Oper} {rest : List Oper} {o : Oper} {a : Act} {Q : Exit → Act → World → Prop} (hgd : o.guard = none) (t : TypeId) (v : Value) (ho : o.op = .alloc t)
  (hrun : (Instr.alloc t true (.tuple #[])).run P w = .ok v w') (hK : wpList P ops Q rest (a.put o.dst v) w') : wpList P ops Q (o :: rest) a w := by
 refine wpList_plain hgd fun K hK' => ?_
 unfold Oper.wp
 simp [execOp, ho, hrun, Result.andThen]
 exact hK' _ _ hK
theorem la_alloc_run (w : World) : (Instr.alloc 26 true (.tuple #[])).run Try.prog w = .ok (.pointer (some ⟨w.heap.size, 0, none⟩)) (w.alloc (.cells #[.int .i64 0, .string (⟨#[]⟩ : ByteArray), .slice none 0 0] 26)) := by kernel_rfl
theorem LA.below {w0 w1 w w' : World} {g gr gx : Nat} {s0 : List Int} {i h t : Int} {tx : ByteArray} {v : Value} {ks : List (S26)} (s : LA w0 w1 w g gr gx s0 i h t tx v ks) (hb : Below w.heap.size w w') : LA w0 w1 w' g gr gx s0 i h t tx v ks :=
 s.moved (s.st.below hb) (s.bel.trans (hb.mono s.bel.size)) (KeepBut.of_below hb g none)
def spec_l07Any.f (k : Nat) (s0_0 : List Int) (s0_1 : Int) (s0_2 : Int) : Option (Int × ByteArray × (List (S26)) × Int × Int) := (spec_l01Below.f s0_0 s0_1 s0_2 12).bind fun bt1 => ((spec_l07Item.f k s0_0 bt1.2.1 bt1.2.2 3).bind fun bt2 => (if bt1.1 = 0 then ((spec_l01PickInt.f s0_0 bt2.2.2.2.1 bt2.2.2.2.2 (([0, 1, 2, 3, 48, 256] : List Int))).bind fun bt3 => (some (bt3.1, bt2.2.1, bt2.2.2.1, bt3.2.1, bt3.2.2))) else (if bt1.1 = 1 then (if bt2.2.1.size + 1 ≤ 9223372036854775807 then (some (bt2.1, bt2.2.1 ++ (⟨#[0]⟩ : ByteArray), bt2.2.2.1, bt2.2.2.2.1, bt2.2.2.2.2)) else (none)) else (if bt1.1 = 2 then (some ((nestV 6 (⟨bt2.1, bt2.2.1, bt2.2.2.1⟩ : S26)).f0, (nestV 6 (⟨bt2.1, bt2.2.1, bt2.2.2.1⟩ : S26)).f1, (nestV 6 (⟨bt2.1, bt2.2.1, bt2.2.2.1⟩ : S26)).f2, bt2.2.2.2.1, bt2.2.2.2.2)) else (some bt2)))))
theorem spec_l07Any.mono : ∀ a0 a1 a2 k, LeO (spec_l07Any.f k a0 a1 a2) (spec_l07Any.f (k + 1) a0 a1 a2) := by
 intro a0 a1 a2 k
 unfold spec_l07Any.f
 repeat' first
   | (with_reducible exact spec_l07Item.mono _ _ _ _ _)
   | (with_reducible exact LeO.refl _)
   | (with_reducible exact LeO.none _)
   | (with_reducible refine LeO.ite ?_ ?_)
   | (with_reducible refine LeO.bind ?_ (fun _ => ?_))
set_option maxHeartbeats 8000000 in
set_option maxRecDepth 100000 in
theorem spec_l07Any.calls (k : Nat) (g : Nat) (s0_0 : List Int) (s0_1 : Int) (s0_2 : Int) (r1 : Int) (r2 : ByteArray) (r3 : List (S26)) (r4 : Int) (r5 : Int) (w0 w : World) (hI : IsS95 w0 w g s0_0 s0_1 s0_2) (hB : Below w0.heap.size w0 w) (h : spec_l07Any.f k s0_0 s0_1 s0_2 = some (r1, r2, r3, r4, r5)) :
  Calls Try.prog 43 #[.pointer (some ⟨g, 0, none⟩)] w fun e w' => ∃ v2_ : Value, e = .returned (.agg #[.int .i64 r1, .string r2, v2_]) ∧ Kd.R k26 26 w' w.heap.size (fun _ => True) v2_ r3 ∧ IsS95 w0 w' g s0_0 r4 r5 ∧ Below w0.heap.size w0 w' ∧ KeepBut w w' g none := by
 obtain ⟨B0, hB0⟩ : ∃ b, w.heap.size = b := ⟨_, rfl⟩
 rw [hB0]
 have HBB := Aside0.mk hB0
 clear hB0
 unfold spec_l07Any.f at h
 obtain ⟨⟨b, i1, h1⟩, hA, h⟩ := Option.bind_eq_some_iff.mp h
 obtain ⟨⟨t, tx, ks, i2, h2⟩, hX, h⟩ := Option.bind_eq_some_iff.mp h
 have h := (show (if b = 0 then ((spec_l01PickInt.f s0_0 i2 h2 (([0, 1, 2, 3, 48, 256] : List Int))).bind fun bt3 => (some (bt3.1, tx, ks, bt3.2.1, bt3.2.2))) else (if b = 1 then (if tx.size + 1 ≤ 9223372036854775807 then (some (t, tx ++ (⟨#[0]⟩ : ByteArray), ks, i2, h2)) else (none)) else (if b = 2 then (some ((nestV 6 (⟨t, tx, ks⟩ : S26)).f0, (nestV 6 (⟨t, tx, ks⟩ : S26)).f1, (nestV 6 (⟨t, tx, ks⟩ : S26)).f2, i2, h2)) else (some (t, tx, ks, i2, h2))))) = some (r1, r2, r3, r4, r5) from h)
 have HA := Aside0.mk hA
 have HX := Aside0.mk hX
 have H := Aside0.mk h
 have hg : g < w.heap.size := hI.lt
 have hs0 : w0.heap.size ≤ w.heap.size := hB.size
 have HI := Aside0.mk hI
 have HB := Aside0.mk hB
 clear hA hX h hI hB
 go_enter Try.func43, Try.ntmps43
 go_upto_region 1 with (refine la_alloc_f _ _ rfl 26 _ rfl (la_alloc_run _) ?_)
 simp only [Act.put, List.setIfInBounds_toArray, List.set_cons_zero, List.set_cons_succ]
 obtain ⟨gr, hgr⟩ : ∃ b, w.heap.size = b := ⟨_, rfl⟩
 have hbr := heap_alloc_new w (.cells #[.int .i64 0, .string (⟨#[]⟩ : ByteArray), .slice none 0 0] 26)
 have hi1 := HI.out.alloc (.cells #[.int .i64 0, .string (⟨#[]⟩ : ByteArray), .slice none 0 0] 26)
 have hb1 := below_alloc HB.out (.cells #[.int .i64 0, .string (⟨#[]⟩ : ByteArray), .slice none 0 0] 26)
 have hk1 := keep_alloc (KeepBut.refl w g none) (.cells #[.int .i64 0, .string (⟨#[]⟩ : ByteArray), .slice none 0 0] 26)
 have hsz1 : gr < (w.alloc (.cells #[.int .i64 0, .string (⟨#[]⟩ : ByteArray), .slice none 0 0] 26)).heap.size := by rw [← hgr]; simp
 rw [hgr] at hbr ⊢
 generalize w.alloc (.cells #[.int .i64 0, .string (⟨#[]⟩ : ByteArray), .slice none 0 0] 26) = W1 at hbr hi1 hb1 hk1 hsz1 ⊢
 have BR := Aside0.mk hbr
 have HI1 := Aside0.mk hi1
 have HB1 := Aside0.mk hb1
 have HK1 := Aside0.mk hk1
 have HS1 := Aside0.mk hsz1
 have HGR := Aside0.mk hgr
 have HG := Aside0.mk hg
 have HS0 := Aside0.mk hs0
 clear hbr hi1 hb1 hk1 hsz1 HI HB hg hs0
 go_upto_region 2 with (go_at_call 41; refine (spec_l01Below.calls g s0_0 s0_1 s0_2 12 b i1 h1 w0 _ HI1.out HB1.out HA.out).mono ?_; rintro e w2 ⟨rfl, hi, hb, hk⟩; have HI2 := Aside0.mk hi; have HB2 := Aside0.mk hb; have HK2 := Aside0.mk hk; clear hi hb hk)
 have hst2 : ∀ (w_ : World) (t_ : Int) (x_ : ByteArray) (v_ : Value), v_.oneCell' = true → (Instr.storeAt 26 (.pointer (some ⟨w_.heap.size, 0, none⟩)) (.agg #[.int .i64 t_, .string x_, v_])).run Try.prog (w_.alloc (.cells #[.int .i64 0, .string (⟨#[]⟩ : ByteArray), .slice none 0 0] 26)) = .ok () (w_.alloc (.cells #[.int .i64 t_, .string x_, v_] 26)) :=
  fun w_ t_ x_ v_ hv => run_storeAt_new w_ 26 _ _ (by kernel_rfl) rfl (la_one t_ x_ v_ hv)
 have HST := Aside0.mk hst2
 clear hst2
 go_upto_region 3 with (first
  | (go_at_call 37; refine (spec_l07Item.calls k g s0_0 i1 h1 3 t tx ks i2 h2 w0 _ HI2.out HB2.out HX.out).mono ?_; rintro e w3 ⟨v2, rfl, hr, hi, hb, hk⟩; have HR3 := Aside0.mk hr; have HI3 := Aside0.mk hi; have HB3 := Aside0.mk hb; have HK3 := Aside0.mk hk; clear hi hb hk; obtain ⟨A2_, c2_, e2_⟩ := Kd.R_slice hr; subst e2_; clear hr)
  | (refine la_alloc_f _ _ rfl 26 _ rfl (la_alloc_run _) ?_)
  | (refine la_store_f _ _ rfl 26 _ _ _ _ rfl rfl rfl rfl (HST.out _ _ _ _ rfl) ?_))
 simp only [Act.put, List.setIfInBounds_toArray, List.set_cons_zero, List.set_cons_succ]
 obtain ⟨gx, hgx⟩ : ∃ b, w3.heap.size = b := ⟨_, rfl⟩
 obtain ⟨v2, hv2⟩ : ∃ v, (Value.slice A2_ ks.length c2_) = v := ⟨_, rfl⟩
 have hla : LA w0 w (w3.alloc (.cells #[.int .i64 t, .string tx, v2] 26)) g gr gx s0_0 i2 h2 t tx v2 ks := by
  have q1 := HK1.out.1
  have q2 := HK2.out.1
  have q3 := HK3.out.1
  have q4 := HS1.out
  have q5 := HGR.out
  have q6 := HG.out
  have hr := HR3.out
  rw [hv2] at hr
  refine ⟨?_, ?_, ?_, HI3.out.alloc _, below_alloc HB3.out _, keep_alloc (((HK1.out.trans HK2.out (.inl rfl))).trans HK3.out (.inl rfl)) _, HS0.out, by omega, by omega, by omega⟩
  ·refine Kd.R_lower (Kd.R_alloc (Kd.R_mono (Kd.R_bound hr) (fun k_ hk => ?_)) _) (by omega)
   have a1 := hk.2.1
   have a2 := hk.2.2.1
   exact ⟨by omega, by omega, by omega⟩
  ·exact blk_alloc (HK3.out.blk (HK2.out.blk BR.out (by omega) (by simp)) (by omega) (by simp)) _
  ·rw [← hgx]; exact heap_alloc_new w3 _
 rw [hgx, hv2]
 generalize w3.alloc (.cells #[.int .i64 t, .string tx, v2] 26) = W4 at hla ⊢
 have HL := Aside0.mk hla
 have HGX := Aside0.mk hgx
 have HO1 := Aside0.mk (show v2.oneCell' = true by rw [← hv2]; rfl)
 clear hla HR3 HI3 HB3 HK3 HI2 HB2 HK2 HI1 HB1 HK1 BR HS1 HGR HS0 HG hgx hv2
 clear A2_ c2_
 have HFIN := Aside0.mk (fun (w_ : World) (i_ h_ t_ : Int) (x_ : ByteArray) (v_ : Value) (ks_ : List (S26)) (hl : LA w0 w w_ g gr gx s0_0 i_ h_ t_ x_ v_ ks_) (hv : v_.oneCell' = true) => hl.store gr _ hl.br rfl (.int .i64 t_) (.string x_) v_ (la_one t_ x_ v_ hv))
 have HI39 := Aside0.mk (show ∀ a c d : Value, (Try.prog.info? 26).map (·.size) = some (#[a, c, d] : Array Value).size from fun a c d => by kernel_rfl)
 by_cases c0 : b = 0
 ·subst c0
  have H1 := H.out
  rw [if_pos rfl] at H1
  obtain ⟨⟨t', i3, h3⟩, hP, H1⟩ := Option.bind_eq_some_iff.mp H1
  have H1 := (show some (t', tx, ks, i3, h3) = some (r1, r2, r3, r4, r5) from H1)
  simp only [Option.some.injEq, Prod.mk.injEq] at H1
  obtain ⟨rfl, rfl, rfl, rfl, rfl⟩ := H1
  have HPP := Aside0.mk hP
  clear hP H
  go_upto_region 5 with (fail)
  go_upto_region 14 with (first
   | ((with_reducible refine gate_dst (N := 15) rfl ?_); refine Kd.R_lit (Kd.int .i64) _ 3 ?hg (N := 15) ?hd (xs := ([0, 1, 2, 3, 48, 256] : List Int)) (inner := [.int .i64 0, .int .i64 1, .int .i64 2, .int .i64 3, .int .i64 48, .int .i64 256]) (ok := fun _ => True) (okp := fun _ => True) ?hr ?hp (fun _ hk => hk) trivial (Below.refl _ _) (Nat.le_refl _) (by simp) ?_; (case hd => rfl); (case hg => rfl); (case hr => first | (go_simp; done) | (go_simp; rfl)); (case hp => exact (Reps.one (show Kd.M (Kd.int .i64) _ _ _ 0 [.int .i64 0] from rfl) (Reps.one (show Kd.M (Kd.int .i64) _ _ _ 1 [.int .i64 1] from rfl) (Reps.one (show Kd.M (Kd.int .i64) _ _ _ 2 [.int .i64 2] from rfl) (Reps.one (show Kd.M (Kd.int .i64) _ _ _ 3 [.int .i64 3] from rfl) (Reps.one (show Kd.M (Kd.int .i64) _ _ _ 48 [.int .i64 48] from rfl) (Reps.one (show Kd.M (Kd.int .i64) _ _ _ 256 [.int .i64 256] from rfl) (Reps.none _ _)))))))); intro v5 w5 ho5 hb5 hg5 hn5; clear hg5 hn5; have HL5 := Aside0.mk (HL.out.below hb5); have HO5 := Aside0.mk ho5; obtain ⟨A5, c5, e5⟩ := Kd.R_slice ho5; subst e5; clear ho5 hb5)
   | (go_at_call 77; refine (spec_l01PickInt.calls g s0_0 i2 h2 _ _ [0, 1, 2, 3, 48, 256] t' i3 h3 w0 _ HL5.out.st HL5.out.bel (Kd.R_reads' HO5.out).2.2 (Kd.R_reads' HO5.out).2.1 (far_slice (IsS95.own_ne HL5.out.st HO5.out (by decide))) HPP.out).mono ?_; rintro e w6 ⟨rfl, hi, hb, hk⟩; have HL6 := Aside0.mk (HL5.out.moved hi hb hk); have hc6 := blk_cell HL6.out.bx 0; have hf6 := blk_frozen HL6.out.bx 0; clear hi hb hk))
  change Code.wp _ _ _ _ (w6.setCell ⟨gx, 0, none⟩ (.int .i64 t'))
  have HL7 := Aside0.mk (HL6.out.set0 t')
  generalize w6.setCell ⟨gx, 0, none⟩ (.int .i64 t') = w7 at HL7 ⊢
  clear hc6 hf6 HL6 HL5 HO5 HL
  go_upto_region 14 with (fail)
  go_wp2_with (first | (refine wpList_load_row rfl 26 _ rfl gx rfl 26 #[.int .i64 t', .string tx, v2] (0, 0) _ HL7.out.bx Try.underlying26 rfl (HI39.out _ _ _) ?_) | (refine la_store_f _ _ rfl 26 _ _ _ _ rfl rfl rfl rfl (HFIN.out _ _ _ _ _ _ _ HL7.out HO1.out) ?_))
  obtain ⟨f1, f2, f3, f4, f5⟩ := HL7.out.fin
  exact bodyPost_ret (v := .agg #[.int .i64 t', .string tx, v2]) (results_cell_row rfl _ _ gr 26 #[.int .i64 t', .string tx, v2] (0, 0) _ rfl f1 Try.underlying26 rfl (HI39.out _ _ _)) rfl ⟨_, rfl, by rw [← HBB.out]; exact f2, f3, f4, f5⟩
 ·skip
  have d0 : (b == 0) = false := beq_eq_false_iff_ne.mpr c0
  have H1 := H.out
  rw [if_neg c0] at H1
  by_cases c1 : b = 1
  ·subst c1
   rw [if_pos rfl] at H1
   by_cases cz : tx.size + 1 ≤ 9223372036854775807
   ·rw [if_pos cz] at H1
    simp only [Option.some.injEq, Prod.mk.injEq] at H1
    obtain ⟨rfl, rfl, rfl, rfl, rfl⟩ := H1
    have z1 : (9223372036854775807 < tx.size + 1) = False := eq_false (Nat.not_lt.2 cz)
    have hc6 := blk_cell HL.out.bx 1
    have hf6 := blk_frozen HL.out.bx 1
    clear H cz d0 c0
    go_upto_region 14 with (fail)
    obtain ⟨ty, hty⟩ : ∃ x, tx ++ (⟨#[0]⟩ : ByteArray) = x := ⟨_, rfl⟩
    change Code.wp _ _ _ _ (W4.setCell ⟨gx, 1, none⟩ (.string (tx ++ (⟨#[0]⟩ : ByteArray))))
    rw [hty]
    have HL7 := Aside0.mk (HL.out.set1 ty)
    generalize W4.setCell ⟨gx, 1, none⟩ (.string ty) = w7 at HL7 ⊢
    clear hc6 hf6 HL z1
    go_upto_region 14 with (fail)
    go_wp2_with (first | (refine wpList_load_row rfl 26 _ rfl gx rfl 26 #[.int .i64 t, .string ty, v2] (0, 0) _ HL7.out.bx Try.underlying26 rfl (HI39.out _ _ _) ?_) | (refine la_store_f _ _ rfl 26 _ _ _ _ rfl rfl rfl rfl (HFIN.out _ _ _ _ _ _ _ HL7.out HO1.out) ?_))
    obtain ⟨f1, f2, f3, f4, f5⟩ := HL7.out.fin
    exact bodyPost_ret (v := .agg #[.int .i64 t, .string ty, v2]) (results_cell_row rfl _ _ gr 26 #[.int .i64 t, .string ty, v2] (0, 0) _ rfl f1 Try.underlying26 rfl (HI39.out _ _ _)) rfl ⟨_, rfl, by rw [← HBB.out]; exact f2, f3, f4, f5⟩
   ·rw [if_neg cz] at H1; cases H1
  ·have d1 : (b == 1) = false := beq_eq_false_iff_ne.mpr c1
   rw [if_neg c1] at H1
   by_cases c2 : b = 2
   ·subst c2
    rw [if_pos rfl] at H1
    simp only [Option.some.injEq, Prod.mk.injEq] at H1
    obtain ⟨e1, e2, e3, rfl, rfl⟩ := H1
    have E1 := Aside0.mk e1
    have E2 := Aside0.mk e2
    have E3 := Aside0.mk e3
    clear H d0 d1 c0 c1 e1 e2 e3
    go_upto_region 9 with (fail)
    go_wp2
    go_loopg [5] 6 (fun q v5 wr => Aside0 (∃ m : Nat, ∃ t_ x_ v_ ks_, m ≤ 6 ∧ q = 6 - m ∧ v5 = .int .i64 m ∧ LA w0 w wr g gr gx s0_0 i2 h2 t_ x_ v_ ks_ ∧ v_.oneCell' = true ∧ (⟨t_, x_, ks_⟩ : S26) = nestV m (⟨t, tx, ks⟩ : S26)))
    case atStart => exact ⟨0, t, tx, v2, ks, by omega, rfl, rfl, HL.out, HO1.out, rfl⟩
    case round =>
     obtain ⟨m, t_, x_, v_, ks_, hm, hq, rfl, hl, hv, hn⟩ := hrel.out
     clear hrel
     have HM := Aside0.mk hm
     have HQ := Aside0.mk hq
     have HL1 := Aside0.mk hl
     have HV := Aside0.mk hv
     have HN := Aside0.mk hn
     clear hq hl hv hn
     by_cases hlt : (m : Int) < 6
     ·have hd := decide_eq_true hlt
      have HLT := Aside0.mk hlt
      clear hlt hm
      go_upto_region 12 with (fail)
      go_upto_region 13 with (first
       | (refine wpList_load_row rfl 26 _ rfl gx rfl 26 #[.int .i64 t_, .string x_, v_] (0, 0) _ HL1.out.bx Try.underlying26 rfl (HI39.out _ _ _) ?_)
       | (refine la_alloc_f _ _ rfl 26 _ rfl (la_alloc_run _) ?_)
       | (refine la_store_f _ _ rfl 26 _ _ _ _ rfl rfl rfl rfl (HST.out _ _ _ _ HV.out) ?_))
      simp only [Act.put, List.setIfInBounds_toArray, List.set_cons_zero, List.set_cons_succ]
      obtain ⟨gk, hgk⟩ : ∃ b, wr.heap.size = b := ⟨_, rfl⟩
      have HLa := Aside0.mk (HL1.out.alloc (.cells #[.int .i64 t_, .string x_, v_] 26))
      have BKk := Aside0.mk (show (wr.alloc (.cells #[.int .i64 t_, .string x_, v_] 26)).heap[gk]? = some (.cells #[.int .i64 t_, .string x_, v_] 26 (0, 0)) by rw [← hgk]; exact heap_alloc_new wr _)
      rw [hgk]
      generalize wr.alloc (.cells #[.int .i64 t_, .string x_, v_] 26) = wa at HLa BKk ⊢
      clear hgk HL1
      have HW := Aside0.mk HLa.out.wrap
      have HSS := Aside0.mk ((HLa.out.alloc (.cells #[.int .i64 t_, .string x_, v_] 26)).store gx _ (HLa.out.alloc (.cells #[.int .i64 t_, .string x_, v_] 26)).bx rfl (.int .i64 48) (.string (⟨#[]⟩ : ByteArray)) (.slice (some ⟨wa.heap.size, 0, none⟩) 1 1) (la_one 48 _ _ rfl))
      go_upto_region 11 with (first
       | (refine wpList_load_row rfl 26 _ rfl gk rfl 26 #[.int .i64 t_, .string x_, v_] (0, 0) _ BKk.out Try.underlying26 rfl (HI39.out _ _ _) ?_)
       | (refine la_store_f _ _ rfl 26 _ _ _ _ rfl rfl rfl rfl HSS.out ?_))
      obtain ⟨v6, hv6⟩ : ∃ v, (Value.slice (some ⟨wa.heap.size, 0, none⟩) 1 1) = v := ⟨_, rfl⟩
      have HO6 := Aside0.mk (show v6.oneCell' = true by rw [← hv6]; rfl)
      rw [hv6] at HW ⊢
      generalize (wa.alloc (.cells #[.int .i64 t_, .string x_, v_] 26)).setRow gx #[.int .i64 48, .string (⟨#[]⟩ : ByteArray), v6] = wb at HW ⊢
      clear HLa BKk HSS hv6 hd
      have e8 : IntKind.i64.wrap ((m : Int) + 1) = ((m + 1 : Nat) : Int) := by have := HLT.out; rw [IntKind.wrap_i64]; omega
      go_wp2
      go_roundg (6 - (m + 1))
      case measure => have := HLT.out; have := HQ.out; omega
      case rel => exact ⟨⟨m + 1, 48, (⟨#[]⟩ : ByteArray), v6, [(⟨t_, x_, ks_⟩ : S26)], by have := HLT.out; omega, rfl, rfl, HW.out, HO6.out, by rw [HN.out]; rfl⟩⟩
     ·have hm6 : m = 6 := by omega
      subst hm6
      have hx : nestV 6 (⟨t, tx, ks⟩ : S26) = (⟨r1, r2, r3⟩ : S26) := by rw [← E1.out, ← E2.out, ← E3.out]; rfl
      have hz := HN.out.trans hx
      injection hz with z1 z2 z3
      subst z1 z2 z3
      clear hx hlt hm HN E1 E2 E3
      go_upto_region 14 with (fail)
      go_wp2_with (first | (refine wpList_load_row rfl 26 _ rfl gx rfl 26 #[.int .i64 t_, .string x_, v_] (0, 0) _ HL1.out.bx Try.underlying26 rfl (HI39.out _ _ _) ?_) | (refine la_store_f _ _ rfl 26 _ _ _ _ rfl rfl rfl rfl (HFIN.out _ _ _ _ _ _ _ HL1.out HV.out) ?_))
      obtain ⟨f1, f2, f3, f4, f5⟩ := HL1.out.fin
      exact bodyPost_ret (v := .agg #[.int .i64 t_, .string x_, v_]) (results_cell_row rfl _ _ gr 26 #[.int .i64 t_, .string x_, v_] (0, 0) _ rfl f1 Try.underlying26 rfl (HI39.out _ _ _)) rfl ⟨_, rfl, by rw [← HBB.out]; exact f2, f3, f4, f5⟩
   ·have d2 : (b == 2) = false := beq_eq_false_iff_ne.mpr c2
    rw [if_neg c2] at H1
    simp only [Option.some.injEq, Prod.mk.injEq] at H1
    obtain ⟨rfl, rfl, rfl, rfl, rfl⟩ := H1
    clear H c0 c1 c2
    go_upto_region 14 with (fail)
    go_wp2_with (first | (refine wpList_load_row rfl 26 _ rfl gx rfl 26 #[.int .i64 t, .string tx, v2] (0, 0) _ HL.out.bx Try.underlying26 rfl (HI39.out _ _ _) ?_) | (refine la_store_f _ _ rfl 26 _ _ _ _ rfl rfl rfl rfl (HFIN.out _ _ _ _ _ _ _ HL.out HO1.out) ?_))
    obtain ⟨f1, f2, f3, f4, f5⟩ := HL.out.fin
    exact bodyPost_ret (v := .agg #[.int .i64 t, .string tx, v2]) (results_cell_row rfl _ _ gr 26 #[.int .i64 t, .string tx, v2] (0, 0) _ rfl f1 Try.underlying26 rfl (HI39.out _ _ _)) rfl ⟨_, rfl, by rw [← HBB.out]; exact f2, f3, f4, f5⟩

/-! ### spec_l02Spoilt: function 44 -/
def spec_l02Spoilt.j0 : Nat → ByteArray → Bool → List Int → Int → Int → Option (ByteArray × Int × Int)
 | 0, _, _, _, _, _ => none
 | k + 1, x1, x23, x1000, x1001, x1002 => if x23 = true then (if (x1.size : Int) > 0 then ((spec_l01Below.f x1000 x1001 x1002 (x1.size : Int)).bind fun bt320 => (if 0 ≤ bt320.1 then (if bt320.1 ≤ (x1.size : Int) then ((spec_l01Text.f k x1000 bt320.2.1 bt320.2.2 1).bind fun bt323 => (if (x1.extract 0 (bt320.1 : Int).toNat).size + bt323.1.size ≤ 9223372036854775807 then (if 0 ≤ (wrap64 (bt320.1 + 1)) then (if (wrap64 (bt320.1 + 1)) ≤ (x1.size : Int) then (if ((x1.extract 0 (bt320.1 : Int).toNat) ++ bt323.1).size + (x1.extract ((wrap64 (bt320.1 + 1)) : Int).toNat x1.size).size ≤ 9223372036854775807 then (some (((x1.extract 0 (bt320.1 : Int).toNat) ++ bt323.1) ++ (x1.extract ((wrap64 (bt320.1 + 1)) : Int).toNat x1.size), bt323.2.1, bt323.2.2)) else (none)) else (none)) else (none)) else (none))) else (none)) else (none))) else (some (x1, x1001, x1002))) else (some (x1, x1001, x1002))
def spec_l02Spoilt.f (k : Nat) (s0_0 : List Int) (s0_1 : Int) (s0_2 : Int) (a1 : ByteArray) : Option (ByteArray × Int × Int) := (spec_l01Below.f s0_0 s0_1 s0_2 12).bind fun bt311 => (if bt311.1 = 0 then ((spec_l01Text.f k s0_0 bt311.2.1 bt311.2.2 1).bind fun bt314 => (if a1.size + bt314.1.size ≤ 9223372036854775807 then (some (a1 ++ bt314.1, bt314.2.1, bt314.2.2)) else (none))) else (if bt311.1 = 1 then ((spec_l01Below.f s0_0 bt311.2.1 bt311.2.2 (wrap64 ((a1.size : Int) + 1))).bind fun bt317 => (if 0 ≤ bt317.1 then (if bt317.1 ≤ (a1.size : Int) then (some (a1.extract 0 (bt317.1 : Int).toNat, bt317.2.1, bt317.2.2)) else (none)) else (none))) else (if bt311.1 = 2 then (spec_l02Spoilt.j0 k a1 (bt311.1 == 2) s0_0 bt311.2.1 bt311.2.2) else (spec_l02Spoilt.j0 k a1 (bt311.1 == 3) s0_0 bt311.2.1 bt311.2.2))))
theorem spec_l02Spoilt.mono_l : ∀ k, (∀ y0 y1 y2 y3 y4, LeO (spec_l02Spoilt.j0 k y0 y1 y2 y3 y4) (spec_l02Spoilt.j0 (k + 1) y0 y1 y2 y3 y4))
 | 0 => fun _ _ _ _ _ r h => by simp [spec_l02Spoilt.j0] at h
 | k + 1 => by
  have ih0 := spec_l02Spoilt.mono_l k
  ·intro y0 y1 y2 y3 y4
   unfold spec_l02Spoilt.j0
   repeat' first
   | (with_reducible exact ih0 _ _ _ _ _)
   | (with_reducible exact spec_l01Text.mono _ _ _ _ _)
   | (with_reducible exact LeO.refl _)
   | (with_reducible exact LeO.none _)
   | (with_reducible refine LeO.ite ?_ ?_)
   | (with_reducible refine LeO.bind ?_ (fun _ => ?_))
   | exact ih0 _ _ _ _ _
   | exact LeO.none _
   | refine LeO.ite ?_ ?_
   | refine LeO.bind ?_ (fun _ => ?_)
theorem spec_l02Spoilt.mono : ∀ a0 a1 a2 a3 k, LeO (spec_l02Spoilt.f k a0 a1 a2 a3) (spec_l02Spoilt.f (k + 1) a0 a1 a2 a3) := by
 intro a0 a1 a2 a3 k
 have ih0 := spec_l02Spoilt.mono_l k
 unfold spec_l02Spoilt.f
 repeat' first
   | (with_reducible exact ih0 _ _ _ _ _)
   | (with_reducible exact spec_l01Text.mono _ _ _ _ _)
   | (with_reducible exact LeO.refl _)
   | (with_reducible exact LeO.none _)
   | (with_reducible refine LeO.ite ?_ ?_)
   | (with_reducible refine LeO.bind ?_ (fun _ => ?_))
   | exact ih0 _ _ _ _ _
   | exact LeO.none _
   | refine LeO.ite ?_ ?_
   | refine LeO.bind ?_ (fun _ => ?_)
def spec_l02Spoilt.T10 : Bool × List (List Nat × List Nat) := (true, [([], []), ([], []), ([0, 1], [0, 1]), ([], []), ([3], [3]), ([2, 4], [2, 4]), ([], []), ([], []), ([7], [7]), ([6, 8], [6, 8]), ([5, 9], [5, 9]), ([10, 4, 0, 1, 2, 3, 4, 5, 6, 7, 8, 9, 10], [10])])
def spec_l02Spoilt.B10 : List Nat := [0, 0, 3, 0, 8, 31, 0, 0, 128, 448, 1023, 2047]
theorem spec_l02Spoilt.tab10 : rtab .any (opsOf Try.f44 10) = spec_l02Spoilt.T10 := by kernel_rfl
theorem spec_l02Spoilt.bits10 : waitsOk spec_l02Spoilt.T10.2 spec_l02Spoilt.B10 = true := by kernel_rfl
set_option maxHeartbeats 8000000 in
set_option maxRecDepth 100000 in
theorem spec_l02Spoilt.calls (k : Nat) (g : Nat) (s0_0 : List Int) (s0_1 : Int) (s0_2 : Int) (a1 : ByteArray) (r1 : ByteArray) (r2 : Int) (r3 : Int) (w0 w : World) (hI : IsS95 w0 w g s0_0 s0_1 s0_2) (hB : Below w0.heap.size w0 w) (h : spec_l02Spoilt.f k s0_0 s0_1 s0_2 a1 = some (r1, r2, r3)) :
  Calls Try.prog 44 #[.pointer (some ⟨g, 0, none⟩), .string a1] w fun e w' => e = .returned (.string r1) ∧ IsS95 w0 w' g s0_0 r2 r3 ∧ Below w0.heap.size w0 w' ∧ KeepBut w w' g none := by
 have HI0 := Aside0.mk hI
 have HK := Aside0.mk (KeepBut.refl w g none)
 have HL := Aside0.mk hB.size
 clear hI
 have HW0 := Aside0.mk hB.size
 have HB := Aside0.mk hB
 clear hB
 have H : ((spec_l01Below.f s0_0 s0_1 s0_2 12).bind fun bt311 => (if bt311.1 = 0 then ((spec_l01Text.f k s0_0 bt311.2.1 bt311.2.2 1).bind fun bt314 => (if a1.size + bt314.1.size ≤ 9223372036854775807 then (some (a1 ++ bt314.1, bt314.2.1, bt314.2.2)) else (none))) else (if bt311.1 = 1 then ((spec_l01Below.f s0_0 bt311.2.1 bt311.2.2 (wrap64 ((a1.size : Int) + 1))).bind fun bt317 => (if 0 ≤ bt317.1 then (if bt317.1 ≤ (a1.size : Int) then (some (a1.extract 0 (bt317.1 : Int).toNat, bt317.2.1, bt317.2.2)) else (none)) else (none))) else (if bt311.1 = 2 then (spec_l02Spoilt.j0 k a1 (bt311.1 == 2) s0_0 bt311.2.1 bt311.2.2) else (spec_l02Spoilt.j0 k a1 (bt311.1 == 3) s0_0 bt311.2.1 bt311.2.2))))) = some (r1, r2, r3) := h
 clear h
 replace H := Option.bind_eq_some_iff.mp H
 obtain ⟨⟨t311, t312, t313⟩, A30, H⟩ := H
 try dsimp only at H
 have A3 := Aside0.mk A30
 clear A30
 by_cases c4 : t311 = 0
 ·rw [if_pos c4] at H
  have c4b0 : (t311 == 0) = true := beq_iff_eq.mpr c4
  have c4b1 : (t311 != 0) = false := bne_eq_false_iff_eq.mpr c4
  clear c4
  replace H := Option.bind_eq_some_iff.mp H
  obtain ⟨⟨t314, t315, t316⟩, A50, H⟩ := H
  try dsimp only at H
  have A5 := Aside0.mk A50
  clear A50
  by_cases c6 : a1.size + t314.size ≤ 9223372036854775807
  ·rw [if_pos c6] at H
   have c6b0 := eq_true c6
   have c6b1 : decide (a1.size + t314.size ≤ 9223372036854775807) = true := decide_eq_true c6
   try have c6b2 : (9223372036854775807 < a1.size + t314.size) = False := eq_false (Nat.not_lt.2 c6)
   simp only [Option.some.injEq, Prod.mk.injEq] at H
   obtain ⟨rfl, rfl, rfl⟩ := H
   go_enter Try.func44, Try.ntmps44
   go_wp2_with (first | ((with_reducible refine gate_callee (f := 41) rfl ?_); refine goesL_ (some 7) rfl rfl Try.func41 (by kernel_rfl) rfl #[.pointer (some ⟨g, 0, none⟩), .int .i64 12] rfl (by (try simp only [List.map_toArray, List.map_cons, List.map_nil]); first | done | rfl | (simp only [List.length_drop, List.length_take]; rfl)) ?_; (with_reducible refine (spec_l01Below.calls g s0_0 s0_1 s0_2 12 t311 t312 t313 w0 _ ?side1 ?side2 A3.out).mono ?_); (case side1 => repeat (first | (with_reducible first | exact HI0.out | apply IsS95.alloc | apply IsS95.drewN | apply IsS95.drew | apply IsS95.set_1 | apply IsS95.set_2) | exact HI0.out)); (case side2 => repeat (first | (with_reducible first | exact HB.out | apply below_alloc | apply pw_below_drewN | apply below_drew1 | refine below_set ?_ (IsS95.ge HI0.out)) | exact HB.out)); rintro e w7 ⟨rfl, hi, hb, hk⟩; refine ⟨_, rfl, ?_⟩; replace HK := Aside0.mk (KeepBut.trans (by repeat (first | (with_reducible first | exact HK.out | apply KeepBut.set_ | apply keep_drewN | apply keep_drew | apply keep_alloc) | exact HK.out)) hk (.inl rfl)); replace HB := Aside0.mk (hb); replace HI0 := Aside0.mk (hi); (try clear hb); (try clear hb2); (try clear hk); (try clear hi)) | ((with_reducible refine gate_callee (f := 78) rfl ?_); refine goesL_ (some 12) rfl rfl Try.func78 (by kernel_rfl) rfl #[.pointer (some ⟨g, 0, none⟩), .int .i64 1] rfl (by (try simp only [List.map_toArray, List.map_cons, List.map_nil]); first | done | rfl | (simp only [List.length_drop, List.length_take]; rfl)) ?_; (with_reducible refine (spec_l01Text.calls k g s0_0 t312 t313 1 t314 t315 t316 w0 _ ?side1 ?side2 A5.out).mono ?_); (case side1 => repeat (first | (with_reducible first | exact HI0.out | apply IsS95.alloc | apply IsS95.drewN | apply IsS95.drew | apply IsS95.set_1 | apply IsS95.set_2) | exact HI0.out)); (case side2 => repeat (first | (with_reducible first | exact HB.out | apply below_alloc | apply pw_below_drewN | apply below_drew1 | refine below_set ?_ (IsS95.ge HI0.out)) | exact HB.out)); rintro e w8 ⟨rfl, hi, hb, hk⟩; refine ⟨_, rfl, ?_⟩; replace HK := Aside0.mk (KeepBut.trans (by repeat (first | (with_reducible first | exact HK.out | apply KeepBut.set_ | apply keep_drewN | apply keep_drew | apply keep_alloc) | exact HK.out)) hk (.inl rfl)); replace HB := Aside0.mk (hb); replace HI0 := Aside0.mk (hi); (try clear hb); (try clear hb2); (try clear hk); (try clear hi)))
   go_ret
   exact ⟨by first | rfl | (simp [errW_none, errW_some] <;> rfl) | (simp [*, errW_none, errW_some] <;> rfl), by repeat (first | (with_reducible first | exact HI0.out | apply IsS95.alloc | apply IsS95.drewN | apply IsS95.drew | apply IsS95.set_1 | apply IsS95.set_2) | exact HI0.out), by repeat (first | (with_reducible first | exact HB.out | apply below_alloc | apply pw_below_drewN | apply below_drew1 | refine below_set ?_ (IsS95.ge HI0.out)) | exact HB.out), by repeat (first | (with_reducible first | exact HK.out | apply KeepBut.set_ | apply keep_drewN | apply keep_drew | apply keep_alloc) | exact HK.out)⟩
  ·rw [if_neg c6] at H
   exact absurd H (by simp)
 ·rw [if_neg c4] at H
  have c4b0 : (t311 == 0) = false := beq_eq_false_iff_ne.mpr c4
  have c4b1 : (t311 != 0) = true := bne_iff_ne.mpr c4
  by_cases c9 : t311 = 1
  ·rw [if_pos c9] at H
   have c9b0 : (t311 == 1) = true := beq_iff_eq.mpr c9
   have c9b1 : (t311 != 1) = false := bne_eq_false_iff_eq.mpr c9
   clear c9
   replace H := Option.bind_eq_some_iff.mp H
   obtain ⟨⟨t317, t318, t319⟩, A100, H⟩ := H
   try dsimp only at H
   have A10 := Aside0.mk A100
   clear A100
   by_cases c11 : 0 ≤ t317
   ·rw [if_pos c11] at H
    have c11b0 := eq_true c11
    have c11b1 : decide (0 ≤ t317) = true := decide_eq_true c11
    clear c11
    by_cases c12 : t317 ≤ (a1.size : Int)
    ·rw [if_pos c12] at H
     have c12b0 := eq_true c12
     have c12b1 : decide (t317 ≤ (a1.size : Int)) = true := decide_eq_true c12
     clear c12
     simp only [Option.some.injEq, Prod.mk.injEq] at H
     obtain ⟨rfl, rfl, rfl⟩ := H
     go_enter Try.func44, Try.ntmps44
     go_wp2_with (first | ((with_reducible refine gate_callee (f := 41) rfl ?_); refine goesL_ (some 7) rfl rfl Try.func41 (by kernel_rfl) rfl #[.pointer (some ⟨g, 0, none⟩), .int .i64 12] rfl (by (try simp only [List.map_toArray, List.map_cons, List.map_nil]); first | done | rfl | (simp only [List.length_drop, List.length_take]; rfl)) ?_; (with_reducible refine (spec_l01Below.calls g s0_0 s0_1 s0_2 12 t311 t312 t313 w0 _ ?side1 ?side2 A3.out).mono ?_); (case side1 => repeat (first | (with_reducible first | exact HI0.out | apply IsS95.alloc | apply IsS95.drewN | apply IsS95.drew | apply IsS95.set_1 | apply IsS95.set_2) | exact HI0.out)); (case side2 => repeat (first | (with_reducible first | exact HB.out | apply below_alloc | apply pw_below_drewN | apply below_drew1 | refine below_set ?_ (IsS95.ge HI0.out)) | exact HB.out)); rintro e w13 ⟨rfl, hi, hb, hk⟩; refine ⟨_, rfl, ?_⟩; replace HK := Aside0.mk (KeepBut.trans (by repeat (first | (with_reducible first | exact HK.out | apply KeepBut.set_ | apply keep_drewN | apply keep_drew | apply keep_alloc) | exact HK.out)) hk (.inl rfl)); replace HB := Aside0.mk (hb); replace HI0 := Aside0.mk (hi); (try clear hb); (try clear hb2); (try clear hk); (try clear hi)) | ((with_reducible refine gate_callee (f := 41) rfl ?_); refine goesL_ (some 21) rfl rfl Try.func41 (by kernel_rfl) rfl #[.pointer (some ⟨g, 0, none⟩), .int .i64 (wrap64 ((a1.size : Int) + 1))] rfl (by (try simp only [List.map_toArray, List.map_cons, List.map_nil]); first | done | rfl | (simp only [List.length_drop, List.length_take]; rfl)) ?_; (with_reducible refine (spec_l01Below.calls g s0_0 t312 t313 (wrap64 ((a1.size : Int) + 1)) t317 t318 t319 w0 _ ?side1 ?side2 A10.out).mono ?_); (case side1 => repeat (first | (with_reducible first | exact HI0.out | apply IsS95.alloc | apply IsS95.drewN | apply IsS95.drew | apply IsS95.set_1 | apply IsS95.set_2) | exact HI0.out)); (case side2 => repeat (first | (with_reducible first | exact HB.out | apply below_alloc | apply pw_below_drewN | apply below_drew1 | refine below_set ?_ (IsS95.ge HI0.out)) | exact HB.out)); rintro e w14 ⟨rfl, hi, hb, hk⟩; refine ⟨_, rfl, ?_⟩; replace HK := Aside0.mk (KeepBut.trans (by repeat (first | (with_reducible first | exact HK.out | apply KeepBut.set_ | apply keep_drewN | apply keep_drew | apply keep_alloc) | exact HK.out)) hk (.inl rfl)); replace HB := Aside0.mk (hb); replace HI0 := Aside0.mk (hi); (try clear hb); (try clear hb2); (try clear hk); (try clear hi)))
     go_ret
     exact ⟨by first | rfl | (simp [errW_none, errW_some] <;> rfl) | (simp [*, errW_none, errW_some] <;> rfl), by repeat (first | (with_reducible first | exact HI0.out | apply IsS95.alloc | apply IsS95.drewN | apply IsS95.drew | apply IsS95.set_1 | apply IsS95.set_2) | exact HI0.out), by repeat (first | (with_reducible first | exact HB.out | apply below_alloc | apply pw_below_drewN | apply below_drew1 | refine below_set ?_ (IsS95.ge HI0.out)) | exact HB.out), by repeat (first | (with_reducible first | exact HK.out | apply KeepBut.set_ | apply keep_drewN | apply keep_drew | apply keep_alloc) | exact HK.out)⟩
    ·rw [if_neg c12] at H
     exact absurd H (by simp)
   ·rw [if_neg c11] at H
    exact absurd H (by simp)
  ·rw [if_neg c9] at H
   have c9b0 : (t311 == 1) = false := beq_eq_false_iff_ne.mpr c9
   have c9b1 : (t311 != 1) = true := bne_iff_ne.mpr c9
   have HC15 := Aside0.mk H
   clear H
   go_enter Try.func44, Try.ntmps44
   go_upto_if 23 with (first | ((with_reducible refine gate_callee (f := 41) rfl ?_); refine goesL_ (some 7) rfl rfl Try.func41 (by kernel_rfl) rfl #[.pointer (some ⟨g, 0, none⟩), .int .i64 12] rfl (by (try simp only [List.map_toArray, List.map_cons, List.map_nil]); first | done | rfl | (simp only [List.length_drop, List.length_take]; rfl)) ?_; (with_reducible refine (spec_l01Below.calls g s0_0 s0_1 s0_2 12 t311 t312 t313 w0 _ ?side1 ?side2 A3.out).mono ?_); (case side1 => repeat (first | (with_reducible first | exact HI0.out | apply IsS95.alloc | apply IsS95.drewN | apply IsS95.drew | apply IsS95.set_1 | apply IsS95.set_2) | exact HI0.out)); (case side2 => repeat (first | (with_reducible first | exact HB.out | apply below_alloc | apply pw_below_drewN | apply below_drew1 | refine below_set ?_ (IsS95.ge HI0.out)) | exact HB.out)); rintro e w16 ⟨rfl, hi, hb, hk⟩; refine ⟨_, rfl, ?_⟩; replace HK := Aside0.mk (KeepBut.trans (by repeat (first | (with_reducible first | exact HK.out | apply KeepBut.set_ | apply keep_drewN | apply keep_drew | apply keep_alloc) | exact HK.out)) hk (.inl rfl)); replace HB := Aside0.mk (hb); replace HI0 := Aside0.mk (hi); (try clear hb); (try clear hb2); (try clear hk); (try clear hi)))
   (try simp only [Act.put, List.setIfInBounds_toArray, List.set_cons_zero, List.set_cons_succ])
   go_cut [23] (fun v23 wc => ∃ (kq : Nat) (x23_14 : Bool), v23 = .bool x23_14 ∧ Aside0 (spec_l02Spoilt.j0 kq a1 x23_14 s0_0 t312 t313 = some (r1, r2, r3)) ∧ Aside0 (kq ≤ k) ∧ Aside0 (IsS95 w0 wc g s0_0 t312 t313) ∧ Aside0 (KeepBut w wc g none) ∧ Aside0 (Below w0.heap.size w0 wc))
   case first =>
    have H := HC15.out
    clear HC15
    by_cases c17 : t311 = 2
    ·rw [if_pos c17] at H
     have c17b0 : (t311 == 2) = true := beq_iff_eq.mpr c17
     have c17b1 : (t311 != 2) = false := bne_eq_false_iff_eq.mpr c17
     clear c17
     (first | rw [c17b0] | (simp only [i64_w, i32_w]; rw [c17b0]) | skip)
     have H' := Aside0.mk H
     clear H
     go_wp2
     go_meet
     case rel => exact ⟨_, ((t311 == 2)), (by first | rfl | (simp; done) | (simp [*]; done)), H', ⟨by first | omega | exact Nat.le_refl _⟩, ⟨by repeat (first | (with_reducible first | exact HI0.out | apply IsS95.alloc | apply IsS95.drewN | apply IsS95.drew | apply IsS95.set_1 | apply IsS95.set_2) | exact HI0.out)⟩, ⟨by repeat (first | (with_reducible first | exact HK.out | apply KeepBut.set_ | apply keep_drewN | apply keep_drew | apply keep_alloc) | exact HK.out)⟩, ⟨by repeat (first | (with_reducible first | exact HB.out | apply below_alloc | apply pw_below_drewN | apply below_drew1 | refine below_set ?_ (IsS95.ge HI0.out)) | exact HB.out)⟩⟩
    ·rw [if_neg c17] at H
     have c17b0 : (t311 == 2) = false := beq_eq_false_iff_ne.mpr c17
     have c17b1 : (t311 != 2) = true := bne_iff_ne.mpr c17
     (first | rw [c17b0] | (simp only [i64_w, i32_w]; rw [c17b0]) | skip)
     have H' := Aside0.mk H
     clear H
     go_wp2
     go_meet
     case rel => exact ⟨_, ((t311 == 3)), (by first | rfl | (simp; done) | (simp [*]; done)), H', ⟨by first | omega | exact Nat.le_refl _⟩, ⟨by repeat (first | (with_reducible first | exact HI0.out | apply IsS95.alloc | apply IsS95.drewN | apply IsS95.drew | apply IsS95.set_1 | apply IsS95.set_2) | exact HI0.out)⟩, ⟨by repeat (first | (with_reducible first | exact HK.out | apply KeepBut.set_ | apply keep_drewN | apply keep_drew | apply keep_alloc) | exact HK.out)⟩, ⟨by repeat (first | (with_reducible first | exact HB.out | apply below_alloc | apply pw_below_drewN | apply below_drew1 | refine below_set ?_ (IsS95.ge HI0.out)) | exact HB.out)⟩⟩
   case rest =>
    clear HC15
    try clear c1
    try clear p2
    try clear c4
    try clear c4b0
    try clear c4b1
    try clear c6
    try clear c6b0
    try clear c6b1
    try clear c6b2
    try clear p6
    try clear c7
    try clear c9
    try clear c9b0
    try clear c9b1
    try clear c11
    try clear c11b0
    try clear c11b1
    try clear c12
    try clear c12b0
    try clear c12b1
    try clear c17
    try clear c17b0
    try clear c17b1
    obtain ⟨kq, x23_14, rfl, HA, HJ14, HI0, HK, HB⟩ := hcut
    cases kq with
    | zero => exact absurd HA.out (by simp [spec_l02Spoilt.j0])
    | succ kj14 =>
     have H := HA.out
     clear HA
     simp only [spec_l02Spoilt.j0] at H
     by_cases c18 : x23_14 = true
     ·subst c18
      rw [if_pos rfl] at H
      by_cases c19 : (a1.size : Int) > 0
      ·rw [if_pos c19] at H
       have c19b0 : decide (0 < (a1.size : Int)) = true := decide_eq_true c19
       have c19b1 : decide (0 < a1.size) = true := decide_eq_true (by omega)
       clear c19
       replace H := Option.bind_eq_some_iff.mp H
       obtain ⟨⟨t320, t321, t322⟩, A200, H⟩ := H
       try dsimp only at H
       have A20 := Aside0.mk A200
       clear A200
       by_cases c21 : 0 ≤ t320
       ·rw [if_pos c21] at H
        have c21b0 := eq_true c21
        have c21b1 : decide (0 ≤ t320) = true := decide_eq_true c21
        clear c21
        by_cases c22 : t320 ≤ (a1.size : Int)
        ·rw [if_pos c22] at H
         have c22b0 := eq_true c22
         have c22b1 : decide (t320 ≤ (a1.size : Int)) = true := decide_eq_true c22
         clear c22
         replace H := Option.bind_eq_some_iff.mp H
         obtain ⟨⟨t323, t324, t325⟩, A230, H⟩ := H
         try dsimp only at H
         have A23 := Aside0.mk A230
         clear A230
         by_cases c24 : (a1.extract 0 (t320 : Int).toNat).size + t323.size ≤ 9223372036854775807
         ·rw [if_pos c24] at H
          have c24b0 := eq_true c24
          have c24b1 : decide ((a1.extract 0 (t320 : Int).toNat).size + t323.size ≤ 9223372036854775807) = true := decide_eq_true c24
          try have c24b2 : (9223372036854775807 < (a1.extract 0 (t320 : Int).toNat).size + t323.size) = False := eq_false (Nat.not_lt.2 c24)
          have c24b4 : (9223372036854775807 < t320.toNat + t323.size) = False := eq_false (by have h_ := of_eq_false c24b2; rw [ByteArray.size_extract] at h_; have h1_ := of_eq_true c21b0; have h2_ := of_eq_true c22b0; omega)
          obtain ⟨ji25, hji25⟩ : ∃ j_ : Int, (wrap64 (t320 + 1)) = j_ := ⟨_, rfl⟩
          replace H : (if 0 ≤ (ji25) then (if (ji25) ≤ (a1.size : Int) then (if ((a1.extract 0 (t320 : Int).toNat) ++ t323).size + (a1.extract ((ji25) : Int).toNat a1.size).size ≤ 9223372036854775807 then (some (((a1.extract 0 (t320 : Int).toNat) ++ t323) ++ (a1.extract ((ji25) : Int).toNat a1.size), t324, t325)) else (none)) else (none)) else (none)) = some (r1, r2, r3) := by first | (rw [hji25] at H; exact H) | (simp only [hji25] at H ⊢; exact H)
          (try rw [hji25] at A20)
          (try rw [hji25] at A23)
          have hji25w : (IntKind.i64.wrap (t320 + 1)) = ji25 := (i64_w _).trans hji25
          by_cases c26 : 0 ≤ (ji25)
          ·rw [if_pos c26] at H
           have c26b0 := eq_true c26
           have c26b1 : decide (0 ≤ (ji25)) = true := decide_eq_true c26
           clear c26
           by_cases c27 : (ji25) ≤ (a1.size : Int)
           ·rw [if_pos c27] at H
            have c27b0 := eq_true c27
            have c27b1 : decide ((ji25) ≤ (a1.size : Int)) = true := decide_eq_true c27
            clear c27
            by_cases c28 : ((a1.extract 0 (t320 : Int).toNat) ++ t323).size + (a1.extract ((ji25) : Int).toNat a1.size).size ≤ 9223372036854775807
            ·rw [if_pos c28] at H
             have c28b0 := eq_true c28
             have c28b1 : decide (((a1.extract 0 (t320 : Int).toNat) ++ t323).size + (a1.extract ((ji25) : Int).toNat a1.size).size ≤ 9223372036854775807) = true := decide_eq_true c28
             try have c28b2 : (9223372036854775807 < ((a1.extract 0 (t320 : Int).toNat) ++ t323).size + (a1.extract ((ji25) : Int).toNat a1.size).size) = False := eq_false (Nat.not_lt.2 c28)
             try have c28b2c : _ := c28b2; rw [ByteArray.size_append] at c28b2c
             have c28b4 : (9223372036854775807 < t320.toNat + t323.size + (a1.size - ji25.toNat)) = False := eq_false (by have h_ := of_eq_false c28b2; rw [ByteArray.size_append, ByteArray.size_extract, ByteArray.size_extract] at h_; have h1_ := of_eq_true c21b0; have h2_ := of_eq_true c22b0; omega)
             simp only [Option.some.injEq, Prod.mk.injEq] at H
             obtain ⟨rfl, rfl, rfl⟩ := H
             try go_wp2_with (first | ((with_reducible refine gate_callee (f := 41) rfl ?_); refine goesL_ (some 32) rfl rfl Try.func41 (by kernel_rfl) rfl #[.pointer (some ⟨g, 0, none⟩), .int .i64 (a1.size : Int)] rfl (by (try simp only [List.map_toArray, List.map_cons, List.map_nil]); first | done | rfl | (simp only [List.length_drop, List.length_take]; rfl)) ?_; (with_reducible refine (spec_l01Below.calls g s0_0 t312 t313 (a1.size : Int) t320 t321 t322 w0 _ ?side1 ?side2 A20.out).mono ?_); (case side1 => repeat (first | (with_reducible first | exact HI0.out | apply IsS95.alloc | apply IsS95.drewN | apply IsS95.drew | apply IsS95.set_1 | apply IsS95.set_2) | exact HI0.out)); (case side2 => repeat (first | (with_reducible first | exact HB.out | apply below_alloc | apply pw_below_drewN | apply below_drew1 | refine below_set ?_ (IsS95.ge HI0.out)) | exact HB.out)); rintro e w29 ⟨rfl, hi, hb, hk⟩; refine ⟨_, rfl, ?_⟩; replace HK := Aside0.mk (KeepBut.trans (by repeat (first | (with_reducible first | exact HK.out | apply KeepBut.set_ | apply keep_drewN | apply keep_drew | apply keep_alloc) | exact HK.out)) hk (.inl rfl)); replace HB := Aside0.mk (hb); replace HI0 := Aside0.mk (hi); (try clear hb); (try clear hb2); (try clear hk); (try clear hi)))
             replace HI0 := Aside0.mk (IsS95.drew HI0.out)
             replace HK := Aside0.mk (keep_drew HK.out)
             replace HB := Aside0.mk (below_drew1 HB.out)
             refine start_ (n := 12) (S := fun w' => True) (ds := []) #[false, false, false, false, false, false, false, false, false, false, false, false] (by kernel_rfl) rfl rfl trivial (fun hHeld => ?_); refine with_tabW spec_l02Spoilt.tab10 spec_l02Spoilt.bits10 (fun HT_ HW_ => ?_)
             generalize w29.drew = w30 at HI0 HK HB hHeld ⊢
             refine pure_ (i := 0) (N := some 33) (v := ?_) (a' := ?_) #[true, false, false, false, false, false, false, false, false, false, false, false] rfl rfl (any_of HT_.out (by kernel_rfl)) (fun _ _ _ h => h) (Or.inl ⟨by rfl, ?_⟩) ?_ ?_
             rotate_left
             ·intro w'
              go_simp
              with_reducible rfl
             rotate_left
             ·simp only [Act.put, List.setIfInBounds_toArray, List.set_cons_zero, List.set_cons_succ, i64_w, i32_w]
              rfl
             refine pure_ (i := 1) (N := some 34) (v := ?_) (a' := ?_) #[true, true, false, false, false, false, false, false, false, false, false, false] rfl rfl (any_of HT_.out (by kernel_rfl)) (fun _ _ _ h => h) (Or.inl ⟨by rfl, ?_⟩) ?_ ?_
             rotate_left
             ·intro w'
              go_simp
              with_reducible rfl
             rotate_left
             ·simp only [Act.put, List.setIfInBounds_toArray, List.set_cons_zero, List.set_cons_succ, i64_w, i32_w]
              rfl
             refine pure_ (i := 2) (N := some 35) (v := ?_) (a' := ?_) #[true, true, true, false, false, false, false, false, false, false, false, false] rfl rfl (any_of HT_.out (by kernel_rfl)) (fun _ _ _ h => h) (Or.inl ⟨by rfl, ?_⟩) ?_ ?_
             rotate_left
             ·intro w'
              go_simp
              with_reducible rfl
             rotate_left
             ·simp only [Act.put, List.setIfInBounds_toArray, List.set_cons_zero, List.set_cons_succ, i64_w, i32_w]
              rfl
             refine pure_ (i := 3) (N := some 36) (v := ?_) (a' := ?_) #[true, true, true, true, false, false, false, false, false, false, false, false] rfl rfl (any_of HT_.out (by kernel_rfl)) (fun _ _ _ h => h) (Or.inl ⟨by rfl, ?_⟩) ?_ ?_
             rotate_left
             ·intro w'
              go_simp
              with_reducible rfl
             rotate_left
             ·simp only [Act.put, List.setIfInBounds_toArray, List.set_cons_zero, List.set_cons_succ, i64_w, i32_w]
              rfl
             refine pure_ (i := 6) (N := some 39) (v := ?_) (a' := ?_) #[true, true, true, true, false, false, true, false, false, false, false, false] rfl rfl (any_of HT_.out (by kernel_rfl)) (fun _ _ _ h => h) (Or.inl ⟨by rfl, ?_⟩) ?_ ?_
             rotate_left
             ·intro w'
              go_simp
              with_reducible rfl
             rotate_left
             ·simp only [Act.put, List.setIfInBounds_toArray, List.set_cons_zero, List.set_cons_succ, i64_w, i32_w]
              rfl
             refine pure_ (i := 7) (N := some 40) (v := ?_) (a' := ?_) #[true, true, true, true, false, false, true, true, false, false, false, false] rfl rfl (any_of HT_.out (by kernel_rfl)) (fun _ _ _ h => h) (Or.inl ⟨by rfl, ?_⟩) ?_ ?_
             rotate_left
             ·intro w'
              go_simp
              with_reducible rfl
             rotate_left
             ·simp only [Act.put, List.setIfInBounds_toArray, List.set_cons_zero, List.set_cons_succ, i64_w, i32_w]
              rfl
             refine pure_ (i := 8) (N := some 41) (v := ?_) (a' := ?_) #[true, true, true, true, false, false, true, true, true, false, false, false] rfl rfl (any_of HT_.out (by kernel_rfl)) (fun _ _ _ h => h) (Or.inl ⟨by rfl, ?_⟩) ?_ ?_
             rotate_left
             ·intro w'
              go_simp
              with_reducible rfl
             rotate_left
             ·simp only [Act.put, List.setIfInBounds_toArray, List.set_cons_zero, List.set_cons_succ, i64_w, i32_w]
              rfl
             refine pure_ (i := 9) (N := some 42) (v := ?_) (a' := ?_) #[true, true, true, true, false, false, true, true, true, true, false, false] rfl rfl (any_of HT_.out (by kernel_rfl)) (fun _ _ _ h => h) (Or.inl ⟨by rfl, ?_⟩) ?_ ?_
             rotate_left
             ·intro w'
              go_simp
              with_reducible rfl
             rotate_left
             ·simp only [Act.put, List.setIfInBounds_toArray, List.set_cons_zero, List.set_cons_succ, i64_w, i32_w]
              rfl
             refine one_ (i := 4) (N := some 37) #[true, true, true, true, true, false, true, true, true, true, false, false] rfl rfl (one_of HT_.out (by kernel_rfl)) (by decide) (fun K hK => ?_)
             refine goes_ Try.func78 (by kernel_rfl) rfl #[.pointer (some ⟨g, 0, none⟩), .int .i64 1] (by rfl) rfl rfl (by (try simp only [List.map_toArray, List.map_cons, List.map_nil]); first | done | rfl | (simp only [List.length_drop, List.length_take]; rfl)) ?_
             with_reducible refine (spec_l01Text.calls kj14 g s0_0 t321 t322 1 t323 t324 t325 w0 _ ?side1 ?side2 A23.out).mono ?_
             (case side1 => repeat (first | (with_reducible first | exact HI0.out | apply IsS95.alloc | apply IsS95.drewN | apply IsS95.drew | apply IsS95.set_1 | apply IsS95.set_2) | exact HI0.out))
             (case side2 => repeat (first | (with_reducible first | exact HB.out | apply below_alloc | apply pw_below_drewN | apply below_drew1 | refine below_set ?_ (IsS95.ge HI0.out)) | exact HB.out))
             rintro e w31 ⟨rfl, hi, hb, hk⟩
             refine ⟨_, rfl, ?_⟩
             replace HK := Aside0.mk (KeepBut.trans (by repeat (first | (with_reducible first | exact HK.out | apply KeepBut.set_ | apply keep_drewN | apply keep_drew | apply keep_alloc) | exact HK.out)) hk (.inl rfl))
             replace HB := Aside0.mk (hb)
             replace HI0 := Aside0.mk (hi)
             (try clear hb)
             (try clear hb2)
             (try clear hk)
             (try clear hi)
             refine hK.out _ _ trivial (fun hHeld => ?_)
             clear hK K
             refine norm_ (a' := ?_) ?_ ?_
             rotate_left
             ·show Act.put _ (some 37) _ = _
              simp only [Act.put, List.setIfInBounds_toArray, List.set_cons_zero, List.set_cons_succ, i64_w, i32_w]
              rfl
             refine pure_ (i := 5) (N := some 38) (v := ?_) (a' := ?_) #[true, true, true, true, true, true, true, true, true, true, false, false] rfl rfl (any_of HT_.out (by kernel_rfl)) (fun _ _ _ h => h) (Or.inl ⟨by rfl, ?_⟩) ?_ ?_
             rotate_left
             ·intro w'
              go_simp
              with_reducible rfl
             rotate_left
             ·simp only [Act.put, List.setIfInBounds_toArray, List.set_cons_zero, List.set_cons_succ, i64_w, i32_w]
              rfl
             refine pure_ (i := 10) (N := some 43) (v := ?_) (a' := ?_) #[true, true, true, true, true, true, true, true, true, true, true, false] rfl rfl (any_of HT_.out (by kernel_rfl)) (fun _ _ _ h => h) (Or.inl ⟨by rfl, ?_⟩) ?_ ?_
             rotate_left
             ·intro w'
              go_simp
              with_reducible rfl
             rotate_left
             ·simp only [Act.put, List.setIfInBounds_toArray, List.set_cons_zero, List.set_cons_succ, i64_w, i32_w]
              rfl
             refine pure_ (i := 11) (N := some 4) (v := ?_) (a' := ?_) #[true, true, true, true, true, true, true, true, true, true, true, true] rfl rfl (any_of HT_.out (by kernel_rfl)) (fun _ _ _ h => h) (Or.inl ⟨by rfl, ?_⟩) ?_ ?_
             rotate_left
             ·intro w'
              go_simp
              with_reducible rfl
             rotate_left
             ·simp only [Act.put, List.setIfInBounds_toArray, List.set_cons_zero, List.set_cons_succ, i64_w, i32_w]
              rfl
             refine done_ (done_of HT_.out (by kernel_rfl)) ?_
             try go_wp2
             go_ret
             exact ⟨by first | rfl | (simp [errW_none, errW_some] <;> rfl) | (simp only [← hji25]; first | rfl | (simp [errW_none, errW_some] <;> rfl)) | (simp [*, errW_none, errW_some] <;> rfl), by repeat (first | (with_reducible first | exact HI0.out | apply IsS95.alloc | apply IsS95.drewN | apply IsS95.drew | apply IsS95.set_1 | apply IsS95.set_2) | exact HI0.out), by repeat (first | (with_reducible first | exact HB.out | apply below_alloc | apply pw_below_drewN | apply below_drew1 | refine below_set ?_ (IsS95.ge HI0.out)) | exact HB.out), by repeat (first | (with_reducible first | exact HK.out | apply KeepBut.set_ | apply keep_drewN | apply keep_drew | apply keep_alloc) | exact HK.out)⟩
            ·rw [if_neg c28] at H
             exact absurd H (by simp)
           ·rw [if_neg c27] at H
            exact absurd H (by simp)
          ·rw [if_neg c26] at H
           exact absurd H (by simp)
         ·rw [if_neg c24] at H
          exact absurd H (by simp)
        ·rw [if_neg c22] at H
         exact absurd H (by simp)
       ·rw [if_neg c21] at H
        exact absurd H (by simp)
      ·rw [if_neg c19] at H
       have c19b0 : decide (0 < (a1.size : Int)) = false := decide_eq_false c19
       have c19b1 : decide (0 < a1.size) = false := decide_eq_false (by omega)
       clear c19
       simp only [Option.some.injEq, Prod.mk.injEq] at H
       obtain ⟨rfl, rfl, rfl⟩ := H
       go_wp2
       go_ret
       exact ⟨by first | rfl | (simp [errW_none, errW_some] <;> rfl) | (simp [*, errW_none, errW_some] <;> rfl), by repeat (first | (with_reducible first | exact HI0.out | apply IsS95.alloc | apply IsS95.drewN | apply IsS95.drew | apply IsS95.set_1 | apply IsS95.set_2) | exact HI0.out), by repeat (first | (with_reducible first | exact HB.out | apply below_alloc | apply pw_below_drewN | apply below_drew1 | refine below_set ?_ (IsS95.ge HI0.out)) | exact HB.out), by repeat (first | (with_reducible first | exact HK.out | apply KeepBut.set_ | apply keep_drewN | apply keep_drew | apply keep_alloc) | exact HK.out)⟩
     ·replace c18 := Bool.eq_false_iff.mpr c18
      subst c18
      rw [if_neg (show ¬ (false = true) by decide)] at H
      simp only [Option.some.injEq, Prod.mk.injEq] at H
      obtain ⟨rfl, rfl, rfl⟩ := H
      go_wp2
      go_ret
      exact ⟨by first | rfl | (simp [errW_none, errW_some] <;> rfl) | (simp [*, errW_none, errW_some] <;> rfl), by repeat (first | (with_reducible first | exact HI0.out | apply IsS95.alloc | apply IsS95.drewN | apply IsS95.drew | apply IsS95.set_1 | apply IsS95.set_2) | exact HI0.out), by repeat (first | (with_reducible first | exact HB.out | apply below_alloc | apply pw_below_drewN | apply below_drew1 | refine below_set ?_ (IsS95.ge HI0.out)) | exact HB.out), by repeat (first | (with_reducible first | exact HK.out | apply KeepBut.set_ | apply keep_drewN | apply keep_drew | apply keep_alloc) | exact HK.out)⟩

/-! ### spec_DrawReadItem: function 12 -/
def spec_DrawReadItem.f (k : Nat) (l0 : List Int) : Option (ByteArray) := (spec_l01New.f k l0).bind fun bt326 => ((spec_l01Below.f bt326.1 bt326.2.1 bt326.2.2 6).bind fun bt330 => ((spec_l07Any.f k bt326.1 bt330.2.1 bt330.2.2).bind fun bt333 => ((spec_ItemText.f k bt333.1 bt333.2.1 bt333.2.2.1).bind fun bt340 => (if bt330.1 = 0 then ((spec_l02Spoilt.f k bt326.1 bt333.2.2.2.1 bt333.2.2.2.2 bt340.1).bind fun bt342 => (some bt342.1)) else (if bt330.1 = 1 then (if bt340.1.size + 1 ≤ 9223372036854775807 then (some (bt340.1 ++ (⟨#[120]⟩ : ByteArray))) else (none)) else (if bt330.1 = 2 then ((spec_l01Pick.f bt326.1 bt333.2.2.2.1 bt333.2.2.2.2 (([(⟨#[]⟩ : ByteArray), (⟨#[2, 2, 0, 1]⟩ : ByteArray), (⟨#[2, 1, 128]⟩ : ByteArray), (⟨#[4, 129, 5, 104, 101, 108, 108, 111]⟩ : ByteArray), (⟨#[1, 1, 1]⟩ : ByteArray), (⟨#[48, 128]⟩ : ByteArray), (⟨#[4, 130, 0, 128]⟩ : ByteArray), (⟨#[48, 3, 2, 1]⟩ : ByteArray)] : List ByteArray))).bind fun bt348 => (some bt348.1)) else (some bt340.1)))))))
theorem spec_DrawReadItem.mono : ∀ a0 k, LeO (spec_DrawReadItem.f k a0) (spec_DrawReadItem.f (k + 1) a0) := by
 intro a0 k
 unfold spec_DrawReadItem.f
 repeat' first
   | (with_reducible exact spec_ItemText.mono _ _ _ _)
   | (with_reducible exact spec_l01New.mono _ _)
   | (with_reducible exact spec_l02Spoilt.mono _ _ _ _ _)
   | (with_reducible exact spec_l07Any.mono _ _ _ _)
   | (with_reducible exact LeO.refl _)
   | (with_reducible exact LeO.none _)
   | (with_reducible refine LeO.ite ?_ ?_)
   | (with_reducible refine LeO.bind ?_ (fun _ => ?_))
   | exact LeO.none _
   | refine LeO.ite ?_ ?_
   | refine LeO.bind ?_ (fun _ => ?_)
set_option maxHeartbeats 8000000 in
set_option maxRecDepth 100000 in
theorem spec_DrawReadItem.calls (k : Nat) (A0 : Option Addr) (c0 : Nat) (l0 : List Int) (r : ByteArray) (w : World) (hr0 : Kd.C (Kd.int .u8) w A0 l0.length l0) (hc0 : l0.length ≤ c0) (h : spec_DrawReadItem.f k l0 = some r) :
  Calls Try.prog 12 #[.slice A0 l0.length c0] w fun e w' => e = .returned (.string r) ∧ Below w.heap.size w w' := by
 have HR0 := Aside0.mk hr0
 have HC0 := Aside0.mk hc0
 clear hr0 hc0
 have HB := Aside0.mk (Below.refl w.heap.size w)
 have H : ((spec_l01New.f k l0).bind fun bt326 => ((spec_l01Below.f bt326.1 bt326.2.1 bt326.2.2 6).bind fun bt330 => ((spec_l07Any.f k bt326.1 bt330.2.1 bt330.2.2).bind fun bt333 => ((spec_ItemText.f k bt333.1 bt333.2.1 bt333.2.2.1).bind fun bt340 => (if bt330.1 = 0 then ((spec_l02Spoilt.f k bt326.1 bt333.2.2.2.1 bt333.2.2.2.2 bt340.1).bind fun bt342 => (some bt342.1)) else (if bt330.1 = 1 then (if bt340.1.size + 1 ≤ 9223372036854775807 then (some (bt340.1 ++ (⟨#[120]⟩ : ByteArray))) else (none)) else (if bt330.1 = 2 then ((spec_l01Pick.f bt326.1 bt333.2.2.2.1 bt333.2.2.2.2 (([(⟨#[]⟩ : ByteArray), (⟨#[2, 2, 0, 1]⟩ : ByteArray), (⟨#[2, 1, 128]⟩ : ByteArray), (⟨#[4, 129, 5, 104, 101, 108, 108, 111]⟩ : ByteArray), (⟨#[1, 1, 1]⟩ : ByteArray), (⟨#[48, 128]⟩ : ByteArray), (⟨#[4, 130, 0, 128]⟩ : ByteArray), (⟨#[48, 3, 2, 1]⟩ : ByteArray)] : List ByteArray))).bind fun bt348 => (some bt348.1)) else (some bt340.1)))))))) = some r := h
 clear h
 replace H := Option.bind_eq_some_iff.mp H
 obtain ⟨⟨t326, t327, t328⟩, A20, H⟩ := H
 try dsimp only at H
 have A2 := Aside0.mk A20
 clear A20
 replace H := Option.bind_eq_some_iff.mp H
 obtain ⟨⟨t330, t331, t332⟩, A30, H⟩ := H
 try dsimp only at H
 have A3 := Aside0.mk A30
 clear A30
 replace H := Option.bind_eq_some_iff.mp H
 obtain ⟨⟨t333, t334, t335, t338, t339⟩, A40, H⟩ := H
 try dsimp only at H
 have A4 := Aside0.mk A40
 clear A40
 replace H := Option.bind_eq_some_iff.mp H
 obtain ⟨⟨t340, t341⟩, A50, H⟩ := H
 try dsimp only at H
 have A5 := Aside0.mk A50
 clear A50
 by_cases c6 : t330 = 0
 ·rw [if_pos c6] at H
  have c6b0 : (t330 == 0) = true := beq_iff_eq.mpr c6
  have c6b1 : (t330 != 0) = false := bne_eq_false_iff_eq.mpr c6
  clear c6
  replace H := Option.bind_eq_some_iff.mp H
  obtain ⟨⟨t342, t343, t344⟩, A70, H⟩ := H
  try dsimp only at H
  have A7 := Aside0.mk A70
  clear A70
  obtain rfl := Option.some.inj H
  go_enter Try.func12, Try.ntmps12
  go_wp2_with (first | ((with_reducible refine gate_callee (f := 38) rfl ?_); refine goesL_ (some 8) rfl rfl Try.func38 (by kernel_rfl) rfl #[.slice A0 l0.length c0] rfl (by (try simp only [List.map_toArray, List.map_cons, List.map_nil]); first | done | rfl | (simp only [List.length_drop, List.length_take]; rfl)) ?_; (with_reducible refine (spec_l01New.calls k _ _ l0 t326 t327 t328 w _ ?side1 ?side2 ?side3 A2.out).mono ?_); (case side1 => repeat (first | (with_reducible first | exact HB.out | apply below_alloc | apply pw_below_drewN | apply below_drew1) | exact HB.out)); (case side2 => exact HR0.out); (case side3 => exact HC0.out); rintro e w8 ⟨g329, rfl, hi, hb, hb2⟩; refine ⟨_, rfl, ?_⟩; replace HB := Aside0.mk (hb); replace HI329 := Aside0.mk (hi); (try clear hb); (try clear hb2); (try clear hk); (try clear hi)) | ((with_reducible refine gate_callee (f := 41) rfl ?_); refine goesL_ (some 10) rfl rfl Try.func41 (by kernel_rfl) rfl #[.pointer (some ⟨g329, 0, none⟩), .int .i64 6] rfl (by (try simp only [List.map_toArray, List.map_cons, List.map_nil]); first | done | rfl | (simp only [List.length_drop, List.length_take]; rfl)) ?_; (with_reducible refine (spec_l01Below.calls g329 t326 t327 t328 6 t330 t331 t332 w _ ?side1 ?side2 A3.out).mono ?_); (case side1 => repeat (first | (with_reducible first | exact HI329.out | apply IsS95.alloc | apply IsS95.drewN | apply IsS95.drew | apply IsS95.set_1 | apply IsS95.set_2) | exact HI329.out)); (case side2 => repeat (first | (with_reducible first | exact HB.out | apply below_alloc | apply pw_below_drewN | apply below_drew1 | refine below_set ?_ (IsS95.ge HI329.out)) | exact HB.out)); rintro e w9 ⟨rfl, hi, hb, hk⟩; refine ⟨_, rfl, ?_⟩; replace HB := Aside0.mk (hb); replace HI329 := Aside0.mk (hi); (try clear hb); (try clear hb2); (try clear hk); (try clear hi)) | ((with_reducible refine gate_callee (f := 43) rfl ?_); refine goesL_ (some 13) rfl rfl Try.func43 (by kernel_rfl) rfl #[.pointer (some ⟨g329, 0, none⟩)] rfl (by (try simp only [List.map_toArray, List.map_cons, List.map_nil]); first | done | rfl | (simp only [List.length_drop, List.length_take]; rfl)) ?_; (with_reducible refine (spec_l07Any.calls k g329 t326 t331 t332 t333 t334 t335 t338 t339 w _ ?side1 ?side2 A4.out).mono ?_); (case side1 => repeat (first | (with_reducible first | exact HI329.out | apply IsS95.alloc | apply IsS95.drewN | apply IsS95.drew | apply IsS95.set_1 | apply IsS95.set_2) | exact HI329.out)); (case side2 => repeat (first | (with_reducible first | exact HB.out | apply below_alloc | apply pw_below_drewN | apply below_drew1 | refine below_set ?_ (IsS95.ge HI329.out)) | exact HB.out)); rintro e w10 ⟨v336, rfl, ho0, hi, hb, hk⟩; refine ⟨_, rfl, ?_⟩; replace HO337 := Aside0.mk (Kd.R_lower ho0 (below_size (by repeat (first | (with_reducible first | exact HB.out | apply below_alloc | apply pw_below_drewN | apply below_drew1 | refine below_set ?_ (IsS95.ge HI329.out)) | exact HB.out)))); replace HB := Aside0.mk (hb); replace HI329 := Aside0.mk (hi); (try clear hb); (try clear hb2); (try clear hk); (try clear hi); (try clear ho0); obtain ⟨Ao11, co11, eo11⟩ := Kd.R_slice HO337.out; subst eo11) | ((with_reducible refine gate_callee (f := 42) rfl ?_); refine goesL_ (some 14) rfl rfl Try.func42 (by kernel_rfl) rfl #[.agg #[.int .i64 t333, .string t334, .slice Ao11 t335.length co11]] rfl (by (try simp only [List.map_toArray, List.map_cons, List.map_nil]); first | done | rfl | (simp only [List.length_drop, List.length_take]; rfl)) ?_; (with_reducible refine (spec_ItemText.calls k t333 t334 _ _ t335 t340 t341 _ ?side1 ?side2 A5.out).mono ?_); (case side1 => repeat (first | exact (Kd.R_reads' HO337.out).2.2 | (with_reducible refine Kd.C_alloc ?_ _) | (with_reducible refine Kd.C_drewN ?_ _) | (with_reducible refine Kd.C_drew ?_))); (case side2 => exact (Kd.R_reads' HO337.out).2.1); rintro e w12 ⟨rfl, hb⟩; refine ⟨_, rfl, ?_⟩; have n0_ := Aside0.mk (Kd.R_below (by (with_reducible repeat (first | apply Kd.R_alloc | apply Kd.R_drewN | apply Kd.R_drew)); exact HO337.out) hb); have n1_ := Aside0.mk (IsS95.below (by repeat (first | (with_reducible first | exact HI329.out | apply IsS95.alloc | apply IsS95.drewN | apply IsS95.drew | apply IsS95.set_1 | apply IsS95.set_2) | exact HI329.out)) hb); have n2_ := Aside0.mk (below_step (by repeat (first | (with_reducible first | exact HB.out | apply below_alloc | apply pw_below_drewN | apply below_drew1 | refine below_set ?_ (IsS95.ge HI329.out)) | exact HB.out)) hb); clear HO337; clear HI329; clear HB; have HO337 := n0_; have HI329 := n1_; have HB := n2_; clear n0_ n1_ n2_; (try clear hb); (try clear hb2); (try clear hk); (try clear hi)) | ((with_reducible refine gate_callee (f := 44) rfl ?_); refine goesL_ (some 22) rfl rfl Try.func44 (by kernel_rfl) rfl #[.pointer (some ⟨g329, 0, none⟩), .string t340] rfl (by (try simp only [List.map_toArray, List.map_cons, List.map_nil]); first | done | rfl | (simp only [List.length_drop, List.length_take]; rfl)) ?_; (with_reducible refine (spec_l02Spoilt.calls k g329 t326 t338 t339 t340 t342 t343 t344 w _ ?side1 ?side2 A7.out).mono ?_); (case side1 => repeat (first | (with_reducible first | exact HI329.out | apply IsS95.alloc | apply IsS95.drewN | apply IsS95.drew | apply IsS95.set_1 | apply IsS95.set_2) | exact HI329.out)); (case side2 => repeat (first | (with_reducible first | exact HB.out | apply below_alloc | apply pw_below_drewN | apply below_drew1 | refine below_set ?_ (IsS95.ge HI329.out)) | exact HB.out)); rintro e w13 ⟨rfl, hi, hb, hk⟩; refine ⟨_, rfl, ?_⟩; replace HO337 := Aside0.mk (Kd.R_mono (Kd.R_keep (IsS95.apart (show IsS95 w _ g329 t326 t338 t339 from by repeat (first | (with_reducible first | exact HI329.out | apply IsS95.alloc | apply IsS95.drewN | apply IsS95.drew | apply IsS95.set_1 | apply IsS95.set_2) | exact HI329.out)) (by (with_reducible repeat (first | apply Kd.R_alloc | apply Kd.R_drewN | apply Kd.R_drew)); exact HO337.out) (by decide)) hk (fun _ h => h.2)) (fun _ h => h.1)); replace HB := Aside0.mk (hb); replace HI329 := Aside0.mk (hi); (try clear hb); (try clear hb2); (try clear hk); (try clear hi)))
  go_ret
  exact ⟨by first | rfl | (simp [errW_none, errW_some] <;> rfl) | (simp [*, errW_none, errW_some] <;> rfl), by repeat (first | (with_reducible first | exact HB.out | apply below_alloc | apply pw_below_drewN | apply below_drew1 | refine below_set ?_ (IsS95.ge HI329.out)) | exact HB.out)⟩
 ·rw [if_neg c6] at H
  have c6b0 : (t330 == 0) = false := beq_eq_false_iff_ne.mpr c6
  have c6b1 : (t330 != 0) = true := bne_iff_ne.mpr c6
  by_cases c14 : t330 = 1
  ·rw [if_pos c14] at H
   have c14b0 : (t330 == 1) = true := beq_iff_eq.mpr c14
   have c14b1 : (t330 != 1) = false := bne_eq_false_iff_eq.mpr c14
   clear c14
   by_cases c15 : t340.size + 1 ≤ 9223372036854775807
   ·rw [if_pos c15] at H
    have c15b0 := eq_true c15
    have c15b1 : decide (t340.size + 1 ≤ 9223372036854775807) = true := decide_eq_true c15
    try have c15b2 : (9223372036854775807 < t340.size + 1) = False := eq_false (Nat.not_lt.2 c15)
    obtain rfl := Option.some.inj H
    go_enter Try.func12, Try.ntmps12
    go_wp2_with (first | ((with_reducible refine gate_callee (f := 38) rfl ?_); refine goesL_ (some 8) rfl rfl Try.func38 (by kernel_rfl) rfl #[.slice A0 l0.length c0] rfl (by (try simp only [List.map_toArray, List.map_cons, List.map_nil]); first | done | rfl | (simp only [List.length_drop, List.length_take]; rfl)) ?_; (with_reducible refine (spec_l01New.calls k _ _ l0 t326 t327 t328 w _ ?side1 ?side2 ?side3 A2.out).mono ?_); (case side1 => repeat (first | (with_reducible first | exact HB.out | apply below_alloc | apply pw_below_drewN | apply below_drew1) | exact HB.out)); (case side2 => exact HR0.out); (case side3 => exact HC0.out); rintro e w16 ⟨g329, rfl, hi, hb, hb2⟩; refine ⟨_, rfl, ?_⟩; replace HB := Aside0.mk (hb); replace HI329 := Aside0.mk (hi); (try clear hb); (try clear hb2); (try clear hk); (try clear hi)) | ((with_reducible refine gate_callee (f := 41) rfl ?_); refine goesL_ (some 10) rfl rfl Try.func41 (by kernel_rfl) rfl #[.pointer (some ⟨g329, 0, none⟩), .int .i64 6] rfl (by (try simp only [List.map_toArray, List.map_cons, List.map_nil]); first | done | rfl | (simp only [List.length_drop, List.length_take]; rfl)) ?_; (with_reducible refine (spec_l01Below.calls g329 t326 t327 t328 6 t330 t331 t332 w _ ?side1 ?side2 A3.out).mono ?_); (case side1 => repeat (first | (with_reducible first | exact HI329.out | apply IsS95.alloc | apply IsS95.drewN | apply IsS95.drew | apply IsS95.set_1 | apply IsS95.set_2) | exact HI329.out)); (case side2 => repeat (first | (with_reducible first | exact HB.out | apply below_alloc | apply pw_below_drewN | apply below_drew1 | refine below_set ?_ (IsS95.ge HI329.out)) | exact HB.out)); rintro e w17 ⟨rfl, hi, hb, hk⟩; refine ⟨_, rfl, ?_⟩; replace HB := Aside0.mk (hb); replace HI329 := Aside0.mk (hi); (try clear hb); (try clear hb2); (try clear hk); (try clear hi)) | ((with_reducible refine gate_callee (f := 43) rfl ?_); refine goesL_ (some 13) rfl rfl Try.func43 (by kernel_rfl) rfl #[.pointer (some ⟨g329, 0, none⟩)] rfl (by (try simp only [List.map_toArray, List.map_cons, List.map_nil]); first | done | rfl | (simp only [List.length_drop, List.length_take]; rfl)) ?_; (with_reducible refine (spec_l07Any.calls k g329 t326 t331 t332 t333 t334 t335 t338 t339 w _ ?side1 ?side2 A4.out).mono ?_); (case side1 => repeat (first | (with_reducible first | exact HI329.out | apply IsS95.alloc | apply IsS95.drewN | apply IsS95.drew | apply IsS95.set_1 | apply IsS95.set_2) | exact HI329.out)); (case side2 => repeat (first | (with_reducible first | exact HB.out | apply below_alloc | apply pw_below_drewN | apply below_drew1 | refine below_set ?_ (IsS95.ge HI329.out)) | exact HB.out)); rintro e w18 ⟨v336, rfl, ho0, hi, hb, hk⟩; refine ⟨_, rfl, ?_⟩; replace HO337 := Aside0.mk (Kd.R_lower ho0 (below_size (by repeat (first | (with_reducible first | exact HB.out | apply below_alloc | apply pw_below_drewN | apply below_drew1 | refine below_set ?_ (IsS95.ge HI329.out)) | exact HB.out)))); replace HB := Aside0.mk (hb); replace HI329 := Aside0.mk (hi); (try clear hb); (try clear hb2); (try clear hk); (try clear hi); (try clear ho0); obtain ⟨Ao19, co19, eo19⟩ := Kd.R_slice HO337.out; subst eo19) | ((with_reducible refine gate_callee (f := 42) rfl ?_); refine goesL_ (some 14) rfl rfl Try.func42 (by kernel_rfl) rfl #[.agg #[.int .i64 t333, .string t334, .slice Ao19 t335.length co19]] rfl (by (try simp only [List.map_toArray, List.map_cons, List.map_nil]); first | done | rfl | (simp only [List.length_drop, List.length_take]; rfl)) ?_; (with_reducible refine (spec_ItemText.calls k t333 t334 _ _ t335 t340 t341 _ ?side1 ?side2 A5.out).mono ?_); (case side1 => repeat (first | exact (Kd.R_reads' HO337.out).2.2 | (with_reducible refine Kd.C_alloc ?_ _) | (with_reducible refine Kd.C_drewN ?_ _) | (with_reducible refine Kd.C_drew ?_))); (case side2 => exact (Kd.R_reads' HO337.out).2.1); rintro e w20 ⟨rfl, hb⟩; refine ⟨_, rfl, ?_⟩; have n0_ := Aside0.mk (Kd.R_below (by (with_reducible repeat (first | apply Kd.R_alloc | apply Kd.R_drewN | apply Kd.R_drew)); exact HO337.out) hb); have n1_ := Aside0.mk (IsS95.below (by repeat (first | (with_reducible first | exact HI329.out | apply IsS95.alloc | apply IsS95.drewN | apply IsS95.drew | apply IsS95.set_1 | apply IsS95.set_2) | exact HI329.out)) hb); have n2_ := Aside0.mk (below_step (by repeat (first | (with_reducible first | exact HB.out | apply below_alloc | apply pw_below_drewN | apply below_drew1 | refine below_set ?_ (IsS95.ge HI329.out)) | exact HB.out)) hb); clear HO337; clear HI329; clear HB; have HO337 := n0_; have HI329 := n1_; have HB := n2_; clear n0_ n1_ n2_; (try clear hb); (try clear hb2); (try clear hk); (try clear hi)))
    go_ret
    exact ⟨by first | rfl | (simp [errW_none, errW_some] <;> rfl) | (simp [*, errW_none, errW_some] <;> rfl), by repeat (first | (with_reducible first | exact HB.out | apply below_alloc | apply pw_below_drewN | apply below_drew1 | refine below_set ?_ (IsS95.ge HI329.out)) | exact HB.out)⟩
   ·rw [if_neg c15] at H
    exact absurd H (by simp)
  ·rw [if_neg c14] at H
   have c14b0 : (t330 == 1) = false := beq_eq_false_iff_ne.mpr c14
   have c14b1 : (t330 != 1) = true := bne_iff_ne.mpr c14
   by_cases c21 : t330 = 2
   ·rw [if_pos c21] at H
    have c21b0 : (t330 == 2) = true := beq_iff_eq.mpr c21
    have c21b1 : (t330 != 2) = false := bne_eq_false_iff_eq.mpr c21
    clear c21
    obtain ⟨y345, hy345⟩ : ∃ y_ : List ByteArray, y_ = (([(⟨#[]⟩ : ByteArray), (⟨#[2, 2, 0, 1]⟩ : ByteArray), (⟨#[2, 1, 128]⟩ : ByteArray), (⟨#[4, 129, 5, 104, 101, 108, 108, 111]⟩ : ByteArray), (⟨#[1, 1, 1]⟩ : ByteArray), (⟨#[48, 128]⟩ : ByteArray), (⟨#[4, 130, 0, 128]⟩ : ByteArray), (⟨#[48, 3, 2, 1]⟩ : ByteArray)] : List ByteArray)) := ⟨_, rfl⟩
    replace H : ((spec_l01Pick.f t326 t338 t339 y345).bind fun bt348 => (some bt348.1)) = some r := by first | (rw [hy345]; with_reducible exact H) | (have H2_ := (Option.bind_some _ _).symm.trans H; rw [hy345]; with_reducible exact H2_) | (have H2_ := (Option.bind_some _ _).symm.trans H; with_reducible exact H2_) | with_reducible exact H | (rw [hy345]; exact H) | exact H
    have Ny345 := Aside0.mk hy345
    clear hy345
    replace H := Option.bind_eq_some_iff.mp H
    obtain ⟨⟨t348, t349, t350⟩, A220, H⟩ := H
    try dsimp only at H
    have A22 := Aside0.mk A220
    clear A220
    obtain rfl := Option.some.inj H
    go_enter Try.func12, Try.ntmps12
    go_wp2_with (first | ((with_reducible refine gate_callee (f := 38) rfl ?_); refine goesL_ (some 8) rfl rfl Try.func38 (by kernel_rfl) rfl #[.slice A0 l0.length c0] rfl (by (try simp only [List.map_toArray, List.map_cons, List.map_nil]); first | done | rfl | (simp only [List.length_drop, List.length_take]; rfl)) ?_; (with_reducible refine (spec_l01New.calls k _ _ l0 t326 t327 t328 w _ ?side1 ?side2 ?side3 A2.out).mono ?_); (case side1 => repeat (first | (with_reducible first | exact HB.out | apply below_alloc | apply pw_below_drewN | apply below_drew1) | exact HB.out)); (case side2 => exact HR0.out); (case side3 => exact HC0.out); rintro e w23 ⟨g329, rfl, hi, hb, hb2⟩; refine ⟨_, rfl, ?_⟩; replace HB := Aside0.mk (hb); replace HI329 := Aside0.mk (hi); (try clear hb); (try clear hb2); (try clear hk); (try clear hi)) | ((with_reducible refine gate_callee (f := 41) rfl ?_); refine goesL_ (some 10) rfl rfl Try.func41 (by kernel_rfl) rfl #[.pointer (some ⟨g329, 0, none⟩), .int .i64 6] rfl (by (try simp only [List.map_toArray, List.map_cons, List.map_nil]); first | done | rfl | (simp only [List.length_drop, List.length_take]; rfl)) ?_; (with_reducible refine (spec_l01Below.calls g329 t326 t327 t328 6 t330 t331 t332 w _ ?side1 ?side2 A3.out).mono ?_); (case side1 => repeat (first | (with_reducible first | exact HI329.out | apply IsS95.alloc | apply IsS95.drewN | apply IsS95.drew | apply IsS95.set_1 | apply IsS95.set_2) | exact HI329.out)); (case side2 => repeat (first | (with_reducible first | exact HB.out | apply below_alloc | apply pw_below_drewN | apply below_drew1 | refine below_set ?_ (IsS95.ge HI329.out)) | exact HB.out)); rintro e w24 ⟨rfl, hi, hb, hk⟩; refine ⟨_, rfl, ?_⟩; replace HB := Aside0.mk (hb); replace HI329 := Aside0.mk (hi); (try clear hb); (try clear hb2); (try clear hk); (try clear hi)) | ((with_reducible refine gate_callee (f := 43) rfl ?_); refine goesL_ (some 13) rfl rfl Try.func43 (by kernel_rfl) rfl #[.pointer (some ⟨g329, 0, none⟩)] rfl (by (try simp only [List.map_toArray, List.map_cons, List.map_nil]); first | done | rfl | (simp only [List.length_drop, List.length_take]; rfl)) ?_; (with_reducible refine (spec_l07Any.calls k g329 t326 t331 t332 t333 t334 t335 t338 t339 w _ ?side1 ?side2 A4.out).mono ?_); (case side1 => repeat (first | (with_reducible first | exact HI329.out | apply IsS95.alloc | apply IsS95.drewN | apply IsS95.drew | apply IsS95.set_1 | apply IsS95.set_2) | exact HI329.out)); (case side2 => repeat (first | (with_reducible first | exact HB.out | apply below_alloc | apply pw_below_drewN | apply below_drew1 | refine below_set ?_ (IsS95.ge HI329.out)) | exact HB.out)); rintro e w25 ⟨v336, rfl, ho0, hi, hb, hk⟩; refine ⟨_, rfl, ?_⟩; replace HO337 := Aside0.mk (Kd.R_lower ho0 (below_size (by repeat (first | (with_reducible first | exact HB.out | apply below_alloc | apply pw_below_drewN | apply below_drew1 | refine below_set ?_ (IsS95.ge HI329.out)) | exact HB.out)))); replace HB := Aside0.mk (hb); replace HI329 := Aside0.mk (hi); (try clear hb); (try clear hb2); (try clear hk); (try clear hi); (try clear ho0); obtain ⟨Ao26, co26, eo26⟩ := Kd.R_slice HO337.out; subst eo26) | ((with_reducible refine gate_callee (f := 42) rfl ?_); refine goesL_ (some 14) rfl rfl Try.func42 (by kernel_rfl) rfl #[.agg #[.int .i64 t333, .string t334, .slice Ao26 t335.length co26]] rfl (by (try simp only [List.map_toArray, List.map_cons, List.map_nil]); first | done | rfl | (simp only [List.length_drop, List.length_take]; rfl)) ?_; (with_reducible refine (spec_ItemText.calls k t333 t334 _ _ t335 t340 t341 _ ?side1 ?side2 A5.out).mono ?_); (case side1 => repeat (first | exact (Kd.R_reads' HO337.out).2.2 | (with_reducible refine Kd.C_alloc ?_ _) | (with_reducible refine Kd.C_drewN ?_ _) | (with_reducible refine Kd.C_drew ?_))); (case side2 => exact (Kd.R_reads' HO337.out).2.1); rintro e w27 ⟨rfl, hb⟩; refine ⟨_, rfl, ?_⟩; have n0_ := Aside0.mk (Kd.R_below (by (with_reducible repeat (first | apply Kd.R_alloc | apply Kd.R_drewN | apply Kd.R_drew)); exact HO337.out) hb); have n1_ := Aside0.mk (IsS95.below (by repeat (first | (with_reducible first | exact HI329.out | apply IsS95.alloc | apply IsS95.drewN | apply IsS95.drew | apply IsS95.set_1 | apply IsS95.set_2) | exact HI329.out)) hb); have n2_ := Aside0.mk (below_step (by repeat (first | (with_reducible first | exact HB.out | apply below_alloc | apply pw_below_drewN | apply below_drew1 | refine below_set ?_ (IsS95.ge HI329.out)) | exact HB.out)) hb); clear HO337; clear HI329; clear HB; have HO337 := n0_; have HI329 := n1_; have HB := n2_; clear n0_ n1_ n2_; (try clear hb); (try clear hb2); (try clear hk); (try clear hi)) | ((with_reducible refine gate_dst (N := 30) rfl ?_); refine Kd.R_lit Kd.string _ 9 ?hg (N := 30) ?hd (xs := ([(⟨#[]⟩ : ByteArray), (⟨#[2, 2, 0, 1]⟩ : ByteArray), (⟨#[2, 1, 128]⟩ : ByteArray), (⟨#[4, 129, 5, 104, 101, 108, 108, 111]⟩ : ByteArray), (⟨#[1, 1, 1]⟩ : ByteArray), (⟨#[48, 128]⟩ : ByteArray), (⟨#[4, 130, 0, 128]⟩ : ByteArray), (⟨#[48, 3, 2, 1]⟩ : ByteArray)] : List ByteArray)) (inner := [.string (⟨#[]⟩ : ByteArray), .string (⟨#[2, 2, 0, 1]⟩ : ByteArray), .string (⟨#[2, 1, 128]⟩ : ByteArray), .string (⟨#[4, 129, 5, 104, 101, 108, 108, 111]⟩ : ByteArray), .string (⟨#[1, 1, 1]⟩ : ByteArray), .string (⟨#[48, 128]⟩ : ByteArray), .string (⟨#[4, 130, 0, 128]⟩ : ByteArray), .string (⟨#[48, 3, 2, 1]⟩ : ByteArray)]) (ok := fun _ => True) (okp := fun _ => True) ?hr ?hp (fun _ hk => hk) trivial (Below.refl _ _) (Nat.le_refl _) (by simp) ?_; (case hd => rfl); (case hg => rfl); (case hr => first | (go_simp; done) | (go_simp; rfl)); (case hp => exact (Reps.one (show Kd.M Kd.string _ _ _ (⟨#[]⟩ : ByteArray) [.string (⟨#[]⟩ : ByteArray)] from rfl) (Reps.one (show Kd.M Kd.string _ _ _ (⟨#[2, 2, 0, 1]⟩ : ByteArray) [.string (⟨#[2, 2, 0, 1]⟩ : ByteArray)] from rfl) (Reps.one (show Kd.M Kd.string _ _ _ (⟨#[2, 1, 128]⟩ : ByteArray) [.string (⟨#[2, 1, 128]⟩ : ByteArray)] from rfl) (Reps.one (show Kd.M Kd.string _ _ _ (⟨#[4, 129, 5, 104, 101, 108, 108, 111]⟩ : ByteArray) [.string (⟨#[4, 129, 5, 104, 101, 108, 108, 111]⟩ : ByteArray)] from rfl) (Reps.one (show Kd.M Kd.string _ _ _ (⟨#[1, 1, 1]⟩ : ByteArray) [.string (⟨#[1, 1, 1]⟩ : ByteArray)] from rfl) (Reps.one (show Kd.M Kd.string _ _ _ (⟨#[48, 128]⟩ : ByteArray) [.string (⟨#[48, 128]⟩ : ByteArray)] from rfl) (Reps.one (show Kd.M Kd.string _ _ _ (⟨#[4, 130, 0, 128]⟩ : ByteArray) [.string (⟨#[4, 130, 0, 128]⟩ : ByteArray)] from rfl) (Reps.one (show Kd.M Kd.string _ _ _ (⟨#[48, 3, 2, 1]⟩ : ByteArray) [.string (⟨#[48, 3, 2, 1]⟩ : ByteArray)] from rfl) (Reps.none _ _)))))))))); intro v346 w28 ho29 hb hg_ hnew_; clear hg_ hnew_; (first | rw [← Ny345.out] at ho29 | (simp only [Int.reduceToNat] at ho29; rw [← Ny345.out] at ho29)); have n0_ := Aside0.mk (Kd.R_below (by (with_reducible repeat (first | apply Kd.R_alloc | apply Kd.R_drewN | apply Kd.R_drew)); exact HO337.out) hb); have n1_ := Aside0.mk (Kd.R_lower ho29 (below_size (by repeat (first | (with_reducible first | exact HB.out | apply below_alloc | apply pw_below_drewN | apply below_drew1 | refine below_set ?_ (IsS95.ge HI329.out)) | exact HB.out)))); have n2_ := Aside0.mk (IsS95.below (by repeat (first | (with_reducible first | exact HI329.out | apply IsS95.alloc | apply IsS95.drewN | apply IsS95.drew | apply IsS95.set_1 | apply IsS95.set_2) | exact HI329.out)) hb); have n3_ := Aside0.mk (below_step (by repeat (first | (with_reducible first | exact HB.out | apply below_alloc | apply pw_below_drewN | apply below_drew1 | refine below_set ?_ (IsS95.ge HI329.out)) | exact HB.out)) hb); clear HO337; clear HI329; clear HB; have HO337 := n0_; have HO347 := n1_; have HI329 := n2_; have HB := n3_; clear n0_ n1_ n2_ n3_; clear hb ho29; obtain ⟨Ao30, co30, eo30⟩ := Kd.R_slice HO347.out; subst eo30) | ((with_reducible refine gate_callee (f := 45) rfl ?_); refine goesL_ (some 31) rfl rfl Try.func45 (by kernel_rfl) rfl #[.pointer (some ⟨g329, 0, none⟩), .slice Ao30 y345.length co30] rfl (by (try simp only [List.map_toArray, List.map_cons, List.map_nil]); first | done | rfl | (simp only [List.length_drop, List.length_take]; rfl)) ?_; (with_reducible refine (spec_l01Pick.calls g329 t326 t338 t339 _ _ y345 t348 t349 t350 w _ ?side1 ?side2 ?side3 ?side4 ?side5 A22.out).mono ?_); (case side1 => repeat (first | (with_reducible first | exact HI329.out | apply IsS95.alloc | apply IsS95.drewN | apply IsS95.drew | apply IsS95.set_1 | apply IsS95.set_2) | exact HI329.out)); (case side2 => repeat (first | (with_reducible first | exact HB.out | apply below_alloc | apply pw_below_drewN | apply below_drew1 | refine below_set ?_ (IsS95.ge HI329.out)) | exact HB.out)); (case side3 => repeat (first | exact (Kd.R_reads' HO347.out).2.2 | (with_reducible refine Kd.C_alloc ?_ _) | (with_reducible refine Kd.C_drewN ?_ _) | (with_reducible refine Kd.C_drew ?_))); (case side4 => exact (Kd.R_reads' HO347.out).2.1); (case side5 => exact far_slice (IsS95.own_ne HI329.out HO347.out (by decide))); rintro e w31 ⟨rfl, hi, hb, hk⟩; refine ⟨_, rfl, ?_⟩; replace HO337 := Aside0.mk (Kd.R_mono (Kd.R_keep (IsS95.apart (show IsS95 w _ g329 t326 t338 t339 from by repeat (first | (with_reducible first | exact HI329.out | apply IsS95.alloc | apply IsS95.drewN | apply IsS95.drew | apply IsS95.set_1 | apply IsS95.set_2) | exact HI329.out)) (by (with_reducible repeat (first | apply Kd.R_alloc | apply Kd.R_drewN | apply Kd.R_drew)); exact HO337.out) (by decide)) hk (fun _ h => h.2)) (fun _ h => h.1)); replace HO347 := Aside0.mk (Kd.R_mono (Kd.R_keep (IsS95.apart (show IsS95 w _ g329 t326 t338 t339 from by repeat (first | (with_reducible first | exact HI329.out | apply IsS95.alloc | apply IsS95.drewN | apply IsS95.drew | apply IsS95.set_1 | apply IsS95.set_2) | exact HI329.out)) (by (with_reducible repeat (first | apply Kd.R_alloc | apply Kd.R_drewN | apply Kd.R_drew)); exact HO347.out) (by decide)) hk (fun _ h => h.2)) (fun _ h => h.1)); replace HB := Aside0.mk (hb); replace HI329 := Aside0.mk (hi); (try clear hb); (try clear hb2); (try clear hk); (try clear hi)))
    go_ret
    exact ⟨by first | rfl | (simp [errW_none, errW_some] <;> rfl) | (simp [*, errW_none, errW_some] <;> rfl), by repeat (first | (with_reducible first | exact HB.out | apply below_alloc | apply pw_below_drewN | apply below_drew1 | refine below_set ?_ (IsS95.ge HI329.out)) | exact HB.out)⟩
   ·rw [if_neg c21] at H
    have c21b0 : (t330 == 2) = false := beq_eq_false_iff_ne.mpr c21
    have c21b1 : (t330 != 2) = true := bne_iff_ne.mpr c21
    obtain rfl := Option.some.inj H
    go_enter Try.func12, Try.ntmps12
    go_wp2_with (first | ((with_reducible refine gate_callee (f := 38) rfl ?_); refine goesL_ (some 8) rfl rfl Try.func38 (by kernel_rfl) rfl #[.slice A0 l0.length c0] rfl (by (try simp only [List.map_toArray, List.map_cons, List.map_nil]); first | done | rfl | (simp only [List.length_drop, List.length_take]; rfl)) ?_; (with_reducible refine (spec_l01New.calls k _ _ l0 t326 t327 t328 w _ ?side1 ?side2 ?side3 A2.out).mono ?_); (case side1 => repeat (first | (with_reducible first | exact HB.out | apply below_alloc | apply pw_below_drewN | apply below_drew1) | exact HB.out)); (case side2 => exact HR0.out); (case side3 => exact HC0.out); rintro e w32 ⟨g329, rfl, hi, hb, hb2⟩; refine ⟨_, rfl, ?_⟩; replace HB := Aside0.mk (hb); replace HI329 := Aside0.mk (hi); (try clear hb); (try clear hb2); (try clear hk); (try clear hi)) | ((with_reducible refine gate_callee (f := 41) rfl ?_); refine goesL_ (some 10) rfl rfl Try.func41 (by kernel_rfl) rfl #[.pointer (some ⟨g329, 0, none⟩), .int .i64 6] rfl (by (try simp only [List.map_toArray, List.map_cons, List.map_nil]); first | done | rfl | (simp only [List.length_drop, List.length_take]; rfl)) ?_; (with_reducible refine (spec_l01Below.calls g329 t326 t327 t328 6 t330 t331 t332 w _ ?side1 ?side2 A3.out).mono ?_); (case side1 => repeat (first | (with_reducible first | exact HI329.out | apply IsS95.alloc | apply IsS95.drewN | apply IsS95.drew | apply IsS95.set_1 | apply IsS95.set_2) | exact HI329.out)); (case side2 => repeat (first | (with_reducible first | exact HB.out | apply below_alloc | apply pw_below_drewN | apply below_drew1 | refine below_set ?_ (IsS95.ge HI329.out)) | exact HB.out)); rintro e w33 ⟨rfl, hi, hb, hk⟩; refine ⟨_, rfl, ?_⟩; replace HB := Aside0.mk (hb); replace HI329 := Aside0.mk (hi); (try clear hb); (try clear hb2); (try clear hk); (try clear hi)) | ((with_reducible refine gate_callee (f := 43) rfl ?_); refine goesL_ (some 13) rfl rfl Try.func43 (by kernel_rfl) rfl #[.pointer (some ⟨g329, 0, none⟩)] rfl (by (try simp only [List.map_toArray, List.map_cons, List.map_nil]); first | done | rfl | (simp only [List.length_drop, List.length_take]; rfl)) ?_; (with_reducible refine (spec_l07Any.calls k g329 t326 t331 t332 t333 t334 t335 t338 t339 w _ ?side1 ?side2 A4.out).mono ?_); (case side1 => repeat (first | (with_reducible first | exact HI329.out | apply IsS95.alloc | apply IsS95.drewN | apply IsS95.drew | apply IsS95.set_1 | apply IsS95.set_2) | exact HI329.out)); (case side2 => repeat (first | (with_reducible first | exact HB.out | apply below_alloc | apply pw_below_drewN | apply below_drew1 | refine below_set ?_ (IsS95.ge HI329.out)) | exact HB.out)); rintro e w34 ⟨v336, rfl, ho0, hi, hb, hk⟩; refine ⟨_, rfl, ?_⟩; replace HO337 := Aside0.mk (Kd.R_lower ho0 (below_size (by repeat (first | (with_reducible first | exact HB.out | apply below_alloc | apply pw_below_drewN | apply below_drew1 | refine below_set ?_ (IsS95.ge HI329.out)) | exact HB.out)))); replace HB := Aside0.mk (hb); replace HI329 := Aside0.mk (hi); (try clear hb); (try clear hb2); (try clear hk); (try clear hi); (try clear ho0); obtain ⟨Ao35, co35, eo35⟩ := Kd.R_slice HO337.out; subst eo35) | ((with_reducible refine gate_callee (f := 42) rfl ?_); refine goesL_ (some 14) rfl rfl Try.func42 (by kernel_rfl) rfl #[.agg #[.int .i64 t333, .string t334, .slice Ao35 t335.length co35]] rfl (by (try simp only [List.map_toArray, List.map_cons, List.map_nil]); first | done | rfl | (simp only [List.length_drop, List.length_take]; rfl)) ?_; (with_reducible refine (spec_ItemText.calls k t333 t334 _ _ t335 t340 t341 _ ?side1 ?side2 A5.out).mono ?_); (case side1 => repeat (first | exact (Kd.R_reads' HO337.out).2.2 | (with_reducible refine Kd.C_alloc ?_ _) | (with_reducible refine Kd.C_drewN ?_ _) | (with_reducible refine Kd.C_drew ?_))); (case side2 => exact (Kd.R_reads' HO337.out).2.1); rintro e w36 ⟨rfl, hb⟩; refine ⟨_, rfl, ?_⟩; have n0_ := Aside0.mk (Kd.R_below (by (with_reducible repeat (first | apply Kd.R_alloc | apply Kd.R_drewN | apply Kd.R_drew)); exact HO337.out) hb); have n1_ := Aside0.mk (IsS95.below (by repeat (first | (with_reducible first | exact HI329.out | apply IsS95.alloc | apply IsS95.drewN | apply IsS95.drew | apply IsS95.set_1 | apply IsS95.set_2) | exact HI329.out)) hb); have n2_ := Aside0.mk (below_step (by repeat (first | (with_reducible first | exact HB.out | apply below_alloc | apply pw_below_drewN | apply below_drew1 | refine below_set ?_ (IsS95.ge HI329.out)) | exact HB.out)) hb); clear HO337; clear HI329; clear HB; have HO337 := n0_; have HI329 := n1_; have HB := n2_; clear n0_ n1_ n2_; (try clear hb); (try clear hb2); (try clear hk); (try clear hi)))
    go_ret
    exact ⟨by first | rfl | (simp [errW_none, errW_some] <;> rfl) | (simp [*, errW_none, errW_some] <;> rfl), by repeat (first | (with_reducible first | exact HB.out | apply below_alloc | apply pw_below_drewN | apply below_drew1 | refine below_set ?_ (IsS95.ge HI329.out)) | exact HB.out)⟩

end Go.Proofs.Ytknalcnbkbkjdaa.GFnItems
