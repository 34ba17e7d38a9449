-- Written by a program of this session.
import Derived.Test.YtknalcnbkbkjdaaVGAFnExactBodyItem
import Derived.Outline
import Derived.Deep.DeepMust
namespace Go.Proofs.Ytknalcnbkbkjdaa.GAFnExactBodyItem
open Go.RowKit Go.Proofs.YtknalcnbkbkjdaaW.PrintWords Go.Proofs.YtknalcnbkbkjdaaW.PrintLast Go.Proofs.YtknalcnbkbkjdaaW.PrintMore Go.Proofs.Ytknalcnbkbkjdaa.GFnExactBodyItem
attribute [local go_sem] max2_int min2_int max_two min_two max_three min_three max_four min_four
set_option linter.unusedVariables false
set_option linter.unusedSimpArgs false
/-! ### laws_markItemS: function 26, by hand: a tree whose rows lie apart is marked in its own blocks -/
mutual
def laws_markItemS.l0 : Nat → List (S26) → Int → Int → Option (Int × List (S26))
  | 0, _, _, _ => none
  | k + 1, x0, x1, x5 => if x5 < (x0.length : Int) then (if 0 ≤ x5 then ((laws_markText.f k (wrap64 (x1 + 1))).bind fun t => ((laws_markItemS.f k ((rd_T26 x0 x5).f2) (wrap64 ((wrap64 (x1 + 1)) + 1))).bind fun q => laws_markItemS.l0 k (x0.set (x5 : Int).toNat (⟨x1, t, q.2⟩ : S26)) q.1 (wrap64 (x5 + 1)))) else none) else (some (x1, x0))
def laws_markItemS.f : Nat → List (S26) → Int → Option (Int × List (S26))
  | 0, _, _ => none
  | k + 1, l0, a1 => laws_markItemS.l0 k l0 a1 0
end
set_option maxHeartbeats 8000000 in
set_option maxRecDepth 100000 in
theorem laws_markItemS.calls (k : Nat) : ∀ (P : Nat → Prop) (v : Value) (l0 : List (S26)) (a1 r1 : Int) (r2 : List (S26)) (w0 w : World) (hB : Below w0.heap.size w0 w) (hS : Kd.S k26 26 w w0.heap.size P v l0) (h : laws_markItemS.f k l0 a1 = some (r1, r2)),
    Calls Try.prog 26 #[v, .int .i64 a1] w fun e w' => e = .returned (.int .i64 r1) ∧ Kd.S k26 26 w' w0.heap.size P v r2 ∧ Below w0.heap.size w0 w' ∧ Kept w w' P := by
  induction k using Nat.strongRecOn with
  | _ k ih =>
  intro P v l0 a1 r1 r2 w0 w hB hS h
  cases k with
  | zero => exact absurd h (by simp [laws_markItemS.f])
  | succ k =>
  simp only [laws_markItemS.f] at h
  have hu26 := Try.underlying26
  have HS := Aside0.mk hS
  have HK := Aside0.mk (Kept.refl w P)
  have HB := Aside0.mk hB
  have H' := Aside0.mk h
  clear hB hS h
  go_enter Try.func26, Try.ntmps26
  go_wp2
  go_loopg [1, 5] k (fun kq v1 v5 w' => ∃ (x0_1 : List (S26)) (x1_1 : Int) (x5_1 : Int), v1 = .int .i64 x1_1 ∧ v5 = .int .i64 x5_1 ∧ Aside0 (laws_markItemS.l0 kq x0_1 x1_1 x5_1 = some (r1, r2)) ∧ Aside0 (kq ≤ k) ∧ Aside0 (Kd.S k26 26 w' w0.heap.size P v x0_1) ∧ Aside0 (Kept w w' P) ∧ Aside0 (Below w0.heap.size w0 w'))
  case atStart => exact ⟨l0, a1, 0, rfl, rfl, H', ⟨Nat.le_refl _⟩, HS, HK, HB⟩
  case round =>
    clear H' HS
    obtain ⟨x0, x1, x5, rfl, rfl, HA, HK1, HS, HK, HB⟩ := hrel
    cases gk with
    | zero => exact absurd HA.out (by simp [laws_markItemS.l0])
    | succ k1 =>
      have H := HA.out
      clear HA
      simp only [laws_markItemS.l0] at H
      by_cases c3 : x5 < (x0.length : Int)
      · rw [if_pos c3] at H
        have c3b0 : decide (x5 < (x0.length : Int)) = true := decide_eq_true c3
        by_cases c5 : 0 ≤ x5
        · rw [if_pos c5] at H
          have c5b0 : decide (0 ≤ x5) = true := decide_eq_true c5
          obtain ⟨t, A40, H⟩ := Option.bind_eq_some_iff.mp H
          obtain ⟨⟨q1, q2⟩, A50, H⟩ := Option.bind_eq_some_iff.mp H
          have H' := Aside0.mk (show laws_markItemS.l0 k1 (x0.set (x5 : Int).toNat (⟨x1, t, q2⟩ : S26)) q1 (wrap64 (x5 + 1)) = some (r1, r2) from H)
          have A4 := Aside0.mk A40
          have A5 := Aside0.mk A50
          clear H A40 A50
          obtain ⟨g, cap, hv, hg0, hg1, cl, HG⟩ := Kd.S_form HS.out (by omega)
          subst hv
          obtain ⟨oki, cs, hcl, hM, hcc, hoki, hH⟩ := Kd.S_lend HS.out z26 x5 c5 c3
          obtain ⟨v2, rfl, hI⟩ := k26_openM hM
          have hPg : P g := (Kd.S_R HS.out).1 g rfl
          have hPo : ∀ k_, oki k_ → P k_ := fun k_ hk => (hoki k_ hk).1
          have hfr := fun j => (Kd.H_at hH c5 c3).2 j
          have hx0 : wr.cell? ⟨g, (x5 : Int).toNat * 3, none⟩ = some (.int .i64 ((rd_T26 x0 x5).f0)) := hcc 0 _ rfl
          have hf0 : wr.frozen? ⟨g, (x5 : Int).toNat * 3, none⟩ = false := hfr 0
          obtain ⟨h1H, h1g⟩ := Kd.H_seg hH c5 c3 (seg := [.int .i64 x1]) (j := 0) (show 1 ≤ 3 by decide) (by intro q hq; rw [List.mem_singleton.1 hq]; rfl)
          have h1I := Kd.S_grown hI h1g (fun k_ hk e => (hoki k_ hk).2 (by injection e))
          have HH1 := Aside0.mk h1H
          have HI1 := Aside0.mk h1I
          have HK1_ := Aside0.mk (Kept.of_grown h1g HK.out (fun k_ e => .inl (by injection e with e; exact e ▸ hPg)))
          have HB1 := Aside0.mk (below_set HB.out hg0 : Below w0.heap.size w0 (wr.setCell ⟨g, (x5 : Int).toNat * 3, none⟩ (.int .i64 x1)))
          have HG0 := Aside0.mk hg0
          have HPG := Aside0.mk hPg
          have HPO := Aside0.mk hPo
          have HOKI := Aside0.mk hoki
          have HC3 := Aside0.mk c3
          have HC5 := Aside0.mk c5
          clear HS HK HB hcl hM hcc hH hI hfr h1H h1g h1I hg0 hg1 HG hPg hPo hoki
          replace c5 := eq_true c5
          replace c3 := eq_true c3
          go_upto_region 5 with ((with_reducible refine gate_store (t := 3) (p := 16) rfl ?_); refine store_event (t := 3) (p := 16) (v := ?vo) (w1 := wr.setCell ⟨g, (x5 : Int).toNat * 3, none⟩ (.int .i64 x1)) ?hg ?ho ?hn ?hr ?_; (case ho => rfl); (case hg => rfl); (case hn => rfl); (case hr => first | (go_simp; done) | (go_simp; rfl)); intro w1 hw; have HH : Aside0 (Kd.H k26 26 w1 w0.heap.size P (.slice (some ⟨g, 0, none⟩) x0.length cap) x0 x5 oki [.int .i64 x1, .string (rd_T26 x0 x5).f1, v2]) := ⟨by rw [hw]; exact HH1.out⟩; have HI : Aside0 (Kd.S k26 26 w1 w0.heap.size oki v2 (rd_T26 x0 x5).f2) := ⟨by rw [hw]; exact HI1.out⟩; have HK : Aside0 (Kept w w1 P) := ⟨by rw [hw]; exact HK1_.out⟩; have HB : Aside0 (Below w0.heap.size w0 w1) := ⟨by rw [hw]; exact HB1.out⟩; clear HH1 HI1 HK1_ HB1 hx0 hf0 hw)
          go_upto_region 6 with fail
          go_upto_region 7 with (first | ((with_reducible refine gate_callee (f := 55) rfl ?_); refine goesL_ (some 22) rfl rfl Try.func55 (by kernel_rfl) rfl #[.int .i64 (wrap64 (x1 + 1))] rfl (by (try simp only [List.map_toArray, List.map_cons, List.map_nil]); first | done | rfl) ?_; (with_reducible refine (laws_markText.calls k1 (wrap64 (x1 + 1)) t _ A4.out).mono ?_); rintro e w2 ⟨rfl, hb⟩; refine ⟨_, rfl, ?_⟩; replace HH := Aside0.mk (Kd.H_below HH.out hb); replace HI := Aside0.mk (Kd.S_below HI.out hb); replace HK := Aside0.mk (HK.out.below hb); replace HB := Aside0.mk (below_step HB.out hb); clear hb; have hx1 := (Kd.H_at HH.out HC5.out HC3.out).1 1 _ rfl; have hf1 := (Kd.H_at HH.out HC5.out HC3.out).2 1; (try simp only [show (k26).sz = 3 from rfl] at hx1 hf1); obtain ⟨h1H, h1g⟩ := Kd.H_seg HH.out HC5.out HC3.out (seg := [.string t]) (j := 1) (show 1 + 1 ≤ 3 by decide) (by intro q hq; rw [List.mem_singleton.1 hq]; rfl); have HH1 := Aside0.mk h1H; have HI1 := Aside0.mk (Kd.S_grown HI.out h1g (fun k_ hk e => (HOKI.out k_ hk).2 (by injection e))); have HK1_ := Aside0.mk (Kept.of_grown h1g HK.out (fun k_ e => .inl (by injection e with e; exact e ▸ HPG.out))); clear h1H h1g) | ((with_reducible refine gate_store (t := 9) (p := 24) rfl ?_); refine store_event (t := 9) (p := 24) (v := ?vo2) (w1 := w2.setCell ⟨g, (x5 : Int).toNat * 3 + 1, none⟩ (.string t)) ?hg ?ho ?hn ?hr ?_; (case ho => rfl); (case hg => rfl); (case hn => rfl); (case hr => first | (go_simp; done) | (go_simp; rfl)); intro w3 hw; replace HH : Aside0 (Kd.H k26 26 w3 w0.heap.size P (.slice (some ⟨g, 0, none⟩) x0.length cap) x0 x5 oki [.int .i64 x1, .string t, v2]) := ⟨by rw [hw]; exact HH1.out⟩; replace HI : Aside0 (Kd.S k26 26 w3 w0.heap.size oki v2 (rd_T26 x0 x5).f2) := ⟨by rw [hw]; exact HI1.out⟩; replace HK : Aside0 (Kept w w3 P) := ⟨by rw [hw]; exact HK1_.out⟩; replace HB : Aside0 (Below w0.heap.size w0 w3) := ⟨by rw [hw]; exact below_set HB.out HG0.out⟩; clear HH1 HI1 HK1_ hx1 hf1 hw))
          have hx2 := (Kd.H_at HH.out HC5.out HC3.out).1 2 _ rfl
          (try simp only [show (k26).sz = 3 from rfl] at hx2)
          obtain ⟨Ao, co, eo⟩ := Kd.S_slice HI.out
          subst eo
          go_wp2_with ((with_reducible refine gate_callee (f := 26) rfl ?_); refine goesL_ (some 33) rfl rfl Try.func26 (by kernel_rfl) rfl #[.slice Ao ((rd_T26 x0 x5).f2).length co, .int .i64 (wrap64 (wrap64 (x1 + 1) + 1))] rfl (by (try simp only [List.map_toArray, List.map_cons, List.map_nil]); first | done | rfl) ?_; (with_reducible refine (ih k1 (by have := HK1.out; omega) oki _ _ _ q1 q2 w0 _ HB.out HI.out A5.out).mono ?_); rintro e w4 ⟨rfl, hi, hb, hk⟩; refine ⟨_, rfl, ?_⟩; replace HH := Aside0.mk (Kd.H_kept HH.out hk (fun _ _ hn => hn)); replace HI := Aside0.mk hi; replace HB := Aside0.mk hb; replace HK := Aside0.mk (HK.out.then_ hk (fun k_ h_ => .inl (HPO.out k_ h_))); clear hi hb hk hx2)
          go_roundg k1
          case measure => have := HK1.out; omega
          case rel => exact ⟨_, q1, (wrap64 (x5 + 1)), rfl, rfl, H', ⟨by have := HK1.out; omega⟩, ⟨Kd.H_back HH.out (k26_mkM _ _ _ (⟨x1, t, q2⟩ : S26) HI.out) (fun _ h_ => h_)⟩, HK, HB⟩
        · rw [if_neg c5] at H
          cases H
      · rw [if_neg c3] at H
        have c3b0 : decide (x5 < (x0.length : Int)) = false := decide_eq_false c3
        clear c3
        simp only [Option.some.injEq, Prod.mk.injEq] at H
        obtain ⟨rfl, rfl⟩ := H
        obtain ⟨Ao, co, eo⟩ := Kd.S_slice HS.out
        subst eo
        go_wp2
        go_ret
        exact ⟨rfl, HS.out, HB.out, HK.out⟩
/-! ### laws_markItem: function 27 -/
def laws_markItem.f (k : Nat) (_a0_0 : Int) (_a0_1 : ByteArray) (l0_2 : List (S26)) (a1 : Int) : Option (Int × List (S26)) := laws_markItemS.f k l0_2 a1
set_option maxHeartbeats 8000000 in
set_option maxRecDepth 100000 in
theorem laws_markItem.calls (k : Nat) (P : Nat → Prop) (v : Value) (a0_0 : Int) (a0_1 : ByteArray) (l0 : List (S26)) (a1 r1 : Int) (r2 : List (S26)) (w0 w : World) (hB : Below w0.heap.size w0 w) (hS : Kd.S k26 26 w w0.heap.size P v l0) (h : laws_markItem.f k a0_0 a0_1 l0 a1 = some (r1, r2)) :
    Calls Try.prog 27 #[.agg #[.int .i64 a0_0, .string a0_1, v], .int .i64 a1] w fun e w' => e = .returned (.int .i64 r1) ∧ Kd.S k26 26 w' w0.heap.size P v r2 ∧ Below w0.heap.size w0 w' ∧ Kept w w' P := by
  have hu26 := Try.underlying26
  obtain ⟨Ao, co, eo⟩ := Kd.S_slice hS
  subst eo
  have HS := Aside0.mk hS
  have HB := Aside0.mk hB
  have A2 := Aside0.mk (show laws_markItemS.f k l0 a1 = some (r1, r2) from h)
  have HK := Aside0.mk (Kept.refl w P)
  clear hS hB h
  go_enter Try.func27, Try.ntmps27
  go_wp2_with (first | ((with_reducible refine gate_dst (N := 2) rfl ?_); refine box_event ?hg (N := 2) ?hd (cs := #[.int .i64 a0_0, .string a0_1, .slice Ao l0.length co]) (t := 26) ?hr ?_; (case hd => rfl); (case hg => rfl); (case hr => first | (go_simp; done) | (go_simp; rfl)); intro gb hg w3 hbox hb; replace HS := Aside0.mk (Kd.S_below HS.out hb); replace HK := Aside0.mk (HK.out.below hb); replace HB := Aside0.mk (below_step HB.out hb); have hcz := (blk_cell hbox 2).trans rfl; clear hb hg) | ((with_reducible refine gate_callee (f := 26) rfl ?_); refine goesL_ (some 8) rfl rfl Try.func26 (by kernel_rfl) rfl #[.slice Ao l0.length co, .int .i64 a1] rfl (by (try simp only [List.map_toArray, List.map_cons, List.map_nil]); first | done | rfl) ?_; (with_reducible refine (laws_markItemS.calls k P _ _ _ r1 r2 w0 _ HB.out HS.out A2.out).mono ?_); rintro e w4 ⟨rfl, hi, hb, hk⟩; refine ⟨_, rfl, ?_⟩; replace HK := Aside0.mk (HK.out.then_ hk (fun _ h_ => .inl h_)); replace HS := Aside0.mk hi; replace HB := Aside0.mk hb; clear hi hb hk))
  go_ret
  exact ⟨rfl, HS.out, HB.out, HK.out⟩
end Go.Proofs.Ytknalcnbkbkjdaa.GAFnExactBodyItem
