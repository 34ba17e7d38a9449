-- Written by a program of this session (sha.sh): no printed text.
import Derived.Test.YtekplhhkbeemnaaDoorProg
import Derived.Test.YtekplhhkbeemnaaDoorWWords
import Derived.Test.YtekplhhkbeemnaaDoorWLast
import Derived.Test.YtekplhhkbeemnaaDoorWTab
import Derived.Test.YtekplhhkbeemnaaDoorWFour
import Derived.Test.YtekplhhkbeemnaaDoorWQPut
import Derived.Test.YtekplhhkbeemnaaDoorWApart
import Derived.Test.YtekplhhkbeemnaaDoorWArr
import Derived.Test.YtekplhhkbeemnaaDoorWZeros
import Derived.Test.YtekplhhkbeemnaaDoorWFoot
import Derived.Test.YtekplhhkbeemnaaDoorWKept
import Derived.Test.YtekplhhkbeemnaaDoorWShare
import Derived.Test.YtekplhhkbeemnaaDoorWN
import Derived.Test.YtekplhhkbeemnaaDoorWFootNe
import Derived.Test.YtekplhhkbeemnaaDoorWAt
import Derived.Test.YtekplhhkbeemnaaDoorWEqStruct
import Derived.Test.YtekplhhkbeemnaaDoorWRepsOne
import Derived.Test.YtekplhhkbeemnaaDoorWInv
import Derived.Test.YtekplhhkbeemnaaDoorWInvWords
import Derived.Test.YtekplhhkbeemnaaDoorWGuard
import Derived.Test.YtekplhhkbeemnaaDoorWNEv
import Derived.Test.YtekplhhkbeemnaaDoorWMore
import Derived.Below
import Derived.Deep.Draws
import Derived.Deep.AppendLies
import Derived.Tactics
import Derived.Lib.ConvBytes
import Derived.Laws.Slices
import Derived.WalkKit
import Derived.StillTailTactics
import Derived.Laws.CopyOwn
import Derived.KernelRfl
import Derived.RowKit3
import Derived.Deep.LoopGhost
import Derived.Deep.QuietTactic
import Derived.BigQuiet
import Derived.WideLaws
import Derived.Deep.Onto
import Derived.Deep.WholeRow
import Derived.Laws.Rows
import Derived.Laws.IdiomStrings
import Derived.Laws.BitsLemmas
import Derived.Laws.NewBlocks
import Derived.WalkLawsBesides
import Derived.Test.YtekplhhkbeemnaaDoorShaSb
set_option linter.unusedVariables false
set_option linter.unusedSimpArgs false
namespace Go.Proofs.YtekplhhkbeemnaaDoor.Sha
open Go.RowKit Go.Proofs.YtekplhhkbeemnaaDoorW.PrintWords Go.Proofs.YtekplhhkbeemnaaDoorW.PrintLast
open Go.Proofs.YtekplhhkbeemnaaDoorW
theorem info3s : (Tryd.prog.info? 3).map (fun i => (i.zero, i.size, i.bytes)) = some (some (.int .i64 0), 1, 8) := by kernel_rfl
set_option maxHeartbeats 8000000 in
set_option maxRecDepth 1000000 in
theorem specBlock_walk (A0 : Option Addr) (c0 : Nat) (l0 : List Int) (x1 : ByteArray) (w : World) (hr0 : (Kd.int .i64).C w A0 l0.length l0) (hc0 : l0.length ≤ c0) (hbd : l0.length * 8 ≤ 140737488355328) :
    Calls Tryd.prog 11 #[.slice A0 l0.length c0, .string x1] w fun e w' => ∃ v : Value, e = .returned v ∧ (Kd.int .i64).R 3 w' w.heap.size (fun _ => True) v (shaB l0 x1) ∧ Below w.heap.size w w' := by
  have HR0 := Aside0.mk hr0
  have HBD := Aside0.mk hbd
  obtain ⟨RV, hRV⟩ : ∃ l, shaB l0 x1 = l := ⟨_, rfl⟩
  rw [hRV]
  have HRV := Aside0.mk hRV
  clear hr0 hbd hRV
  go_enter Tryd.func11, Tryd.ntmps11
  go_upto_region 2 with (first
    | ((with_reducible refine gate_dst (N := 9) rfl ?_); refine Kd.R_lit (Kd.int .i64) _ 3 ?hg (N := 9) ?hd (xs := ([] : List Int)) (inner := []) (ok := fun _ => True) (okp := fun _ => True) ?hr ?hp (fun _ hk => hk) trivial (Below.refl _ _) (Nat.le_refl _) (by simp) ?_; (case hd => rfl); (case hg => rfl); (case hr => first | (go_simp; done) | (go_simp; rfl)); (case hp => exact (Reps.none _ _)); intro v1 w1 ho1 hb1 hg1 hn1; clear hg1 hn1; have HO1 := Aside0.mk ho1; have HB1 := Aside0.mk hb1; clear ho1 hb1)
    | ((with_reducible refine gate_dst (N := 11) rfl ?_); refine Kd.R_append_row (w0 := w) (Value.int .i64) 0 w.heap.size rfl (.tmp 9) (.tmp 10) 22 3 (.int .i64 0) 8 rfl Tryd.underlying22 info3s rfl (by decide) v1 [] l0 A0 l0.length c0 (fun _ => True) rfl rfl (fun _ _ => trivial) HO1.out (Kd.C_below HR0.out HB1.out) HB1.out HB1.out.size (by have := HBD.out; simpa using this) ?_; intro v2 w2 ho2 hb2 hg2 hn2; clear hg2 hn2; have HO2 := Aside0.mk ho2; have HB2 := Aside0.mk hb2; clear ho2 hb2))
  have ho := HO2.out
  rw [List.nil_append] at ho
  clear HO2 HO1 HB1
  have HO2 := Aside0.mk ho
  clear ho
  by_cases h8 : l0.length = 8
  · have t8 : (((l0.length : Nat) : Int) != 8) = false := by simp; omega
    by_cases h64 : x1.size = 64
    · have t64 : (((x1.size : Nat) : Int) != 64) = false := by simp; omega
      have hal : ∀ w_ : World, (Instr.alloc 42 true (.tuple #[])).run Tryd.prog w_ = .ok (.pointer (some ⟨w_.heap.size, 0, none⟩)) (w_.alloc (.cells (u32c (List.replicate 8 0)) 42)) := fun w_ => by kernel_rfl
      have hbl : ∀ w_ : World, (Instr.build 42 #[]).run Tryd.prog w_ = .ok (.agg (u32c (List.replicate 8 0))) w_ := fun w_ => run_build w_ 42 #[] _ (by kernel_rfl)
      have hst : (Instr.storeAt 42 (.pointer (some ⟨w2.heap.size, 0, none⟩)) (.agg (u32c (List.replicate 8 0)))).run Tryd.prog (w2.alloc (.cells (u32c (List.replicate 8 0)) 42)) = .ok () (w2.alloc (.cells (u32c (List.replicate 8 0)) 42)) :=
        run_storeAt_new w2 42 _ _ (by kernel_rfl) rfl (by kernel_rfl)
      obtain ⟨bh, hbh⟩ : ∃ b, w2.heap.size = b := ⟨_, rfl⟩
      have hS := SB.start HO2.out HB2.out (List.replicate 8 0)
      obtain ⟨Z, hZ⟩ : ∃ Z, u32c (List.replicate 8 0) = Z := ⟨_, rfl⟩
      rw [hZ] at hal hbl hst hS
      rw [hbh] at hS
      obtain ⟨ad, rfl, hx0⟩ := Kd.at_int HR0.out 0 (by omega) (by omega)
      clear hx0
      have HAL := Aside0.mk hal
      have HBL := Aside0.mk hbl
      have HST := Aside0.mk hst
      have HS := Aside0.mk hS
      have HBH := Aside0.mk hbh
      have H8 := Aside0.mk h8
      have H64 := Aside0.mk h64
      clear hal hbl hst hS hbh h8 h64 hZ
      go_upto_region 4 with (fail)
      clear t8 t64
      go_upto_region 5 with (first | (refine wpList_build_f _ rfl 42 _ rfl HBL.out ?_) | (refine wpList_alloc_f _ _ rfl 42 _ rfl (HAL.out _) ?_) | (refine wpList_store_f _ _ rfl 42 _ _ _ _ rfl rfl rfl rfl HST.out ?_))
      simp only [Act.put, List.setIfInBounds_toArray, List.set_cons_zero, List.set_cons_succ]
      rw [HBH.out]
      generalize w2.alloc (.cells Z 42) = W3 at HS ⊢
      clear HAL HBL HST HBH HB2 HO2
      go_wp2
      go_loopg [7] 8 (fun g v wr => Aside0 (∃ m : Nat, m ≤ 8 ∧ g = 8 - m ∧ v = .int .i64 m ∧ (∀ j, j < m → In32 (l0.getD j 0)) ∧ SB w wr bh v2 l0 (mix l0 (List.replicate 8 0) m)))
      case atStart => exact ⟨0, by omega, rfl, rfl, fun j hj => absurd hj (by omega), by rw [mix_zero]; exact HS.out⟩
      case round =>
        obtain ⟨m, hm, hg, rfl, hin, hS⟩ := hrel.out
        clear hrel HS
        have HG := Aside0.mk hg
        have HIN := Aside0.mk hin
        have HS := Aside0.mk hS
        clear hg hin hS
        by_cases hlt : (m : Int) < 8
        · have hd := decide_eq_true hlt
          have hml : m < 8 := by omega
          obtain ⟨x, hxx⟩ : ∃ x, l0.getD m 0 = x := ⟨_, rfl⟩
          obtain ⟨ad', e', hx⟩ := Kd.at_int HR0.out (m : Int) (by omega) (by have := H8.out; omega)
          obtain rfl : ad = ad' := Option.some.inj e'
          have hx : wr.cell? (ad.add m) = some (.int .i64 x) := by
            have h := (HS.out.kb.cell (World.block_lt_of_cell? w _ hx)).trans hx
            rw [show rd l0 (m : Int) = x from hxx] at h
            exact h
          have p0 : (0 ≤ (m : Int)) = True := eq_true (by omega)
          have q0 : ((m : Int) < (l0.length : Int)) = True := eq_true (by have := H8.out; omega)
          have HML := Aside0.mk hml
          have HXX := Aside0.mk hxx
          clear hxx hlt hm hml e'
          by_cases hr : 0 ≤ x ∧ x ≤ 4294967295
          · have r0 := hr.1
            have r1 := hr.2
            clear hr
            go_upto_region 8 with (fail)
            go_upto_region 10 with (go_at_call 33; refine (l01In_yes x _ r0 r1).mono ?_; rintro e w' ⟨rfl, rfl⟩)
            have hc := HS.out.hb.cell m (by rw [mix_len _ _ _ (by rw [H8.out]; rfl) (by have := H8.out; have := HML.out; omega)]; have := H8.out; have := HML.out; omega)
            have hf := HS.out.hb.free m
            have q8 : ((m : Int) < 8) = True := eq_true (by have := HML.out; omega)
            go_upto_region 7 with (fail)
            have hS := HS.out.setH m x
            rw [← HXX.out, mix_set _ _ _ (by rw [H8.out]; rfl) (by have := H8.out; have := HML.out; omega), HXX.out] at hS
            have HS1 := Aside0.mk hS
            generalize wr.setCell ⟨bh, m, none⟩ (.int .u32 x) = w5 at HS1 ⊢
            clear hS hc hf hx p0 q0 q8 HS hd
            have e8 : IntKind.i64.wrap ((m : Int) + 1) = ((m + 1 : Nat) : Int) := by have := HML.out; rw [IntKind.wrap_i64]; omega
            have R0 : In32 x := ⟨r0, r1⟩
            go_wp2
            go_roundg (8 - (m + 1))
            case measure => have := HML.out; have := HG.out; omega
            case rel =>
              refine ⟨⟨m + 1, by have := HML.out; omega, rfl, rfl, fun j hj => ?_, HS1.out⟩⟩
              rcases Nat.lt_or_ge j m with h | h
              · exact HIN.out j h
              · obtain rfl : j = m := by omega
                rw [HXX.out]
                exact R0
          · skip
            have hr' : x < 0 ∨ 4294967295 < x := by omega
            have e : shaB l0 x1 = l0 := if_neg (fun h => hr (by have := inR_get h.2.2 m (by have := H8.out; have := HML.out; omega); rw [HXX.out] at this; exact this))
            have E := Aside0.mk e
            clear e hr
            go_upto_region 8 with (fail)
            go_wp2_with (go_at_call 33; refine (l01In_no x _ hr').mono ?_; rintro e w' ⟨rfl, rfl⟩)
            go_ret
            exact ⟨v2, rfl, by rw [← HRV.out, E.out]; exact HS.out.done.1, HS.out.done.2⟩
        · skip
          have hm8 : m = 8 := by omega
          subst hm8
          have hall : inR l0 = true := inR_of (fun j hj => HIN.out j (by have := H8.out; omega))
          have he8 : Eight l0 := eight_of H8.out (fun j hj => HIN.out j hj)
          have hres : shaB l0 x1 = blkV l0 x1 KEYS := if_pos ⟨H8.out, H64.out, hall⟩
          have hS := HS.out
          rw [mix_all _ _ _ (by rw [H8.out]; rfl) (by rw [H8.out])] at hS
          have HRE := Aside0.mk (HRV.out.symm.trans hres)
          have HE8 := Aside0.mk he8
          clear hall he8 hres hlt hm HS HG HIN
          have HKC := Aside0.mk (fun w_ => keys_walk w_)
          have HBC := Aside0.mk (fun w_ => l03_walk l0 KEYS x1 w_ H8.out rfl H64.out HE8.out)
          rw [← HRE.out] at HBC
          have HRE8 := Aside0.mk (HRE.out ▸ blkV_eight HE8.out x1 KEYS : Eight RV)
          have HI42 := Aside0.mk (info42 H8.out)
          have HSD := Aside0.mk hS.drew
          clear hS
          go_upto_region 11 with (fail)
          refine wp_region_any (by kernel_rfl) ?_
          change wpAny _ _ _ _ _ _ _ (World.drew _)
          generalize wr.drew = w6 at HSD ⊢
          refine wpAny_take (i := 1) (v := .string x1) rfl (by kernel_rfl) (by kernel_rfl) (by kernel_rfl) (fun _ _ _ h => h) (Or.inl ⟨rfl, fun _ => rfl⟩) ?_
          change wpAny _ _ _ _ _ _ (Act.put _ (some 41) (.string x1)) _
          simp only [Act.put, List.setIfInBounds_toArray, List.set_cons_zero, List.set_cons_succ]
          refine wpAny_ready (rs := [0, 2]) (by kernel_rfl) (by simp) ?_
          refine AllReady.cons rfl (fun K hK => ?_) (AllReady.cons rfl (fun K hK => ?_) AllReady.nil)
          · refine load_step (some 40) 42 _ rfl rfl rfl bh rfl 42 (u32c l0) (0, 0) _ HSD.out.hb.heap Tryd.underlying42 rfl HI42.out ?_
            refine hK _ _ ?_
            simp only [Act.put, List.setIfInBounds_toArray, List.set_cons_zero, List.set_cons_succ]
            clear hK K
            refine wpAny_ready (rs := [2]) (by kernel_rfl) (by simp) (AllReady.cons rfl (fun K hK => ?_) AllReady.nil)
            refine goes_ (N := some 42) Tryd.func35 (by kernel_rfl) rfl #[] rfl rfl rfl (by (try simp only [List.map_toArray, List.map_cons, List.map_nil]); first | done | rfl) ?_
            refine (HKC.out _).mono ?_
            rintro e w7 ⟨rfl, hb7⟩
            refine ⟨_, rfl, ?_⟩
            have S7 := Aside0.mk (HSD.out.below hb7)
            refine hK _ _ ?_
            simp only [Act.put, List.setIfInBounds_toArray, List.set_cons_zero, List.set_cons_succ]
            clear hK K hb7
            refine wpAny_ready (rs := [3]) (by kernel_rfl) (by simp) (AllReady.cons rfl (fun K hK => ?_) AllReady.nil)
            refine goes_ (N := some 43) Tryd.func34 (by kernel_rfl) rfl #[.agg (u32c l0), .string x1, .agg (u32c KEYS)] rfl rfl rfl (by (try simp only [List.map_toArray, List.map_cons, List.map_nil]); first | done | rfl) ?_
            refine (HBC.out _).mono ?_
            rintro e w8 ⟨rfl, hb8⟩
            refine ⟨_, rfl, ?_⟩
            have S8 := Aside0.mk (S7.out.below hb8)
            refine hK _ _ ?_
            simp only [Act.put, List.setIfInBounds_toArray, List.set_cons_zero, List.set_cons_succ]
            clear hK K hb8 S7
            refine wpAny_ready (rs := [4]) (by kernel_rfl) (by simp) (AllReady.cons rfl (fun K hK => ?_) AllReady.nil)
            refine store_step 42 _ _ (.pointer (some ⟨bh, 0, none⟩)) (.agg (u32c RV)) rfl rfl rfl rfl rfl (S8.out.store RV H8.out HRE8.out.len) ?_
            have S9 := Aside0.mk (S8.out.setRow RV)
            generalize w8.setRow bh (u32c RV) = w9 at S9 ⊢
            refine hK _ _ ?_
            clear hK K S8
            refine wpAny_done (by kernel_rfl) ?_ _
            obtain ⟨g, cap, rfl⟩ := S9.out.form H8.out
            clear HSD HKC HBC HI42
            go_wp2
            go_loopg [8] 8 (fun q v wr => Aside0 (∃ m : Nat, m ≤ 8 ∧ q = 8 - m ∧ v = .int .i64 m ∧ SB w wr bh (.slice (some ⟨g, 0, none⟩) l0.length cap) (mix RV l0 m) RV))
            case atStart => exact ⟨0, by omega, rfl, rfl, by rw [mix_zero]; exact S9.out⟩
            case round =>
              obtain ⟨m, hm, hg, rfl, hS⟩ := hrel.out
              clear hrel S9
              have HG := Aside0.mk hg
              have HS := Aside0.mk hS
              clear hg hS
              by_cases hlt : (m : Int) < 8
              · have hd := decide_eq_true hlt
                have hml : m < 8 := by omega
                have hlen : RV.length = l0.length := by rw [HRE8.out.len, H8.out]
                have hin := HRE8.out.get m
                obtain ⟨y, hy⟩ : ∃ y, RV.getD m 0 = y := ⟨_, rfl⟩
                have hc := HS.out.hb.cell m (by rw [HRE8.out.len]; exact hml)
                rw [hy] at hc hin
                have ey : IntKind.i64.wrap y = y := by have := hin.1; have := hin.2; rw [IntKind.wrap_i64]; omega
                have y0 : 0 ≤ y := hin.1
                have y1 : y ≤ 4294967295 := hin.2
                obtain ⟨ho, hf⟩ := HS.out.ocell m (by rw [mix_len _ _ _ hlen (by rw [HRE8.out.len]; omega), HRE8.out.len]; exact hml)
                have p0 : (0 ≤ (m : Int)) = True := eq_true (by omega)
                have q0 : ((m : Int) < (l0.length : Int)) = True := eq_true (by have := H8.out; omega)
                have q8 : ((m : Int) < 8) = True := eq_true (by omega)
                have HML := Aside0.mk hml
                have HY := Aside0.mk hy
                have HLN := Aside0.mk hlen
                clear hml hy hlen hin hlt hm
                go_upto_region 14 with (fail)
                change Code.wp _ _ _ _ (wr.setCell ⟨g, m, none⟩ (.int .i64 y))
                have hS := HS.out.setO m y
                rw [← HY.out, mix_set _ _ _ HLN.out (by rw [HRE8.out.len]; exact HML.out), HY.out] at hS
                have HS1 := Aside0.mk hS
                generalize wr.setCell ⟨g, m, none⟩ (.int .i64 y) = w5 at HS1 ⊢
                clear hS hc ho hf p0 q0 q8 HS hd ey y0 y1
                have e8 : IntKind.i64.wrap ((m : Int) + 1) = ((m + 1 : Nat) : Int) := by have := HML.out; rw [IntKind.wrap_i64]; omega
                go_wp2
                go_roundg (8 - (m + 1))
                case measure => have := HML.out; have := HG.out; omega
                case rel => exact ⟨⟨m + 1, by have := HML.out; omega, rfl, rfl, HS1.out⟩⟩
              · have hm8 : m = 8 := by omega
                subst hm8
                have hS := HS.out
                rw [mix_all _ _ _ (by rw [HRE8.out.len, H8.out]) HRE8.out.len.symm] at hS
                have HS1 := Aside0.mk hS
                clear hS HS hlt hm HG
                go_wp2
                go_ret
                exact ⟨_, rfl, HS1.out.done.1, HS1.out.done.2⟩
          · refine goes_ (N := some 42) Tryd.func35 (by kernel_rfl) rfl #[] rfl rfl rfl (by (try simp only [List.map_toArray, List.map_cons, List.map_nil]); first | done | rfl) ?_
            refine (HKC.out _).mono ?_
            rintro e w7 ⟨rfl, hb7⟩
            refine ⟨_, rfl, ?_⟩
            have S7 := Aside0.mk (HSD.out.below hb7)
            refine hK _ _ ?_
            simp only [Act.put, List.setIfInBounds_toArray, List.set_cons_zero, List.set_cons_succ]
            clear hK K hb7
            refine wpAny_ready (rs := [0]) (by kernel_rfl) (by simp) (AllReady.cons rfl (fun K hK => ?_) AllReady.nil)
            refine load_step (some 40) 42 _ rfl rfl rfl bh rfl 42 (u32c l0) (0, 0) _ S7.out.hb.heap Tryd.underlying42 rfl HI42.out ?_
            refine hK _ _ ?_
            simp only [Act.put, List.setIfInBounds_toArray, List.set_cons_zero, List.set_cons_succ]
            clear hK K
            refine wpAny_ready (rs := [3]) (by kernel_rfl) (by simp) (AllReady.cons rfl (fun K hK => ?_) AllReady.nil)
            refine goes_ (N := some 43) Tryd.func34 (by kernel_rfl) rfl #[.agg (u32c l0), .string x1, .agg (u32c KEYS)] rfl rfl rfl (by (try simp only [List.map_toArray, List.map_cons, List.map_nil]); first | done | rfl) ?_
            refine (HBC.out _).mono ?_
            rintro e w8 ⟨rfl, hb8⟩
            refine ⟨_, rfl, ?_⟩
            have S8 := Aside0.mk (S7.out.below hb8)
            refine hK _ _ ?_
            simp only [Act.put, List.setIfInBounds_toArray, List.set_cons_zero, List.set_cons_succ]
            clear hK K hb8 S7
            refine wpAny_ready (rs := [4]) (by kernel_rfl) (by simp) (AllReady.cons rfl (fun K hK => ?_) AllReady.nil)
            refine store_step 42 _ _ (.pointer (some ⟨bh, 0, none⟩)) (.agg (u32c RV)) rfl rfl rfl rfl rfl (S8.out.store RV H8.out HRE8.out.len) ?_
            have S9 := Aside0.mk (S8.out.setRow RV)
            generalize w8.setRow bh (u32c RV) = w9 at S9 ⊢
            refine hK _ _ ?_
            clear hK K S8
            refine wpAny_done (by kernel_rfl) ?_ _
            obtain ⟨g, cap, rfl⟩ := S9.out.form H8.out
            clear HSD HKC HBC HI42
            go_wp2
            go_loopg [8] 8 (fun q v wr => Aside0 (∃ m : Nat, m ≤ 8 ∧ q = 8 - m ∧ v = .int .i64 m ∧ SB w wr bh (.slice (some ⟨g, 0, none⟩) l0.length cap) (mix RV l0 m) RV))
            case atStart => exact ⟨0, by omega, rfl, rfl, by rw [mix_zero]; exact S9.out⟩
            case round =>
              obtain ⟨m, hm, hg, rfl, hS⟩ := hrel.out
              clear hrel S9
              have HG := Aside0.mk hg
              have HS := Aside0.mk hS
              clear hg hS
              by_cases hlt : (m : Int) < 8
              · have hd := decide_eq_true hlt
                have hml : m < 8 := by omega
                have hlen : RV.length = l0.length := by rw [HRE8.out.len, H8.out]
                have hin := HRE8.out.get m
                obtain ⟨y, hy⟩ : ∃ y, RV.getD m 0 = y := ⟨_, rfl⟩
                have hc := HS.out.hb.cell m (by rw [HRE8.out.len]; exact hml)
                rw [hy] at hc hin
                have ey : IntKind.i64.wrap y = y := by have := hin.1; have := hin.2; rw [IntKind.wrap_i64]; omega
                have y0 : 0 ≤ y := hin.1
                have y1 : y ≤ 4294967295 := hin.2
                obtain ⟨ho, hf⟩ := HS.out.ocell m (by rw [mix_len _ _ _ hlen (by rw [HRE8.out.len]; omega), HRE8.out.len]; exact hml)
                have p0 : (0 ≤ (m : Int)) = True := eq_true (by omega)
                have q0 : ((m : Int) < (l0.length : Int)) = True := eq_true (by have := H8.out; omega)
                have q8 : ((m : Int) < 8) = True := eq_true (by omega)
                have HML := Aside0.mk hml
                have HY := Aside0.mk hy
                have HLN := Aside0.mk hlen
                clear hml hy hlen hin hlt hm
                go_upto_region 14 with (fail)
                change Code.wp _ _ _ _ (wr.setCell ⟨g, m, none⟩ (.int .i64 y))
                have hS := HS.out.setO m y
                rw [← HY.out, mix_set _ _ _ HLN.out (by rw [HRE8.out.len]; exact HML.out), HY.out] at hS
                have HS1 := Aside0.mk hS
                generalize wr.setCell ⟨g, m, none⟩ (.int .i64 y) = w5 at HS1 ⊢
                clear hS hc ho hf p0 q0 q8 HS hd ey y0 y1
                have e8 : IntKind.i64.wrap ((m : Int) + 1) = ((m + 1 : Nat) : Int) := by have := HML.out; rw [IntKind.wrap_i64]; omega
                go_wp2
                go_roundg (8 - (m + 1))
                case measure => have := HML.out; have := HG.out; omega
                case rel => exact ⟨⟨m + 1, by have := HML.out; omega, rfl, rfl, HS1.out⟩⟩
              · have hm8 : m = 8 := by omega
                subst hm8
                have hS := HS.out
                rw [mix_all _ _ _ (by rw [HRE8.out.len, H8.out]) HRE8.out.len.symm] at hS
                have HS1 := Aside0.mk hS
                clear hS HS hlt hm HG
                go_wp2
                go_ret
                exact ⟨_, rfl, HS1.out.done.1, HS1.out.done.2⟩
    · have t64 : (((x1.size : Nat) : Int) != 64) = true := by simp; omega
      have e : shaB l0 x1 = l0 := if_neg (fun h => h64 h.2.1)
      have E := Aside0.mk e
      clear e h64 h8
      go_wp2
      go_ret
      exact ⟨v2, rfl, by rw [← HRV.out, E.out]; exact HO2.out, HB2.out⟩
  · have t8 : (((l0.length : Nat) : Int) != 8) = true := by simp; omega
    have e : shaB l0 x1 = l0 := if_neg (fun h => h8 h.1)
    have E := Aside0.mk e
    clear e h8
    go_wp2
    go_ret
    exact ⟨v2, rfl, by rw [← HRV.out, E.out]; exact HO2.out, HB2.out⟩

end Go.Proofs.YtekplhhkbeemnaaDoor.Sha
