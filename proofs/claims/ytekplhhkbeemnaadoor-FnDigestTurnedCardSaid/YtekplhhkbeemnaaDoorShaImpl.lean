-- Written by a program of this session (sha.sh): no printed text.
import Derived.Test.YtekplhhkbeemnaaDoorProg
import Derived.Test.YtekplhhkbeemnaaDoorWWords
import Derived.Test.YtekplhhkbeemnaaDoorWLast
import Derived.Test.YtekplhhkbeemnaaDoorWTab
import Derived.Test.YtekplhhkbeemnaaDoorWFour
import Derived.Test.YtekplhhkbeemnaaDoorWQPut
import Derived.Test.YtekplhhkbeemnaaDoorWApart
import Derived.Test.YtekplhhkbeemnaaDoorWArr
import Derived.Test.YtekplhhkbeemnaaDoorWZeros
import Derived.Test.YtekplhhkbeemnaaDoorWFoot
import Derived.Test.YtekplhhkbeemnaaDoorWKept
import Derived.Test.YtekplhhkbeemnaaDoorWShare
import Derived.Test.YtekplhhkbeemnaaDoorWN
import Derived.Test.YtekplhhkbeemnaaDoorWFootNe
import Derived.Test.YtekplhhkbeemnaaDoorWAt
import Derived.Test.YtekplhhkbeemnaaDoorWEqStruct
import Derived.Test.YtekplhhkbeemnaaDoorWRepsOne
import Derived.Test.YtekplhhkbeemnaaDoorWInv
import Derived.Test.YtekplhhkbeemnaaDoorWInvWords
import Derived.Test.YtekplhhkbeemnaaDoorWGuard
import Derived.Test.YtekplhhkbeemnaaDoorWNEv
import Derived.Test.YtekplhhkbeemnaaDoorWMore
import Derived.Below
import Derived.Deep.Draws
import Derived.Deep.AppendLies
import Derived.Tactics
import Derived.Lib.ConvBytes
import Derived.Laws.Slices
import Derived.WalkKit
import Derived.StillTailTactics
import Derived.Laws.CopyOwn
import Derived.KernelRfl
import Derived.RowKit3
import Derived.Deep.LoopGhost
import Derived.Deep.QuietTactic
import Derived.BigQuiet
import Derived.WideLaws
import Derived.Deep.Onto
import Derived.Deep.WholeRow
import Derived.Laws.Rows
import Derived.Laws.IdiomStrings
import Derived.Laws.BitsLemmas
import Derived.Laws.NewBlocks
import Derived.WalkLawsBesides
import Derived.Test.YtekplhhkbeemnaaDoorShaSb
set_option linter.unusedVariables false
set_option linter.unusedSimpArgs false
namespace Go.Proofs.YtekplhhkbeemnaaDoor.Sha
open Go.RowKit Go.Proofs.YtekplhhkbeemnaaDoorW.PrintWords Go.Proofs.YtekplhhkbeemnaaDoorW.PrintLast
open Go.Proofs.YtekplhhkbeemnaaDoorW
theorem info3i : (Tryd.prog.info? 3).map (fun i => (i.zero, i.size, i.bytes)) = some (some (.int .i64 0), 1, 8) := by kernel_rfl
set_option maxHeartbeats 8000000 in
set_option maxRecDepth 1000000 in
theorem implBlock_walk (A0 : Option Addr) (c0 : Nat) (l0 : List Int) (x1 : ByteArray) (w : World) (HT : Rt w) (hr0 : (Kd.int .i64).C w A0 l0.length l0) (hc0 : l0.length ≤ c0) (hbd : l0.length * 8 ≤ 140737488355328) :
    Calls Tryd.prog 13 #[.slice A0 l0.length c0, .string x1] w fun e w' => ∃ v : Value, e = .returned v ∧ (Kd.int .i64).R 3 w' w.heap.size (fun _ => True) v (shaB l0 x1) ∧ Below w.heap.size w w' := by
  have HR0 := Aside0.mk hr0
  have HBD := Aside0.mk hbd
  have HRT := Aside0.mk HT
  obtain ⟨RV, hRV⟩ : ∃ l, shaB l0 x1 = l := ⟨_, rfl⟩
  rw [hRV]
  have HRV := Aside0.mk hRV
  clear hr0 hbd hRV HT
  go_enter Tryd.func13, Tryd.ntmps13
  go_upto_region 2 with ((with_reducible refine gate_dst (N := 17) rfl ?_); refine Kd.R_append_row (w0 := w) (W := w) (Value.int .i64) 0 w.heap.size rfl (.const (.slice none 0 0)) (.tmp 16) 22 3 (.int .i64 0) 8 rfl Tryd.underlying22 info3i rfl (by decide) (.slice none 0 0) [] l0 A0 l0.length c0 (fun _ => True) rfl rfl (fun _ _ => trivial) (Kd.R_nil _ _ _ _ _) HR0.out (Below.refl _ _) (Nat.le_refl _) (by have := HBD.out; simpa using this) ?_; intro v2 w2 ho2 hb2 hg2 hn2; clear hg2 hn2; have HO2 := Aside0.mk ho2; have HB2 := Aside0.mk hb2; clear ho2 hb2)
  have ho := HO2.out
  rw [List.nil_append] at ho
  clear HO2
  have HO2 := Aside0.mk ho
  clear ho
  by_cases h8 : l0.length = 8
  · have t8 : (((l0.length : Nat) : Int) != 8) = false := by simp; omega
    by_cases h64 : x1.size = 64
    · have t64 : (((x1.size : Nat) : Int) != 64) = false := by simp; omega
      have hal : ∀ w_ : World, (Instr.alloc 42 true (.tuple #[])).run Tryd.prog w_ = .ok (.pointer (some ⟨w_.heap.size, 0, none⟩)) (w_.alloc (.cells (u32c (List.replicate 8 0)) 42)) := fun w_ => by kernel_rfl
      obtain ⟨bh, hbh⟩ : ∃ b, w2.heap.size = b := ⟨_, rfl⟩
      have hS := SB.start HO2.out HB2.out (List.replicate 8 0)
      obtain ⟨Z, hZ⟩ : ∃ Z, u32c (List.replicate 8 0) = Z := ⟨_, rfl⟩
      rw [hZ] at hal hS
      rw [hbh] at hS
      obtain ⟨ad, rfl, hx0⟩ := Kd.at_int HR0.out 0 (by omega) (by omega)
      clear hx0
      have HAL := Aside0.mk hal
      have HS := Aside0.mk hS
      have HBH := Aside0.mk hbh
      have H8 := Aside0.mk h8
      have H64 := Aside0.mk h64
      clear hal hS hbh h8 h64 hZ
      go_upto_region 4 with (fail)
      clear t8 t64
      go_upto_region 5 with (refine wpList_alloc_f _ _ rfl 42 _ rfl (HAL.out _) ?_)
      simp only [Act.put, List.setIfInBounds_toArray, List.set_cons_zero, List.set_cons_succ]
      rw [HBH.out]
      generalize w2.alloc (.cells Z 42) = W3 at HS ⊢
      clear HAL HBH HB2 HO2
      go_wp2
      go_loopg [29] 8 (fun g v wr => Aside0 (∃ m : Nat, m ≤ 8 ∧ g = 8 - m ∧ v = .int .i64 m ∧ (∀ j, j < m → In32 (l0.getD j 0)) ∧ SB w wr bh v2 l0 (mix l0 (List.replicate 8 0) m)))
      case atStart => exact ⟨0, by omega, rfl, rfl, fun j hj => absurd hj (by omega), by rw [mix_zero]; exact HS.out⟩
      case round =>
        obtain ⟨m, hm, hg, rfl, hin, hS⟩ := hrel.out
        clear hrel HS
        have HG := Aside0.mk hg
        have HIN := Aside0.mk hin
        have HS := Aside0.mk hS
        clear hg hin hS
        by_cases hlt : (m : Int) < (l0.length : Int)
        · have hd := decide_eq_true hlt
          have hml : m < 8 := by have := H8.out; omega
          obtain ⟨x, hxx⟩ : ∃ x, l0.getD m 0 = x := ⟨_, rfl⟩
          obtain ⟨ad', e', hx⟩ := Kd.at_int HR0.out (m : Int) (by omega) (by have := H8.out; omega)
          obtain rfl : ad = ad' := Option.some.inj e'
          have hx : wr.cell? (ad.add m) = some (.int .i64 x) := by
            have h := (HS.out.kb.cell (World.block_lt_of_cell? w _ hx)).trans hx
            rw [show rd l0 (m : Int) = x from hxx] at h
            exact h
          have p0 : (0 ≤ (m : Int)) = True := eq_true (by omega)
          have q0 : ((m : Int) < (l0.length : Int)) = True := eq_true (by have := H8.out; omega)
          have HML := Aside0.mk hml
          have HXX := Aside0.mk hxx
          clear hxx hlt hm hml e'
          by_cases hr : 0 ≤ x ∧ x ≤ 4294967295
          · have r0 := hr.1
            have r1 := hr.2
            clear hr
            go_upto_region 8 with (fail)
            go_upto_region 10 with (go_at_call 36; refine (within_yes x _ r0 r1).mono ?_; rintro e w' ⟨rfl, rfl⟩)
            have hc := HS.out.hb.cell m (by rw [mix_len _ _ _ (by rw [H8.out]; rfl) (by have := H8.out; have := HML.out; omega)]; have := H8.out; have := HML.out; omega)
            have hf := HS.out.hb.free m
            have q8 : ((m : Int) < 8) = True := eq_true (by have := HML.out; omega)
            go_upto_region 11 with (fail)
            change Code.wp _ _ _ _ (wr.setCell ⟨bh, m, none⟩ (.int .u32 x))
            have hS := HS.out.setH m x
            rw [← HXX.out, mix_set _ _ _ (by rw [H8.out]; rfl) (by have := H8.out; have := HML.out; omega), HXX.out] at hS
            have HS1 := Aside0.mk hS
            generalize wr.setCell ⟨bh, m, none⟩ (.int .u32 x) = w5 at HS1 ⊢
            clear hS hc hf hx p0 q0 q8 HS hd
            have e8 : IntKind.i64.wrap ((m : Int) + 1) = ((m + 1 : Nat) : Int) := by have := HML.out; rw [IntKind.wrap_i64]; omega
            have R0 : In32 x := ⟨r0, r1⟩
            go_wp2
            go_roundg (8 - (m + 1))
            case measure => have := HML.out; have := HG.out; omega
            case rel =>
              refine ⟨⟨m + 1, by have := HML.out; omega, rfl, rfl, fun j hj => ?_, HS1.out⟩⟩
              rcases Nat.lt_or_ge j m with h | h
              · exact HIN.out j h
              · obtain rfl : j = m := by omega
                rw [HXX.out]
                exact R0
          · have hr' : x < 0 ∨ 4294967295 < x := by omega
            have e : shaB l0 x1 = l0 := if_neg (fun h => hr (by have := inR_get h.2.2 m (by have := H8.out; have := HML.out; omega); rw [HXX.out] at this; exact this))
            have E := Aside0.mk e
            clear e hr
            go_upto_region 8 with (fail)
            go_wp2_with (go_at_call 36; refine (within_no x _ hr').mono ?_; rintro e w' ⟨rfl, rfl⟩)
            go_ret
            exact ⟨v2, rfl, by rw [← HRV.out, E.out]; exact HS.out.done.1, HS.out.done.2⟩
        · have hm8 : m = 8 := by have := H8.out; omega
          subst hm8
          have hall : inR l0 = true := inR_of (fun j hj => HIN.out j (by have := H8.out; omega))
          have he8 : Eight l0 := eight_of H8.out (fun j hj => HIN.out j hj)
          have hres : shaB l0 x1 = blkV l0 x1 KEYS := if_pos ⟨H8.out, H64.out, hall⟩
          have hS := HS.out
          rw [mix_all _ _ _ (by rw [H8.out]; rfl) (by rw [H8.out])] at hS
          have HRE := Aside0.mk (HRV.out.symm.trans hres)
          have HE8 := Aside0.mk he8
          have HWC := Aside0.mk (fun w_ => words_walk x1 w_ H64.out)
          obtain ⟨WL, hWL⟩ : ∃ l, wordsV x1 = l := ⟨_, rfl⟩
          have hWl : WL.length = 64 := by rw [← hWL, wordsV, wMore_len, wInit_len x1 16 (by omega)]
          rw [hWL] at HWC
          have HWL := Aside0.mk hWL
          have HWLN := Aside0.mk hWl
          have HS2 := Aside0.mk hS
          have hd : decide ((8 : Int) < (l0.length : Int)) = false := decide_eq_false (by have := H8.out; omega)
          clear hall he8 hres hlt hm HS HG HIN hS hWL hWl
          generalize wr = W4 at HS2 ⊢
          obtain ⟨WC, hWC⟩ : ∃ c, u32c WL = c := ⟨_, rfl⟩
          rw [hWC] at HWC
          have HWCE := Aside0.mk hWC
          clear hWC
          go_upto_region 12 with (fail)
          go_wp2_with (go_at_call 37; refine (HWC.out _).mono ?_; rintro e w' ⟨rfl, hb⟩; have HS3 := Aside0.mk (HS2.out.below hb); clear HS2 hb)
          go_loopg [45] 64 (fun g v wr => Aside0 (∃ m : Nat, m ≤ 64 ∧ g = 64 - m ∧ v = .int .i64 m ∧ SB w wr bh v2 l0 (rndN KEYS WL m l0)))
          case atStart => exact ⟨0, by omega, rfl, rfl, HS3.out⟩
          case round =>
            obtain ⟨m, hm, hg, rfl, hS⟩ := hrel.out
            clear hrel HS3
            obtain ⟨a, b, c, d, e, f, g, h, hl, ia, ib, ic, id, ie, iff_, ig, ih⟩ := HE8.out.rndN KEYS WL m
            rw [hl] at hS
            have HLR := Aside0.mk hl
            have HIA := Aside0.mk ia
            have HIE := Aside0.mk ie
            have HMM := Aside0.mk hm
            have HG := Aside0.mk hg
            have HS := Aside0.mk hS
            clear hl ia ib ic id ie iff_ ig ih hg hS hd
            by_cases hlt : (m : Int) < 64
            · skip
              have HLT := Aside0.mk hlt
              have hd := decide_eq_true hlt
              have hix := fun w_ => run_index_u32 WL m HWLN.out (by omega) w_
              rw [HWCE.out] at hix
              obtain ⟨wv, hwv⟩ : ∃ x, WL.getD m 0 = x := ⟨_, rfl⟩
              rw [hwv] at hix
              have HWV := Aside0.mk hwv
              clear hwv hlt hm
              go_upto_region 14 with (fail)
              go_upto_region 15 with (fail)
              clear hix
              have c0 : wr.cell? ⟨bh, 0, none⟩ = some (.int .u32 a) := HS.out.hb.cell 0 (by simp)
              have c4 : wr.cell? ⟨bh, 4, none⟩ = some (.int .u32 e) := HS.out.hb.cell 4 (by simp)
              refine wp_region_quiet_lit (by kernel_rfl) (by kernel_rfl) ?_
              repeat (go_big_quiet_want; go_big_quiet_op; go_big_quiet_on)
              refine wpQuiet_nil ?_
              intro _ hw'
              obtain ⟨nq, hw''⟩ := hw'
              subst hw''
              have G1 := Aside0.mk (HS.out.drewN nq)
              clear HS c0 c4 hd
              generalize wr.drewN nq = w1 at G1 ⊢
              clear nq
              have HR1 := Aside0.mk (HRT.out.on G1.out.kb)
              have c5 : w1.cell? ⟨bh, 5, none⟩ = some (.int .u32 f) := G1.out.hb.cell 5 (by simp)
              have c6 : w1.cell? ⟨bh, 6, none⟩ = some (.int .u32 g) := G1.out.hb.cell 6 (by simp)
              have c7 : w1.cell? ⟨bh, 7, none⟩ = some (.int .u32 h) := G1.out.hb.cell 7 (by simp)
              have ck := HR1.out.cell m (by have := HLT.out; omega)
              obtain ⟨kv, hkv⟩ : ∃ x, KEYS.getD m 0 = x := ⟨_, rfl⟩
              rw [hkv] at ck
              have HKV := Aside0.mk hkv
              clear hkv
              have q64 : ((m : Int) < 64) = True := eq_true HLT.out
              have p0 : (0 ≤ (m : Int)) = True := eq_true (by omega)
              go_upto_region 16 with (fail)
              refine wp_region_quiet_lit (by kernel_rfl) (by kernel_rfl) ?_
              repeat (go_big_quiet_want; go_big_quiet_op; go_big_quiet_on)
              go_big_quiet_want
              go_big_quiet_op
              apply Exists.intro
              refine ⟨fun _ => ?_, ?_⟩
              · go_at_call 38
                exact quiet_drawn (right_6 e _ HIE.out.1 HIE.out.2)
              go_big_quiet_on
              repeat (go_big_quiet_want; go_big_quiet_op; go_big_quiet_on)
              go_big_quiet_want
              go_big_quiet_op
              apply Exists.intro
              refine ⟨fun _ => ?_, ?_⟩
              · go_at_call 38
                exact quiet_drawn (right_11 e _ HIE.out.1 HIE.out.2)
              go_big_quiet_on
              repeat (go_big_quiet_want; go_big_quiet_op; go_big_quiet_on)
              go_big_quiet_want
              go_big_quiet_op
              apply Exists.intro
              refine ⟨fun _ => ?_, ?_⟩
              · go_at_call 38
                exact quiet_drawn (right_25 e _ HIE.out.1 HIE.out.2)
              go_big_quiet_on
              repeat (go_big_quiet_want; go_big_quiet_op; go_big_quiet_on)
              refine wpQuiet_nil ?_
              intro _ hw'
              obtain ⟨nq, hw''⟩ := hw'
              subst hw''
              rw [show (if IntKind.u32.signed = true then (-1 : Int) else IntKind.u32.max) = 4294967295 by decide]
              obtain ⟨one, hone⟩ : ∃ x, ((h + Go.bits .xor .u32 (Go.bits .xor .u32 (rot 6 e) (rot 11 e)) (rot 25 e) + Go.bits .xor .u32 (Go.bits .and .u32 e f) (Go.bits .and .u32 (Go.bits .xor .u32 4294967295 e) g) + kv) % 4294967296 + wv) % 4294967296 = x := ⟨_, rfl⟩
              rw [hone]
              have HONE := Aside0.mk hone
              clear hone c5 c6 c7 ck q64 p0
              have G2 := Aside0.mk (G1.out.drewN nq)
              clear G1 HR1
              generalize w1.drewN nq = w2_ at G2 ⊢
              clear nq
              have c1 : w2_.cell? ⟨bh, 1, none⟩ = some (.int .u32 b) := G2.out.hb.cell 1 (by simp)
              have c2 : w2_.cell? ⟨bh, 2, none⟩ = some (.int .u32 c) := G2.out.hb.cell 2 (by simp)
              go_upto_region 17 with (fail)
              refine wp_region_quiet_lit (by kernel_rfl) (by kernel_rfl) ?_
              repeat (go_big_quiet_want; go_big_quiet_op; go_big_quiet_on)
              go_big_quiet_want
              go_big_quiet_op
              apply Exists.intro
              refine ⟨fun _ => ?_, ?_⟩
              · go_at_call 38
                exact quiet_drawn (right_2 a _ HIA.out.1 HIA.out.2)
              go_big_quiet_on
              repeat (go_big_quiet_want; go_big_quiet_op; go_big_quiet_on)
              go_big_quiet_want
              go_big_quiet_op
              apply Exists.intro
              refine ⟨fun _ => ?_, ?_⟩
              · go_at_call 38
                exact quiet_drawn (right_13 a _ HIA.out.1 HIA.out.2)
              go_big_quiet_on
              repeat (go_big_quiet_want; go_big_quiet_op; go_big_quiet_on)
              go_big_quiet_want
              go_big_quiet_op
              apply Exists.intro
              refine ⟨fun _ => ?_, ?_⟩
              · go_at_call 38
                exact quiet_drawn (right_22 a _ HIA.out.1 HIA.out.2)
              go_big_quiet_on
              repeat (go_big_quiet_want; go_big_quiet_op; go_big_quiet_on)
              refine wpQuiet_nil ?_
              intro _ hw'
              obtain ⟨nq, hw''⟩ := hw'
              subst hw''
              obtain ⟨two, htwo⟩ : ∃ x, (Go.bits .xor .u32 (Go.bits .xor .u32 (rot 2 a) (rot 13 a)) (rot 22 a) + Go.bits .xor .u32 (Go.bits .xor .u32 (Go.bits .and .u32 a b) (Go.bits .and .u32 a c)) (Go.bits .and .u32 b c)) % 4294967296 = x := ⟨_, rfl⟩
              rw [htwo]
              have HTWO := Aside0.mk htwo
              clear htwo c1 c2
              have G3 := Aside0.mk (G2.out.drewN nq)
              clear G2
              generalize w2_.drewN nq = w3_ at G3 ⊢
              clear nq
              have c1 : w3_.cell? ⟨bh, 1, none⟩ = some (.int .u32 b) := G3.out.hb.cell 1 (by simp)
              have c2 : w3_.cell? ⟨bh, 2, none⟩ = some (.int .u32 c) := G3.out.hb.cell 2 (by simp)
              have c3 : w3_.cell? ⟨bh, 3, none⟩ = some (.int .u32 d) := G3.out.hb.cell 3 (by simp)
              have c5 : w3_.cell? ⟨bh, 5, none⟩ = some (.int .u32 f) := G3.out.hb.cell 5 (by simp)
              have c6 : w3_.cell? ⟨bh, 6, none⟩ = some (.int .u32 g) := G3.out.hb.cell 6 (by simp)
              have HST := Aside0.mk (G3.out.store [(one + two) % 4294967296, a, b, c, (d + one) % 4294967296, e, f, g] rfl rfl)
              go_upto_region 18 with (fail)
              go_upto_region 19 with (refine wpList_store_f _ _ rfl 42 _ _ _ _ rfl rfl rfl rfl HST.out ?_)
              have G4 := Aside0.mk (G3.out.setRow [(one + two) % 4294967296, a, b, c, (d + one) % 4294967296, e, f, g])
              generalize w3_.setRow bh (u32c [(one + two) % 4294967296, a, b, c, (d + one) % 4294967296, e, f, g]) = w4_ at G4 ⊢
              clear G3 HST c1 c2 c3 c5 c6
              have e8 : IntKind.i64.wrap ((m : Int) + 1) = ((m + 1 : Nat) : Int) := by have := HLT.out; rw [IntKind.wrap_i64]; omega
              go_wp2
              go_roundg (64 - (m + 1))
              case measure => have := HMM.out; have := HG.out; have := HLT.out; omega
              case rel =>
                clear e8
                have hw : rndN KEYS WL (m + 1) l0 = [(one + two) % 4294967296, a, b, c, (d + one) % 4294967296, e, f, g] := by
                  have e1 : one = add32 (add32 (add32 (add32 h (SG1 e)) (chV e f g)) (KEYS.getD m 0)) (WL.getD m 0) := by
                    have x2 : Go.bits .xor .u32 (Go.bits .and .u32 e f) (Go.bits .and .u32 (Go.bits .xor .u32 4294967295 e) g) = chV e f g := by
                      unfold chV
                      rw [xor_comm32 4294967295 e]
                    have hone := HONE.out
                    rw [x2] at hone
                    rw [HKV.out, HWV.out, ← hone]
                    unfold SG1 add32
                    omega
                  have e2 : two = add32 (SG0 a) (majV a b c) := HTWO.out.symm
                  rw [rndN, HLR.out]
                  show [add32 (add32 (add32 (add32 (add32 h (SG1 e)) (chV e f g)) (KEYS.getD m 0)) (WL.getD m 0)) (add32 (SG0 a) (majV a b c)), a, b, c, add32 d (add32 (add32 (add32 (add32 h (SG1 e)) (chV e f g)) (KEYS.getD m 0)) (WL.getD m 0)), e, f, g] = _
                  rw [← e1, ← e2]
                  rfl
                refine ⟨⟨m + 1, by have := HLT.out; omega, rfl, rfl, ?_⟩⟩
                rw [hw]
                exact G4.out
            · skip
              have hm64 : m = 64 := by omega
              subst hm64
              obtain ⟨S, hS⟩ : ∃ l, rndN KEYS WL 64 l0 = l := ⟨_, rfl⟩
              have hSl : S.length = 8 := by rw [← hS]; exact (HE8.out.rndN KEYS WL 64).len
              have HSL := Aside0.mk hSl
              have HS2 := Aside0.mk hS
              have F := HS.out
              rw [← HLR.out, hS] at F
              obtain ⟨q, cap, rfl⟩ := F.form H8.out
              have HF := Aside0.mk F
              have hrv : RV = plusN S 8 l0 := by rw [HRE.out, blkV, ← hS, HWL.out]
              have HRVP := Aside0.mk hrv
              have HL8 := Aside0.mk (fun m => plusN_len S m l0)
              have HIN8 := Aside0.mk (fun m j => plusN_in (s := S) HE8.out.get m j)
              clear F hS hSl hlt hm HS HLR HG HMM HIA HIE hrv
              clear a b c d e f g h
              generalize wr = V0 at HF ⊢
              go_upto_region 20 with (fail)
              go_wp2
              go_loopg [126] 8 (fun g v wr => Aside0 (∃ m : Nat, m ≤ 8 ∧ g = 8 - m ∧ v = .int .i64 m ∧ SB w wr bh (.slice (some ⟨q, 0, none⟩) l0.length cap) (plusN S m l0) S))
              case atStart => exact ⟨0, by omega, rfl, rfl, HF.out⟩
              case round =>
                obtain ⟨m, hm, hg, rfl, hS⟩ := hrel.out
                clear hrel HF
                have HG := Aside0.mk hg
                have HS := Aside0.mk hS
                clear hg hS
                by_cases hlt : (m : Int) < (l0.length : Int)
                · have hd := decide_eq_true hlt
                  have hml : m < 8 := by have := H8.out; omega
                  have hin := HIN8.out m m
                  obtain ⟨x, hx⟩ : ∃ y, (plusN S m l0).getD m 0 = y := ⟨_, rfl⟩
                  obtain ⟨y, hy⟩ : ∃ y, S.getD m 0 = y := ⟨_, rfl⟩
                  obtain ⟨ho, hf⟩ := HS.out.ocell m (by rw [HL8.out, H8.out]; exact hml)
                  have hc := HS.out.hb.cell m (by rw [HSL.out]; exact hml)
                  rw [hx] at ho hin
                  rw [hy] at hc
                  have x0 : 0 ≤ x := hin.1
                  have x1_ : x ≤ 4294967295 := hin.2
                  have p0 : (0 ≤ (m : Int)) = True := eq_true (by omega)
                  have q0 : ((m : Int) < (l0.length : Int)) = True := eq_true hlt
                  have q8 : ((m : Int) < 8) = True := eq_true (by omega)
                  have HML := Aside0.mk hml
                  have HX := Aside0.mk hx
                  have HY := Aside0.mk hy
                  clear hml hx hy hin hlt hm hf
                  go_upto_region 23 with (fail)
                  go_still_tail 12, (by kernel_rfl)
                  change wpList _ _ _ _ _ wr.drew
                  have HS1 := Aside0.mk HS.out.drew
                  clear HS ho hc
                  generalize wr.drew = w6 at HS1 ⊢
                  obtain ⟨ho, hf⟩ := HS1.out.ocell m (by rw [HL8.out, H8.out]; exact HML.out)
                  go_upto_region 24 with (fail)
                  have ew : wrap64 ((x + y) % 4294967296) = add32 x y := by unfold wrap64 add32; omega
                  rw [ew]
                  have hS := HS1.out.setO m (add32 x y)
                  have hstep : (plusN S m l0).set m (add32 x y) = plusN S (m + 1) l0 := by rw [plusN, HX.out, HY.out]
                  rw [hstep] at hS
                  have HS3 := Aside0.mk hS
                  generalize w6.setCell ⟨q, m, none⟩ (.int .i64 (add32 x y)) = w7 at HS3 ⊢
                  clear ew hS hstep ho hf HS1 x0 x1_ p0 q0 q8 hd
                  have e8 : IntKind.i64.wrap ((m : Int) + 1) = ((m + 1 : Nat) : Int) := by have := HML.out; rw [IntKind.wrap_i64]; omega
                  go_wp2
                  go_roundg (8 - (m + 1))
                  case measure => have := HML.out; have := HG.out; omega
                  case rel => exact ⟨⟨m + 1, by have := HML.out; omega, rfl, rfl, HS3.out⟩⟩
                · skip
                  have hm8 : m = 8 := by have := H8.out; omega
                  subst hm8
                  have hS := HS.out
                  rw [← HRVP.out] at hS
                  have HS1 := Aside0.mk hS
                  have hd : decide ((8 : Int) < (l0.length : Int)) = false := decide_eq_false (by have := H8.out; omega)
                  clear hS HS hlt hm HG
                  go_wp2
                  go_ret
                  exact ⟨_, rfl, HS1.out.done.1, HS1.out.done.2⟩
    · have t64 : (((x1.size : Nat) : Int) != 64) = true := by simp; omega
      have e : shaB l0 x1 = l0 := if_neg (fun h => h64 h.2.1)
      have E := Aside0.mk e
      clear e h64 h8
      go_wp2
      go_ret
      exact ⟨v2, rfl, by rw [← HRV.out, E.out]; exact HO2.out, HB2.out⟩
  · have t8 : (((l0.length : Nat) : Int) != 8) = true := by simp; omega
    have e : shaB l0 x1 = l0 := if_neg (fun h => h8 h.1)
    have E := Aside0.mk e
    clear e h8
    go_wp2
    go_ret
    exact ⟨v2, rfl, by rw [← HRV.out, E.out]; exact HO2.out, HB2.out⟩

end Go.Proofs.YtekplhhkbeemnaaDoor.Sha
