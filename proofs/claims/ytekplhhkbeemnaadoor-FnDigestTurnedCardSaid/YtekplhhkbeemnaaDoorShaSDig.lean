-- Written by a program of this session (sha.sh): no printed text.
import Derived.Test.YtekplhhkbeemnaaDoorProg
import Derived.Test.YtekplhhkbeemnaaDoorWWords
import Derived.Test.YtekplhhkbeemnaaDoorWLast
import Derived.Test.YtekplhhkbeemnaaDoorWTab
import Derived.Test.YtekplhhkbeemnaaDoorWFour
import Derived.Test.YtekplhhkbeemnaaDoorWQPut
import Derived.Test.YtekplhhkbeemnaaDoorWApart
import Derived.Test.YtekplhhkbeemnaaDoorWArr
import Derived.Test.YtekplhhkbeemnaaDoorWZeros
import Derived.Test.YtekplhhkbeemnaaDoorWFoot
import Derived.Test.YtekplhhkbeemnaaDoorWKept
import Derived.Test.YtekplhhkbeemnaaDoorWShare
import Derived.Test.YtekplhhkbeemnaaDoorWN
import Derived.Test.YtekplhhkbeemnaaDoorWFootNe
import Derived.Test.YtekplhhkbeemnaaDoorWAt
import Derived.Test.YtekplhhkbeemnaaDoorWEqStruct
import Derived.Test.YtekplhhkbeemnaaDoorWRepsOne
import Derived.Test.YtekplhhkbeemnaaDoorWInv
import Derived.Test.YtekplhhkbeemnaaDoorWInvWords
import Derived.Test.YtekplhhkbeemnaaDoorWGuard
import Derived.Test.YtekplhhkbeemnaaDoorWNEv
import Derived.Test.YtekplhhkbeemnaaDoorWMore
import Derived.Below
import Derived.Deep.Draws
import Derived.Deep.AppendLies
import Derived.Tactics
import Derived.Lib.ConvBytes
import Derived.Laws.Slices
import Derived.WalkKit
import Derived.StillTailTactics
import Derived.Laws.CopyOwn
import Derived.KernelRfl
import Derived.RowKit3
import Derived.Deep.LoopGhost
import Derived.Deep.QuietTactic
import Derived.BigQuiet
import Derived.WideLaws
import Derived.Deep.Onto
import Derived.Deep.WholeRow
import Derived.Laws.Rows
import Derived.Laws.IdiomStrings
import Derived.Laws.BitsLemmas
import Derived.Laws.NewBlocks
import Derived.WalkLawsBesides
import Derived.Test.YtekplhhkbeemnaaDoorShaDigW
import Derived.Test.YtekplhhkbeemnaaDoorShaSb
set_option linter.unusedVariables false
set_option linter.unusedSimpArgs false
namespace Go.Proofs.YtekplhhkbeemnaaDoor.Sha
open Go.RowKit Go.Proofs.YtekplhhkbeemnaaDoorW.PrintWords Go.Proofs.YtekplhhkbeemnaaDoorW.PrintLast
open Go.Proofs.YtekplhhkbeemnaaDoorW
theorem info5s : (Tryd.prog.info? 5).map (fun i => (i.zero, i.size, i.bytes)) = some (some (.int .u8 0), 1, 1) := by kernel_rfl
set_option maxHeartbeats 8000000 in
set_option maxRecDepth 1000000 in
theorem specDigest_walk (t : ByteArray) (w : World) (hb : t.size ≤ 1099511627776) :
    Calls Tryd.prog 17 #[.string t] w fun e w' => e = .returned (.string (digV t)) ∧ Below w.heap.size w w' := by
  have hps := padV_size t
  have HPC := Aside0.mk (fun w_ => spec_PadText_walk t w_ hb)
  obtain ⟨DV, hDV⟩ : ∃ d, digV t = d := ⟨_, rfl⟩
  rw [hDV]
  have HDV := Aside0.mk hDV
  clear hDV
  obtain ⟨p, hp⟩ : ∃ p, padV t = p := ⟨_, rfl⟩
  rw [hp] at hps HPC
  have HP := Aside0.mk hp
  obtain ⟨M, hM⟩ : ∃ M, p.size = 64 * M := ⟨p.size / 64, by omega⟩
  have HM := Aside0.mk hM
  have HMB := Aside0.mk (show 64 * M ≤ 1099511628000 by omega)
  clear hp hps hM
  obtain ⟨FV, hFV⟩ : ∃ f, u32c FIRST = f := ⟨_, rfl⟩
  obtain ⟨KV, hKV⟩ : ∃ f, u32c KEYS = f := ⟨_, rfl⟩
  obtain ⟨Z8, hZ8⟩ : ∃ f, u32c (List.replicate 8 0) = f := ⟨_, rfl⟩
  obtain ⟨Z64, hZ64⟩ : ∃ f, u32c (List.replicate 64 0) = f := ⟨_, rfl⟩
  have hal8 : ∀ w_ : World, (Instr.alloc 42 true (.tuple #[])).run Tryd.prog w_ = .ok (.pointer (some ⟨w_.heap.size, 0, none⟩)) (w_.alloc (.cells Z8 42)) := fun w_ => by rw [← hZ8]; kernel_rfl
  have hal64 : ∀ w_ : World, (Instr.alloc 45 true (.tuple #[])).run Tryd.prog w_ = .ok (.pointer (some ⟨w_.heap.size, 0, none⟩)) (w_.alloc (.cells Z64 45)) := fun w_ => by rw [← hZ64]; kernel_rfl
  have hst8 : ∀ w_ : World, (Instr.storeAt 42 (.pointer (some ⟨w_.heap.size, 0, none⟩)) (.agg FV)).run Tryd.prog (w_.alloc (.cells Z8 42)) = .ok () (w_.alloc (.cells FV 42)) := fun w_ => by
    rw [← hFV, ← hZ8]; exact run_storeAt_new w_ 42 _ _ (by kernel_rfl) (by kernel_rfl) (by kernel_rfl)
  have hst64 : ∀ w_ : World, (Instr.storeAt 45 (.pointer (some ⟨w_.heap.size, 0, none⟩)) (.agg KV)).run Tryd.prog (w_.alloc (.cells Z64 45)) = .ok () (w_.alloc (.cells KV 45)) := fun w_ => by
    rw [← hKV, ← hZ64]; exact run_storeAt_new w_ 45 _ _ (by kernel_rfl) (by kernel_rfl) (by kernel_rfl)
  have HFC := Aside0.mk (fun w_ => first_walk w_)
  have HKC := Aside0.mk (fun w_ => keys_walk w_)
  rw [hFV] at HFC
  rw [hKV] at HKC
  have HAL8 := Aside0.mk hal8
  have HAL64 := Aside0.mk hal64
  have HST8 := Aside0.mk hst8
  have HST64 := Aside0.mk hst64
  have HFV := Aside0.mk hFV
  have HKV := Aside0.mk hKV
  clear hal8 hal64 hst8 hst64 hFV hKV hZ8 hZ64 hb
  go_enter Tryd.func17, Tryd.ntmps17
  go_upto_region 2 with (first
    | (go_at_call 39; refine (HFC.out _).mono ?_; rintro e w1 ⟨rfl, hb1⟩; have HB1 := Aside0.mk hb1; clear hb1)
    | (refine wpList_alloc_f _ _ rfl 42 _ rfl (HAL8.out _) ?_)
    | (refine wpList_store_f _ _ rfl 42 _ _ _ _ rfl rfl rfl rfl (HST8.out _) ?_))
  simp only [Act.put, List.setIfInBounds_toArray, List.set_cons_zero, List.set_cons_succ]
  obtain ⟨bh, hbh⟩ : ∃ b, w1.heap.size = b := ⟨_, rfl⟩
  rw [hbh]
  have h2 : Blk (w1.alloc (.cells FV 42)) bh 42 FIRST := by rw [← hbh, ← HFV.out]; exact Blk.new w1 42 FIRST
  have h3 := below_alloc HB1.out (.cells FV 42)
  have hle : w.heap.size ≤ bh := by rw [← hbh]; exact HB1.out.size
  generalize w1.alloc (.cells FV 42) = W2 at h2 h3 ⊢
  have H2 := Aside0.mk h2
  have H3 := Aside0.mk h3
  have HLE := Aside0.mk hle
  clear h2 h3 hle HB1 HFC HAL8 HST8 hbh
  go_upto_region 3 with (first
    | (go_at_call 35; refine (HKC.out _).mono ?_; rintro e w3 ⟨rfl, hb3⟩; have HB3 := Aside0.mk hb3; clear hb3)
    | (refine wpList_alloc_f _ _ rfl 45 _ rfl (HAL64.out _) ?_)
    | (refine wpList_store_f _ _ rfl 45 _ _ _ _ rfl rfl rfl rfl (HST64.out _) ?_))
  simp only [Act.put, List.setIfInBounds_toArray, List.set_cons_zero, List.set_cons_succ]
  obtain ⟨bk, hbk⟩ : ∃ b, w3.heap.size = b := ⟨_, rfl⟩
  rw [hbk]
  have hds : DS w (w3.alloc (.cells KV 45)) bh bk FIRST := by
    rw [← hbk, ← HKV.out]
    have hb3 := HB3.out
    have hh : Blk w3 bh 42 FIRST := ⟨(hb3.block bh H2.out.lt).trans H2.out.heap⟩
    exact ⟨hh.alloc _, Blk.new w3 45 KEYS, below_alloc (H3.out.trans (hb3.mono H3.out.size)) _, HLE.out, hh.lt⟩
  generalize w3.alloc (.cells KV 45) = W4 at hds ⊢
  have HDS := Aside0.mk hds
  clear hds H2 H3 HLE HB3 HKC HAL64 HST64 hbk
  go_upto_region 4 with (go_at_call 40; refine (HPC.out _).mono ?_; rintro e w5 ⟨rfl, hb5⟩; have HD5 := Aside0.mk (HDS.out.below hb5); clear hb5)
  clear HPC HDS
  have HI42 := Aside0.mk (fun m => info42 (stateN_eight p m).len)
  have HI45 := Aside0.mk (info45 (h := KEYS) rfl)
  go_wp2
  go_loopg [6] M (fun g v wr => Aside0 (∃ m a : Nat, m ≤ M ∧ g = M - m ∧ a = 64 * m ∧ v = .int .i64 (a : Int) ∧ DS w wr bh bk (stateN p m)))
  case atStart => exact ⟨0, 0, by omega, rfl, rfl, rfl, HD5.out⟩
  case round =>
    obtain ⟨m, a, hm, hg, ha, rfl, hD⟩ := hrel.out
    clear hrel HD5
    have HG := Aside0.mk hg
    have HD := Aside0.mk hD
    have HMM := Aside0.mk hm
    have HAA := Aside0.mk ha
    clear hg hD
    by_cases hlt : m < M
    · skip
      have h1 : a + 64 ≤ p.size := by have := HM.out; omega
      have hd : decide ((a : Int) < (p.size : Int)) = true := decide_eq_true (by omega)
      have hdn : decide (a < p.size) = true := decide_eq_true (by omega)
      have ea : IntKind.i64.wrap ((a : Int) + 64) = (a : Int) + 64 := by have := HMB.out; rw [IntKind.wrap_i64]; omega
      have HLT := Aside0.mk hlt
      have HH1 := Aside0.mk h1
      have EA := Aside0.mk ea
      obtain ⟨B, hB⟩ : ∃ B, p.extract a (a + 64) = B := ⟨_, rfl⟩
      have hBs : B.size = 64 := by rw [← hB, ByteArray.size_extract]; omega
      have hsl : ∀ w_, (Instr.slice 9 (.string p) (some (.int .i64 (a : Int))) (some (.int .i64 ((a : Int) + 64))) none).run Tryd.prog w_ = .ok (.string B) w_ := fun w_ => by
        have h := run_slice_string (P := Tryd.prog) w_ 9 p .i64 .i64 (a : Int) ((a : Int) + 64) Tryd.underlying9 (by omega) (by omega) (by omega)
        rw [h, ← hB]
        simp
        rfl
      have HB_ := Aside0.mk hB
      have HBS := Aside0.mk hBs
      clear hB hBs
      clear hlt hm ha h1
      go_upto_region 7 with (fail)
      have HDW := Aside0.mk HD.out.drew
      clear HD
      refine wp_region_still_tail 7 (by kernel_rfl) (by kernel_rfl) ?_
      change wpStill _ _ wr.drew _ _ _
      simp only [List.take_succ_cons, List.take_zero, List.drop_succ_cons, List.drop_zero]
      refine still_load (some 19) 42 _ rfl rfl rfl bh rfl 42 (u32c (stateN p m)) (0, 0) _ HDW.out.hb.heap Tryd.underlying42 rfl (HI42.out m) ?_
      simp only [Act.put, List.setIfInBounds_toArray, List.set_cons_zero, List.set_cons_succ]
      still_step
      still_step
      still_step
      still_step
      still_step
      clear hsl
      refine still_load (some 25) 45 _ rfl rfl rfl bk rfl 45 (u32c KEYS) (0, 0) _ HDW.out.kb.heap Tryd.underlying45 rfl HI45.out ?_
      simp only [Act.put, List.setIfInBounds_toArray, List.set_cons_zero, List.set_cons_succ]
      refine wpStill_nil ?_
      change wpList _ _ _ _ _ wr.drew
      generalize wr.drew = w6 at HDW ⊢
      have HLC := Aside0.mk (fun w_ => l03_walk (stateN p m) KEYS B w_ (stateN_eight p m).len rfl HBS.out (stateN_eight p m))
      obtain ⟨NS, hNS⟩ : ∃ l, blkV (stateN p m) B KEYS = l := ⟨_, rfl⟩
      have hns : stateN p (m + 1) = NS := by rw [stateN, ← HAA.out, HB_.out, hNS]
      have hNl : NS.length = 8 := by rw [← hns]; exact (stateN_eight p (m + 1)).len
      rw [hNS] at HLC
      have HNS := Aside0.mk hns
      have HNL := Aside0.mk hNl
      have HSL := Aside0.mk (stateN_eight p m).len
      clear hNS hns hNl hd hdn
      go_upto_region 6 with (first
        | (go_at_call 34; refine (HLC.out _).mono ?_; rintro e w7 ⟨rfl, hb7⟩; have HD7 := Aside0.mk (HDW.out.below hb7); clear hb7 HDW)
        | (refine wpList_store_f _ _ rfl 42 _ _ _ _ rfl rfl rfl rfl (HD7.out.store NS HSL.out HNL.out) ?_))
      have HD8 := Aside0.mk (HD7.out.setRow NS)
      rw [← HNS.out] at HD8
      rw [← HNS.out]
      generalize w7.setRow bh (u32c (stateN p (m + 1))) = w8 at HD8 ⊢
      clear HD7 HLC
      have e8 := EA.out
      go_wp2
      go_roundg (M - (m + 1))
      case measure => have := HG.out; have := HLT.out; omega
      case rel => exact ⟨⟨m + 1, a + 64, by have := HLT.out; omega, rfl, by have := HAA.out; omega, rfl, HD8.out⟩⟩
    · skip
      have hmM : m = M := by omega
      subst hmM
      have hd : decide ((a : Int) < (p.size : Int)) = false := decide_eq_false (by have := HM.out; omega)
      have hdn : decide (a < p.size) = false := decide_eq_false (by have := HM.out; omega)
      obtain ⟨hs, hhs⟩ : ∃ l, stateN p m = l := ⟨_, rfl⟩
      have he := stateN_eight p m
      rw [hhs] at he
      have HE := Aside0.mk he
      have hol : (outB hs).length = 32 := by rw [outB_len, he.len]
      have HOL := Aside0.mk hol
      have hdv : DV = strOfNums (outB hs) := by
        rw [← HDV.out, digV, HP.out, HM.out, Nat.mul_div_cancel_left _ (by decide), hhs]
      have HDVE := Aside0.mk hdv
      have hD := HD.out
      rw [hhs] at hD
      have HD2 := Aside0.mk hD
      clear hD HD hdv hol he hhs hlt hm ha HG HMM HAA
      generalize wr = V0 at HD2 ⊢
      go_upto_region 9 with (((with_reducible refine gate_dst (N := 27) rfl ?_); refine Kd.R_make (Kd.int .u8) _ 5 rfl (N := 27) rfl 32 _ _ rfl (32 : Int) rfl rfl Tryd.underlying32 (.int .u8 0) 1 info5s rfl (by decide) (by omega) 0 (ok := fun _ => True) (okp := fun _ => True) rfl (fun _ hk => hk) trivial (by decide) (by decide) (Below.refl _ _) (Nat.le_refl _) ?_; intro v1 w1_ ho1 hb1_ hg1 hn1; clear hg1 hn1; have HO := Aside0.mk (DO.start HD2.out ho1 hb1_); clear ho1 hb1_ HD2))
      have hO : DO w w1_ bh v1 (List.replicate 32 0) hs := HO.out
      obtain ⟨g, cap, hv⟩ := hO.form rfl
      have hv : v1 = .slice (some ⟨g, 0, none⟩) 32 cap := hv
      subst hv
      have HO1 := Aside0.mk hO
      clear hO HO
      have HR32 := Aside0.mk (show (outB hs).length = (List.replicate 32 (0 : Int)).length by rw [HOL.out]; rfl)
      go_wp2
      go_loopg [8] 8 (fun q v wr => Aside0 (∃ m : Nat, m ≤ 8 ∧ q = 8 - m ∧ v = .int .i64 m ∧ DO w wr bh (.slice (some ⟨g, 0, none⟩) 32 cap) (mix (outB hs) (List.replicate 32 0) (4 * m)) hs))
      case atStart => exact ⟨0, by omega, rfl, rfl, HO1.out⟩
      case round =>
        obtain ⟨m, hm, hg, rfl, hO⟩ := hrel.out
        clear hrel HO1
        have HG := Aside0.mk hg
        have O0 := Aside0.mk hO
        clear hg hO
        by_cases hlt : (m : Int) < 8
        · have hd2 := decide_eq_true hlt
          have hml : m < 8 := by omega
          have HML := Aside0.mk hml
          obtain ⟨k0, k1, k2, k3⟩ := outB_get hs m (by rw [HE.out.len]; exact hml)
          have hin := HE.out.get m
          obtain ⟨x, hx⟩ : ∃ x, hs.getD m 0 = x := ⟨_, rfl⟩
          rw [hx] at k0 k1 k2 k3 hin
          have x0 : 0 ≤ x := hin.1
          have x1 : x ≤ 4294967295 := hin.2
          rw [show x / 16777216 % 256 = x / 16777216 by omega] at k0
          obtain ⟨b, hb⟩ : ∃ b : Nat, 4 * m = b := ⟨_, rfl⟩
          obtain ⟨b1, hb1⟩ : ∃ n : Nat, b + 1 = n := ⟨_, rfl⟩
          obtain ⟨b2, hb2⟩ : ∃ n : Nat, b + 2 = n := ⟨_, rfl⟩
          obtain ⟨b3, hb3⟩ : ∃ n : Nat, b + 3 = n := ⟨_, rfl⟩
          rw [hb] at k0 k1 k2 k3 O0
          rw [hb1] at k1
          rw [hb2] at k2
          rw [hb3] at k3
          have e0 : IntKind.i64.wrap (4 * (m : Int)) = (b : Int) := by rw [IntKind.wrap_i64]; omega
          have e1 : IntKind.i64.wrap ((b : Int) + 1) = (b1 : Int) := by rw [IntKind.wrap_i64]; omega
          have e2 : IntKind.i64.wrap ((b : Int) + 2) = (b2 : Int) := by rw [IntKind.wrap_i64]; omega
          have e3 : IntKind.i64.wrap ((b : Int) + 3) = (b3 : Int) := by rw [IntKind.wrap_i64]; omega
          have p0 : (0 ≤ (m : Int)) = True := eq_true (by omega)
          have q8 : ((m : Int) < 8) = True := eq_true (by omega)
          have z0 : (0 ≤ (b : Int)) = True := eq_true (by omega)
          have z1 : (0 ≤ (b1 : Int)) = True := eq_true (by omega)
          have z2 : (0 ≤ (b2 : Int)) = True := eq_true (by omega)
          have z3 : (0 ≤ (b3 : Int)) = True := eq_true (by omega)
          have l0 : ((b : Int) < 32) = True := eq_true (by omega)
          have l1 : ((b1 : Int) < 32) = True := eq_true (by omega)
          have l2 : ((b2 : Int) < 32) = True := eq_true (by omega)
          have l3 : ((b3 : Int) < 32) = True := eq_true (by omega)
          have HX := Aside0.mk hx
          have K0 := Aside0.mk k0
          have K1 := Aside0.mk k1
          have K2 := Aside0.mk k2
          have K3 := Aside0.mk k3
          have HBB := Aside0.mk hb
          have HB1 := Aside0.mk hb1
          have HB2 := Aside0.mk hb2
          have HB3 := Aside0.mk hb3
          clear hx k0 k1 k2 k3 hb hb1 hb2 hb3 hin hlt hm hml
          go_upto_region 12 with (fail)
          have hc : wr.cell? ⟨bh, m, none⟩ = some (.int .u32 x) := by
            have h := O0.out.hb.cell m (by rw [HE.out.len]; exact HML.out)
            rw [HX.out] at h
            exact h
          obtain ⟨ho, hf⟩ := O0.out.ocell b (by rw [mix_len _ _ _ HR32.out (by rw [HOL.out]; have := HML.out; have := HBB.out; have := HB1.out; have := HB2.out; have := HB3.out; omega), HOL.out]; have := HML.out; have := HBB.out; have := HB1.out; have := HB2.out; have := HB3.out; omega)
          go_upto_region 13 with (fail)
          change Code.wp _ _ _ _ (wr.setCell ⟨g, b, none⟩ (.int .u8 (x / 16777216)))
          have hS := O0.out.setO b (x / 16777216)
          rw [← K0.out, mix_set _ _ _ HR32.out (by rw [HOL.out]; have := HML.out; have := HBB.out; have := HB1.out; have := HB2.out; have := HB3.out; omega), K0.out] at hS
          have O1 := Aside0.mk hS
          generalize wr.setCell ⟨g, b, none⟩ (.int .u8 (x / 16777216)) = y1 at O1 ⊢
          clear hS hc ho hf O0
          rw [show b + 1 = b1 by have := HB1.out; have := HB2.out; have := HB3.out; omega] at O1
          have hc : y1.cell? ⟨bh, m, none⟩ = some (.int .u32 x) := by
            have h := O1.out.hb.cell m (by rw [HE.out.len]; exact HML.out)
            rw [HX.out] at h
            exact h
          obtain ⟨ho, hf⟩ := O1.out.ocell b1 (by rw [mix_len _ _ _ HR32.out (by rw [HOL.out]; have := HML.out; have := HBB.out; have := HB1.out; have := HB2.out; have := HB3.out; omega), HOL.out]; have := HML.out; have := HBB.out; have := HB1.out; have := HB2.out; have := HB3.out; omega)
          go_upto_region 14 with (fail)
          change Code.wp _ _ _ _ (y1.setCell ⟨g, b1, none⟩ (.int .u8 (x / 65536 % 256)))
          have hS := O1.out.setO b1 (x / 65536 % 256)
          rw [← K1.out, mix_set _ _ _ HR32.out (by rw [HOL.out]; have := HML.out; have := HBB.out; have := HB1.out; have := HB2.out; have := HB3.out; omega), K1.out] at hS
          have O2 := Aside0.mk hS
          generalize y1.setCell ⟨g, b1, none⟩ (.int .u8 (x / 65536 % 256)) = y2 at O2 ⊢
          clear hS hc ho hf O1
          rw [show b1 + 1 = b2 by have := HB1.out; have := HB2.out; have := HB3.out; omega] at O2
          have hc : y2.cell? ⟨bh, m, none⟩ = some (.int .u32 x) := by
            have h := O2.out.hb.cell m (by rw [HE.out.len]; exact HML.out)
            rw [HX.out] at h
            exact h
          obtain ⟨ho, hf⟩ := O2.out.ocell b2 (by rw [mix_len _ _ _ HR32.out (by rw [HOL.out]; have := HML.out; have := HBB.out; have := HB1.out; have := HB2.out; have := HB3.out; omega), HOL.out]; have := HML.out; have := HBB.out; have := HB1.out; have := HB2.out; have := HB3.out; omega)
          go_upto_region 15 with (fail)
          change Code.wp _ _ _ _ (y2.setCell ⟨g, b2, none⟩ (.int .u8 (x / 256 % 256)))
          have hS := O2.out.setO b2 (x / 256 % 256)
          rw [← K2.out, mix_set _ _ _ HR32.out (by rw [HOL.out]; have := HML.out; have := HBB.out; have := HB1.out; have := HB2.out; have := HB3.out; omega), K2.out] at hS
          have O3 := Aside0.mk hS
          generalize y2.setCell ⟨g, b2, none⟩ (.int .u8 (x / 256 % 256)) = y3 at O3 ⊢
          clear hS hc ho hf O2
          rw [show b2 + 1 = b3 by have := HB1.out; have := HB2.out; have := HB3.out; omega] at O3
          have hc : y3.cell? ⟨bh, m, none⟩ = some (.int .u32 x) := by
            have h := O3.out.hb.cell m (by rw [HE.out.len]; exact HML.out)
            rw [HX.out] at h
            exact h
          obtain ⟨ho, hf⟩ := O3.out.ocell b3 (by rw [mix_len _ _ _ HR32.out (by rw [HOL.out]; have := HML.out; have := HBB.out; have := HB1.out; have := HB2.out; have := HB3.out; omega), HOL.out]; have := HML.out; have := HBB.out; have := HB1.out; have := HB2.out; have := HB3.out; omega)
          go_upto_region 11 with (fail)
          change Code.wp _ _ _ _ (y3.setCell ⟨g, b3, none⟩ (.int .u8 (x % 256)))
          have hS := O3.out.setO b3 (x % 256)
          rw [← K3.out, mix_set _ _ _ HR32.out (by rw [HOL.out]; have := HML.out; have := HBB.out; have := HB1.out; have := HB2.out; have := HB3.out; omega), K3.out] at hS
          have O4 := Aside0.mk hS
          generalize y3.setCell ⟨g, b3, none⟩ (.int .u8 (x % 256)) = y4 at O4 ⊢
          clear hS hc ho hf O3
          have e8 : IntKind.i64.wrap ((m : Int) + 1) = ((m + 1 : Nat) : Int) := by have := HML.out; rw [IntKind.wrap_i64]; omega
          clear e0 e1 e2 e3 p0 q8 z0 z1 z2 z3 l0 l1 l2 l3 x0 x1 hd2
          go_wp2
          go_roundg (8 - (m + 1))
          case measure => have := HML.out; have := HG.out; omega
          case rel =>
            refine ⟨⟨m + 1, by have := HML.out; omega, rfl, rfl, ?_⟩⟩
            rw [show 4 * (m + 1) = b3 + 1 by have := HBB.out; have := HB3.out; omega]
            exact O4.out
        · have hm8 : m = 8 := by omega
          subst hm8
          have hO := O0.out
          rw [mix_all _ _ _ HR32.out (by rw [HOL.out])] at hO
          have hcv := own_string (P := Tryd.prog) Tryd.underlying32 Tryd.underlying5 Tryd.underlying9 (Kd.own_of_R hO.row)
          rw [← HDVE.out] at hcv
          have HBE := Aside0.mk hO.kb
          clear hO O0 hlt hm HG
          go_wp2
          go_ret
          exact ⟨rfl, HBE.out⟩

end Go.Proofs.YtekplhhkbeemnaaDoor.Sha
