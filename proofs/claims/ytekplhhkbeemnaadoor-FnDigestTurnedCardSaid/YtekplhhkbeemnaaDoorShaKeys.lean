-- Written by a program of this session (sha.sh): no printed text.
import Derived.Test.YtekplhhkbeemnaaDoorProg
import Derived.Test.YtekplhhkbeemnaaDoorWWords
import Derived.Test.YtekplhhkbeemnaaDoorWLast
import Derived.Test.YtekplhhkbeemnaaDoorWTab
import Derived.Test.YtekplhhkbeemnaaDoorWFour
import Derived.Test.YtekplhhkbeemnaaDoorWQPut
import Derived.Test.YtekplhhkbeemnaaDoorWApart
import Derived.Test.YtekplhhkbeemnaaDoorWArr
import Derived.Test.YtekplhhkbeemnaaDoorWZeros
import Derived.Test.YtekplhhkbeemnaaDoorWFoot
import Derived.Test.YtekplhhkbeemnaaDoorWKept
import Derived.Test.YtekplhhkbeemnaaDoorWShare
import Derived.Test.YtekplhhkbeemnaaDoorWN
import Derived.Test.YtekplhhkbeemnaaDoorWFootNe
import Derived.Test.YtekplhhkbeemnaaDoorWAt
import Derived.Test.YtekplhhkbeemnaaDoorWEqStruct
import Derived.Test.YtekplhhkbeemnaaDoorWRepsOne
import Derived.Test.YtekplhhkbeemnaaDoorWInv
import Derived.Test.YtekplhhkbeemnaaDoorWInvWords
import Derived.Test.YtekplhhkbeemnaaDoorWGuard
import Derived.Test.YtekplhhkbeemnaaDoorWNEv
import Derived.Test.YtekplhhkbeemnaaDoorWMore
import Derived.Below
import Derived.Deep.Draws
import Derived.Deep.AppendLies
import Derived.Tactics
import Derived.Lib.ConvBytes
import Derived.Laws.Slices
import Derived.WalkKit
import Derived.StillTailTactics
import Derived.Laws.CopyOwn
import Derived.KernelRfl
import Derived.RowKit3
import Derived.Deep.LoopGhost
import Derived.Deep.QuietTactic
import Derived.BigQuiet
import Derived.WideLaws
import Derived.Deep.Onto
import Derived.Deep.WholeRow
import Derived.Laws.Rows
import Derived.Laws.IdiomStrings
import Derived.Laws.BitsLemmas
import Derived.Laws.NewBlocks
import Derived.WalkLawsBesides
import Derived.Test.YtekplhhkbeemnaaDoorShaWords
set_option linter.unusedVariables false
set_option linter.unusedSimpArgs false
namespace Go.Proofs.YtekplhhkbeemnaaDoor.Sha
open Go.RowKit Go.Proofs.YtekplhhkbeemnaaDoorW.PrintWords Go.Proofs.YtekplhhkbeemnaaDoorW.PrintLast
section
variable {P : Program}
theorem wpList_build_g {w : World} {ops : Array Oper} {rest : List Oper} {o : Oper} {a : Act} {Q : Exit → Act → World → Prop} (hgd : o.guard = none) (t : TypeId) (parts : Array (Nat × Operand)) (vals : Array (Nat × Value)) (v : Value) (ho : o.op = .build t parts)
    (hv : (parts.map fun (i, x) => (i, a.eval x)) = vals) (hrun : ∀ w_, (Instr.build t vals).run P w_ = .ok v w_) (hK : wpList P ops Q rest (a.put o.dst v) w) : wpList P ops Q (o :: rest) a w := by
  refine wpList_plain hgd fun K hK' => ?_
  unfold Oper.wp
  subst hv
  simp only [execOp, ho]
  rw [Sem.run_bind]
  erw [hrun]
  exact hK' _ _ hK
end
/-! ### spec.l03Keys: function 35 -/
def KEYS : List Int := [1116352408, 1899447441, 3049323471, 3921009573, 961987163, 1508970993, 2453635748, 2870763221, 3624381080, 310598401, 607225278, 1426881987, 1925078388, 2162078206, 2614888103, 3248222580, 3835390401, 4022224774, 264347078, 604807628, 770255983, 1249150122, 1555081692, 1996064986, 2554220882, 2821834349, 2952996808, 3210313671, 3336571891, 3584528711, 113926993, 338241895, 666307205, 773529912, 1294757372, 1396182291, 1695183700, 1986661051, 2177026350, 2456956037, 2730485921, 2820302411, 3259730800, 3345764771, 3516065817, 3600352804, 4094571909, 275423344, 430227734, 506948616, 659060556, 883997877, 958139571, 1322822218, 1537002063, 1747873779, 1955562222, 2024104815, 2227730452, 2361852424, 2428436474, 2756734187, 3204031479, 3329325298]
theorem keys_built : Tryd.prog.built 45 [(0, .int .u32 1116352408), (1, .int .u32 1899447441), (2, .int .u32 3049323471), (3, .int .u32 3921009573), (4, .int .u32 961987163), (5, .int .u32 1508970993), (6, .int .u32 2453635748), (7, .int .u32 2870763221), (8, .int .u32 3624381080), (9, .int .u32 310598401), (10, .int .u32 607225278), (11, .int .u32 1426881987), (12, .int .u32 1925078388), (13, .int .u32 2162078206), (14, .int .u32 2614888103), (15, .int .u32 3248222580), (16, .int .u32 3835390401), (17, .int .u32 4022224774), (18, .int .u32 264347078), (19, .int .u32 604807628), (20, .int .u32 770255983), (21, .int .u32 1249150122), (22, .int .u32 1555081692), (23, .int .u32 1996064986), (24, .int .u32 2554220882), (25, .int .u32 2821834349), (26, .int .u32 2952996808), (27, .int .u32 3210313671), (28, .int .u32 3336571891), (29, .int .u32 3584528711), (30, .int .u32 113926993), (31, .int .u32 338241895), (32, .int .u32 666307205), (33, .int .u32 773529912), (34, .int .u32 1294757372), (35, .int .u32 1396182291), (36, .int .u32 1695183700), (37, .int .u32 1986661051), (38, .int .u32 2177026350), (39, .int .u32 2456956037), (40, .int .u32 2730485921), (41, .int .u32 2820302411), (42, .int .u32 3259730800), (43, .int .u32 3345764771), (44, .int .u32 3516065817), (45, .int .u32 3600352804), (46, .int .u32 4094571909), (47, .int .u32 275423344), (48, .int .u32 430227734), (49, .int .u32 506948616), (50, .int .u32 659060556), (51, .int .u32 883997877), (52, .int .u32 958139571), (53, .int .u32 1322822218), (54, .int .u32 1537002063), (55, .int .u32 1747873779), (56, .int .u32 1955562222), (57, .int .u32 2024104815), (58, .int .u32 2227730452), (59, .int .u32 2361852424), (60, .int .u32 2428436474), (61, .int .u32 2756734187), (62, .int .u32 3204031479), (63, .int .u32 3329325298)] = some (u32c KEYS) := by kernel_rfl
theorem keys_parts (a : Act) : ((#[(0, Operand.const (.int .u32 1116352408)), (1, Operand.const (.int .u32 1899447441)), (2, Operand.const (.int .u32 3049323471)), (3, Operand.const (.int .u32 3921009573)), (4, Operand.const (.int .u32 961987163)), (5, Operand.const (.int .u32 1508970993)), (6, Operand.const (.int .u32 2453635748)), (7, Operand.const (.int .u32 2870763221)), (8, Operand.const (.int .u32 3624381080)), (9, Operand.const (.int .u32 310598401)), (10, Operand.const (.int .u32 607225278)), (11, Operand.const (.int .u32 1426881987)), (12, Operand.const (.int .u32 1925078388)), (13, Operand.const (.int .u32 2162078206)), (14, Operand.const (.int .u32 2614888103)), (15, Operand.const (.int .u32 3248222580)), (16, Operand.const (.int .u32 3835390401)), (17, Operand.const (.int .u32 4022224774)), (18, Operand.const (.int .u32 264347078)), (19, Operand.const (.int .u32 604807628)), (20, Operand.const (.int .u32 770255983)), (21, Operand.const (.int .u32 1249150122)), (22, Operand.const (.int .u32 1555081692)), (23, Operand.const (.int .u32 1996064986)), (24, Operand.const (.int .u32 2554220882)), (25, Operand.const (.int .u32 2821834349)), (26, Operand.const (.int .u32 2952996808)), (27, Operand.const (.int .u32 3210313671)), (28, Operand.const (.int .u32 3336571891)), (29, Operand.const (.int .u32 3584528711)), (30, Operand.const (.int .u32 113926993)), (31, Operand.const (.int .u32 338241895)), (32, Operand.const (.int .u32 666307205)), (33, Operand.const (.int .u32 773529912)), (34, Operand.const (.int .u32 1294757372)), (35, Operand.const (.int .u32 1396182291)), (36, Operand.const (.int .u32 1695183700)), (37, Operand.const (.int .u32 1986661051)), (38, Operand.const (.int .u32 2177026350)), (39, Operand.const (.int .u32 2456956037)), (40, Operand.const (.int .u32 2730485921)), (41, Operand.const (.int .u32 2820302411)), (42, Operand.const (.int .u32 3259730800)), (43, Operand.const (.int .u32 3345764771)), (44, Operand.const (.int .u32 3516065817)), (45, Operand.const (.int .u32 3600352804)), (46, Operand.const (.int .u32 4094571909)), (47, Operand.const (.int .u32 275423344)), (48, Operand.const (.int .u32 430227734)), (49, Operand.const (.int .u32 506948616)), (50, Operand.const (.int .u32 659060556)), (51, Operand.const (.int .u32 883997877)), (52, Operand.const (.int .u32 958139571)), (53, Operand.const (.int .u32 1322822218)), (54, Operand.const (.int .u32 1537002063)), (55, Operand.const (.int .u32 1747873779)), (56, Operand.const (.int .u32 1955562222)), (57, Operand.const (.int .u32 2024104815)), (58, Operand.const (.int .u32 2227730452)), (59, Operand.const (.int .u32 2361852424)), (60, Operand.const (.int .u32 2428436474)), (61, Operand.const (.int .u32 2756734187)), (62, Operand.const (.int .u32 3204031479)), (63, Operand.const (.int .u32 3329325298))] : Array (Nat × Operand)).map fun (i, x) => (i, a.eval x)) = #[(0, .int .u32 1116352408), (1, .int .u32 1899447441), (2, .int .u32 3049323471), (3, .int .u32 3921009573), (4, .int .u32 961987163), (5, .int .u32 1508970993), (6, .int .u32 2453635748), (7, .int .u32 2870763221), (8, .int .u32 3624381080), (9, .int .u32 310598401), (10, .int .u32 607225278), (11, .int .u32 1426881987), (12, .int .u32 1925078388), (13, .int .u32 2162078206), (14, .int .u32 2614888103), (15, .int .u32 3248222580), (16, .int .u32 3835390401), (17, .int .u32 4022224774), (18, .int .u32 264347078), (19, .int .u32 604807628), (20, .int .u32 770255983), (21, .int .u32 1249150122), (22, .int .u32 1555081692), (23, .int .u32 1996064986), (24, .int .u32 2554220882), (25, .int .u32 2821834349), (26, .int .u32 2952996808), (27, .int .u32 3210313671), (28, .int .u32 3336571891), (29, .int .u32 3584528711), (30, .int .u32 113926993), (31, .int .u32 338241895), (32, .int .u32 666307205), (33, .int .u32 773529912), (34, .int .u32 1294757372), (35, .int .u32 1396182291), (36, .int .u32 1695183700), (37, .int .u32 1986661051), (38, .int .u32 2177026350), (39, .int .u32 2456956037), (40, .int .u32 2730485921), (41, .int .u32 2820302411), (42, .int .u32 3259730800), (43, .int .u32 3345764771), (44, .int .u32 3516065817), (45, .int .u32 3600352804), (46, .int .u32 4094571909), (47, .int .u32 275423344), (48, .int .u32 430227734), (49, .int .u32 506948616), (50, .int .u32 659060556), (51, .int .u32 883997877), (52, .int .u32 958139571), (53, .int .u32 1322822218), (54, .int .u32 1537002063), (55, .int .u32 1747873779), (56, .int .u32 1955562222), (57, .int .u32 2024104815), (58, .int .u32 2227730452), (59, .int .u32 2361852424), (60, .int .u32 2428436474), (61, .int .u32 2756734187), (62, .int .u32 3204031479), (63, .int .u32 3329325298)] := by kernel_rfl
set_option maxHeartbeats 8000000 in
set_option maxRecDepth 1000000 in
theorem keys_walk (w : World) : Calls Tryd.prog 35 #[] w fun e w' => e = .returned (.agg (u32c KEYS)) ∧ Below w.heap.size w w' := by
  obtain ⟨Z, hZ⟩ : ∃ Z, u32c (List.replicate 64 0) = Z := ⟨_, rfl⟩
  have hal : ∀ w_ : World, (Instr.alloc 45 true (.tuple #[])).run Tryd.prog w_ = .ok (.pointer (some ⟨w_.heap.size, 0, none⟩)) (w_.alloc (.cells Z 45)) := fun w_ => by rw [← hZ]; kernel_rfl
  have hst : (Instr.storeAt 45 (.pointer (some ⟨w.heap.size, 0, none⟩)) (.agg (u32c KEYS))).run Tryd.prog (w.alloc (.cells Z 45)) = .ok () (w.alloc (.cells (u32c KEYS) 45)) := by
    rw [← hZ]
    exact run_storeAt_new w 45 _ _ (by kernel_rfl) (by kernel_rfl) (by kernel_rfl)
  have hres : (w.alloc (.cells (u32c KEYS) 45)).heap[w.heap.size]? = some (.cells (u32c KEYS) 45 (0, 0)) := heap_alloc_new w _
  have hbld : ∀ w_, (Instr.build 45 #[(0, .int .u32 1116352408), (1, .int .u32 1899447441), (2, .int .u32 3049323471), (3, .int .u32 3921009573), (4, .int .u32 961987163), (5, .int .u32 1508970993), (6, .int .u32 2453635748), (7, .int .u32 2870763221), (8, .int .u32 3624381080), (9, .int .u32 310598401), (10, .int .u32 607225278), (11, .int .u32 1426881987), (12, .int .u32 1925078388), (13, .int .u32 2162078206), (14, .int .u32 2614888103), (15, .int .u32 3248222580), (16, .int .u32 3835390401), (17, .int .u32 4022224774), (18, .int .u32 264347078), (19, .int .u32 604807628), (20, .int .u32 770255983), (21, .int .u32 1249150122), (22, .int .u32 1555081692), (23, .int .u32 1996064986), (24, .int .u32 2554220882), (25, .int .u32 2821834349), (26, .int .u32 2952996808), (27, .int .u32 3210313671), (28, .int .u32 3336571891), (29, .int .u32 3584528711), (30, .int .u32 113926993), (31, .int .u32 338241895), (32, .int .u32 666307205), (33, .int .u32 773529912), (34, .int .u32 1294757372), (35, .int .u32 1396182291), (36, .int .u32 1695183700), (37, .int .u32 1986661051), (38, .int .u32 2177026350), (39, .int .u32 2456956037), (40, .int .u32 2730485921), (41, .int .u32 2820302411), (42, .int .u32 3259730800), (43, .int .u32 3345764771), (44, .int .u32 3516065817), (45, .int .u32 3600352804), (46, .int .u32 4094571909), (47, .int .u32 275423344), (48, .int .u32 430227734), (49, .int .u32 506948616), (50, .int .u32 659060556), (51, .int .u32 883997877), (52, .int .u32 958139571), (53, .int .u32 1322822218), (54, .int .u32 1537002063), (55, .int .u32 1747873779), (56, .int .u32 1955562222), (57, .int .u32 2024104815), (58, .int .u32 2227730452), (59, .int .u32 2361852424), (60, .int .u32 2428436474), (61, .int .u32 2756734187), (62, .int .u32 3204031479), (63, .int .u32 3329325298)]).run Tryd.prog w_ = .ok (.agg (u32c KEYS)) w_ := fun w_ => run_build w_ 45 _ _ keys_built
  obtain ⟨K, hK⟩ : ∃ K, u32c KEYS = K := ⟨_, rfl⟩
  have hi : (Tryd.prog.info? 45).map (·.size) = some K.size := by rw [← hK]; kernel_rfl
  rw [hK] at hst hres hbld ⊢
  have HAL := Aside0.mk hal
  have HST := Aside0.mk hst
  have HRS := Aside0.mk hres
  have HBL := Aside0.mk hbld
  have HI := Aside0.mk hi
  clear hal hst hres hbld hi hK hZ
  go_enter Tryd.func35, Tryd.ntmps35
  go_upto_region 1 with (refine wpList_alloc_f _ _ rfl 45 _ rfl (HAL.out _) ?_)
  simp only [Act.put, List.setIfInBounds_toArray, List.set_cons_zero, List.set_cons_succ]
  go_wp2_with (first | (refine wpList_build_g rfl 45 _ _ _ rfl (keys_parts _) HBL.out ?_) | (refine wpList_store_f _ _ rfl 45 _ _ _ _ rfl rfl rfl rfl HST.out ?_))
  exact bodyPost_ret (v := .agg K) (results_cell_row Tryd.results35 _ _ w.heap.size 45 K (0, 0) _ rfl HRS.out Tryd.underlying45 rfl HI.out) rfl ⟨rfl, below_alloc (Below.refl _ _) _⟩

end Go.Proofs.YtekplhhkbeemnaaDoor.Sha
