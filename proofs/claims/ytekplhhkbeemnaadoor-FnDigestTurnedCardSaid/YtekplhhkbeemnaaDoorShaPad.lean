-- Written by a program of this session (sha.sh): no printed text.
import Derived.Test.YtekplhhkbeemnaaDoorProg
import Derived.Test.YtekplhhkbeemnaaDoorWWords
import Derived.Test.YtekplhhkbeemnaaDoorWLast
import Derived.Test.YtekplhhkbeemnaaDoorWTab
import Derived.Test.YtekplhhkbeemnaaDoorWFour
import Derived.Test.YtekplhhkbeemnaaDoorWQPut
import Derived.Test.YtekplhhkbeemnaaDoorWApart
import Derived.Test.YtekplhhkbeemnaaDoorWArr
import Derived.Test.YtekplhhkbeemnaaDoorWZeros
import Derived.Test.YtekplhhkbeemnaaDoorWFoot
import Derived.Test.YtekplhhkbeemnaaDoorWKept
import Derived.Test.YtekplhhkbeemnaaDoorWShare
import Derived.Test.YtekplhhkbeemnaaDoorWN
import Derived.Test.YtekplhhkbeemnaaDoorWFootNe
import Derived.Test.YtekplhhkbeemnaaDoorWAt
import Derived.Test.YtekplhhkbeemnaaDoorWEqStruct
import Derived.Test.YtekplhhkbeemnaaDoorWRepsOne
import Derived.Test.YtekplhhkbeemnaaDoorWInv
import Derived.Test.YtekplhhkbeemnaaDoorWInvWords
import Derived.Test.YtekplhhkbeemnaaDoorWGuard
import Derived.Test.YtekplhhkbeemnaaDoorWNEv
import Derived.Test.YtekplhhkbeemnaaDoorWMore
import Derived.Below
import Derived.Deep.Draws
import Derived.Deep.AppendLies
import Derived.Tactics
import Derived.Lib.ConvBytes
import Derived.Laws.Slices
import Derived.WalkKit
import Derived.KernelRfl
import Derived.RowKit3
import Derived.Deep.LoopGhost
import Derived.Deep.QuietTactic
import Derived.BigQuiet
import Derived.WideLaws
import Derived.Deep.Onto
import Derived.Deep.WholeRow
import Derived.Laws.Rows
import Derived.Laws.IdiomStrings
import Derived.Laws.BitsLemmas
import Derived.Laws.NewBlocks
import Derived.WalkLawsBesides
set_option linter.unusedVariables false
set_option linter.unusedSimpArgs false
namespace Go.Proofs.YtekplhhkbeemnaaDoor.Sha
open Go.RowKit Go.Proofs.YtekplhhkbeemnaaDoorW.PrintWords Go.Proofs.YtekplhhkbeemnaaDoorW.PrintLast
/-! ### A row of bytes that was made of a text (its block bears a mark behind the row), or one of the call's own: appended to, one byte at a time -/
def u8s (l : List Int) : List Value := l.map (Value.int .u8)
theorem u8s_len (l : List Int) : (u8s l).length = l.length := List.length_map _
theorem u8s_app (l m : List Int) : u8s (l ++ m) = u8s l ++ u8s m := List.map_append
structure Mk (W w : World) (C : Nat) (v : Value) (ns : List Int) : Prop where
  bel : Below W.heap.size W w
  val : (∃ cur lo hi, v = .slice (some ⟨W.heap.size, 0, none⟩) ns.length C ∧ ns.length ≤ C ∧ w.heap[W.heap.size]? = some (.cells cur 5 (lo, hi)) ∧ cur.size = C ∧ C ≤ lo ∧ cur.toList.take ns.length = u8s ns) ∨ w.ownsRow W.heap.size 5 1 v ns.length (u8s ns)
section
variable {W w : World} {C : Nat} {v : Value} {ns : List Int}
theorem Mk.start (s : ByteArray) (w : World) (C : Nat) (hC : s.size ≤ C) : Mk w (w.drew.alloc (.cells (bytesRow s C) 5 ((bytesRow s C).size, (bytesRow s C).size + 1))) C (.slice (some ⟨w.heap.size, 0, none⟩) s.size C) (bytesOf s) := by
  have hz : (bytesRow s C).size = C := by
    unfold bytesRow
    rw [Array.size_append, Array.size_map, Array.size_replicate]
    show s.data.size + (C - s.data.size) = C
    have : s.data.size ≤ C := hC
    omega
  refine ⟨below_alloc (below_drew1 (Below.refl _ _)) _, .inl ⟨bytesRow s C, _, _, by rw [bytesOf_length], by rw [bytesOf_length]; exact hC, heap_alloc_new w.drew _, hz, by omega, ?_⟩⟩
  rw [bytesOf_length]
  unfold u8s bytesOf bytesRow
  rw [Array.toList_append, List.take_append_of_le_length (by rw [Array.length_toList, Array.size_map]; exact Nat.le_refl _), List.take_of_length_le (by rw [Array.length_toList, Array.size_map]; exact Nat.le_refl _), Array.toList_map, List.map_map]
  rfl
theorem Mk.slice (h : Mk W w C v ns) : ∃ A c, v = .slice A ns.length c := by
  rcases h.val with ⟨_, _, _, rfl, _⟩ | ho
  · exact ⟨_, _, rfl⟩
  · rcases ho.2 with ⟨rfl, h0⟩ | ⟨g, cap, cur, rfl, _⟩
    · rw [h0]; exact ⟨_, _, rfl⟩
    · exact ⟨_, _, rfl⟩
theorem Mk.alloc (h : Mk W w C v ns) (o : Obj) : Mk W (w.alloc o) C v ns := by
  refine ⟨below_alloc h.bel _, ?_⟩
  rcases h.val with ⟨cur, lo, hi, rfl, h1, h2, h3⟩ | ho
  · exact .inl ⟨cur, lo, hi, rfl, h1, (Below.heap_alloc w o _ (Array.getElem?_eq_some_iff.1 h2).1).trans h2, h3⟩
  · exact .inr (ho.alloc o)
theorem Mk.cells (h : Mk W w C v ns) (hn : 0 < ns.length) : ∃ g o c, v = .slice (some ⟨g, o, none⟩) ns.length c ∧ ∀ j, j < ns.length → w.cell? ⟨g, o + j, none⟩ = some (.int .u8 (ns.getD j 0)) := by
  have key : ∀ (cur : Array Value) (j : Nat), j < ns.length → cur.toList.take ns.length = u8s ns → cur[j]? = some (.int .u8 (ns.getD j 0)) := fun cur j hj ht => by
    have h1 : (cur.toList.take ns.length)[j]? = (u8s ns)[j]? := by rw [ht]
    rw [List.getElem?_take, if_pos hj, Array.getElem?_toList] at h1
    rw [h1]
    unfold u8s
    rw [List.getElem?_map, List.getElem?_eq_getElem hj, List.getD_eq_getElem?_getD, List.getElem?_eq_getElem hj]
    rfl
  rcases h.val with ⟨cur, lo, hi, rfl, h1, h2, h3, h4, h5⟩ | ho
  · exact ⟨_, 0, _, rfl, fun j hj => by rw [Nat.zero_add, cell_of_row w _ j cur 5 _ h2]; exact key cur j hj h5⟩
  · rcases ho.2 with ⟨rfl, h0⟩ | ⟨g, cap, cur, rfl, _, hh, _, _, _, ht⟩
    · omega
    · rw [Nat.mul_one] at ht
      exact ⟨g, 0, cap, rfl, fun j hj => by rw [Nat.zero_add, cell_of_row w _ j cur 5 _ hh]; exact key cur j hj ht⟩
theorem Mk.string {P : Program} (t : TypeId) (hs : P.underlying t = some (.slice 5)) (he : P.underlying 5 = some (.int .u8)) (h : Mk W w C v ns) (hn : 0 < ns.length) :
    ∀ dst, P.underlying dst = some .string → (convert t dst v).run P w = .ok (.string (strOfNums ns)) w := by
  obtain ⟨g, o, c, rfl, hc⟩ := h.cells hn
  exact run_convert_bytes_arg (P := P) w t 5 hs he g o ns.length c ns rfl hc
end
theorem one_new (W : World) (u : Value) (t : TypeId) : ∀ j x, [u][j]? = some x → (W.alloc (.cells #[u] t)).cell? ((⟨W.heap.size, 0, none⟩ : Addr).add j) = some x := by
  intro j x h
  have hj : j = 0 := by
    have := (List.getElem?_eq_some_iff.1 h).1
    simpa using this
  subst hj
  have hx : u = x := by simpa using h
  subst hx
  show (W.alloc (.cells #[u] t)).cell? ⟨W.heap.size, 0, none⟩ = some u
  rw [cell_of_row _ W.heap.size 0 #[u] t (0, 0) (heap_alloc_new W _)]
  rfl
section
variable {P : Program}
theorem run_append_mk {W w : World} {C : Nat} {v : Value} {ns : List Int} (t ty : TypeId) (i : TypeInfo) (ht : P.underlying t = some (.slice 5)) (hi : P.info? 5 = some i) (hz : i.zero = some (.int .u8 0)) (hsz : i.size = 1) (hby : i.bytes = 1)
    (h : Mk W w C v ns) (ad : Addr) (c : Nat) (x : Int) (hnew : ∀ j u, [Value.int .u8 x][j]? = some u → w.cell? (ad.add j) = some u) (hlen : ns.length + 1 ≤ 140737488355328) :
    ∃ v' w', (Builtin.append_ #[t, t] ty #[v, .slice (some ad) 1 c]).run P w = .ok v' w' ∧ Mk W w' C v' (ns ++ [x]) := by
  have h1 : ∀ u ∈ [Value.int .u8 x], u.oneCell' = true := fun u hu => by obtain rfl := List.mem_singleton.1 hu; rfl
  have hWw := h.bel.size
  have hl2 : (ns ++ [x]).length = ns.length + 1 := by simp
  have hu2 : u8s (ns ++ [x]) = u8s ns ++ [Value.int .u8 x] := u8s_app ns [x]
  rcases h.val with ⟨cur, lo, hi', rfl, hle, hh, hcs, hlo, htk⟩ | ho
  · by_cases hr : ns.length + 1 ≤ C
    · have hrun := run_append_room_cells (P := P) w t ty 5 i ht hi W.heap.size 0 ns.length C ad 1 c [Value.int .u8 x] (by rw [hsz]; rfl) hnew h1 hr
        (fun j hj => by
          have hj0 : j = 0 := by simpa using hj
          subst hj0
          rw [cell_of_row w _ _ cur 5 _ hh, hsz]
          simp; omega)
        (fun j hj => by
          have hj0 : j = 0 := by simpa using hj
          subst hj0
          unfold World.frozen?
          simp only [hh, hsz]
          simp; omega)
      refine ⟨_, _, hrun, ?_⟩
      have hset : w.setCells W.heap.size (0 + ns.length * i.size) [Value.int .u8 x] = w.setRow W.heap.size (cur.setIfInBounds ns.length (.int .u8 x)) := by
        rw [hsz, Nat.mul_one, Nat.zero_add]
        show (w.setCell ⟨W.heap.size, ns.length, none⟩ (.int .u8 x)) = _
        exact setCell_eq_setRow w _ _ cur 5 _ _ hh
      rw [hset]
      refine ⟨?_, .inl ⟨cur.setIfInBounds ns.length (.int .u8 x), lo, hi', by rw [hl2], by rw [hl2]; exact hr, setRow_heap w _ cur _ 5 _ hh, by simp [hcs], hlo, ?_⟩⟩
      · refine ⟨h.bel.os, h.bel.tape, h.bel.output, by rw [size_setRow]; exact hWw, fun k hk => (setRow_other w _ k _ (by omega)).trans (h.bel.block k hk)⟩
      · rw [hl2, hu2, ← htk, Array.toList_setIfInBounds]
        have hlt : ns.length < cur.toList.length := by have e : cur.toList.length = cur.size := Array.length_toList; omega
        rw [List.take_succ_eq_append_getElem (by rw [List.length_set]; exact hlt), List.take_set_of_le (Nat.le_refl _), List.getElem_set_self]
    · have holds : ∀ j u, (u8s ns)[j]? = some u → w.cell? ((⟨W.heap.size, 0, none⟩ : Addr).add j) = some u := by
        intro j u hu
        rw [Addr.add_lit, Nat.zero_add, cell_of_row w _ j cur 5 _ hh]
        rw [← htk, List.getElem?_take] at hu
        split at hu
        · rwa [Array.getElem?_toList] at hu
        · cases hu
      obtain ⟨v', w', hrun, r1, r2⟩ := run_append_arg_grows (P := P) w t ty 5 i (.int .u8 0) 1 1 ht hi hz hsz hby rfl (by decide) ⟨W.heap.size, 0, none⟩ ns.length C (u8s ns) (by rw [u8s_len, Nat.mul_one]) holds ad 1 c [Value.int .u8 x] rfl hnew (by omega) (by unfold maxLen; omega) (by omega)
      refine ⟨v', w', hrun, h.bel.grown r2 hWw (fun k hk => by cases hk), .inr ?_⟩
      rw [hl2, hu2]
      exact r1.mono hWw
  · obtain ⟨v', w', hrun, r1, r2, _⟩ := run_append_own (P := P) w W.heap.size t ty 5 i (.int .u8 0) 1 1 ht hi hz hsz hby rfl (by decide) v ns.length (u8s ns) ho ad 1 c [Value.int .u8 x] rfl hnew h1 (by unfold maxLen; omega) (by omega) hWw
    refine ⟨v', w', hrun, h.bel.grown r2 hWw (fun k hk => (ho.lt k hk).1), .inr ?_⟩
    rw [hl2, hu2]
    exact r1
theorem wpList_append_mk (w : World) {ops : Array Oper} {rest : List Oper} {o : Oper} {a : Act} {Q : Exit → Act → World → Prop} (hgd : o.guard = none) (s x : Operand) (t : TypeId)
    (ho : o.op = .call { callee := .builtin .append, args := #[s, x], argTypes := #[t, t] })
    (i : TypeInfo) (ht : P.underlying t = some (.slice 5)) (hi : P.info? 5 = some i) (hz : i.zero = some (.int .u8 0)) (hsz : i.size = 1) (hby : i.bytes = 1)
    {W : World} {C : Nat} {v : Value} {ns : List Int} (hs : a.eval s = v) (h : Mk W w C v ns) (ad : Addr) (c : Nat) (y : Int) (hx : a.eval x = .slice (some ad) 1 c) (hnew : ∀ j u, [Value.int .u8 y][j]? = some u → w.cell? (ad.add j) = some u)
    (hlen : ns.length + 1 ≤ 140737488355328) (hK : ∀ v' w', Mk W w' C v' (ns ++ [y]) → wpList P ops Q rest (a.put o.dst v') w') : wpList P ops Q (o :: rest) a w := by
  refine wpList_plain hgd fun K hK' => ?_
  obtain ⟨v', w', hrun, r⟩ := run_append_mk (P := P) t o.type i ht hi hz hsz hby h ad c y hnew hlen
  unfold Oper.wp
  simp [execOp, ho, resolve, invoke, builtin, hs, hx, hrun, Result.andThen]
  exact hK' _ _ (hK v' w' r)
end
def padZ (n : Nat) : Nat := (119 - n % 64) % 64
def padE (n : Nat) : List Int := [((8 * n / 72057594037927936 % 256 : Nat) : Int), ((8 * n / 281474976710656 % 256 : Nat) : Int), ((8 * n / 1099511627776 % 256 : Nat) : Int), ((8 * n / 4294967296 % 256 : Nat) : Int), ((8 * n / 16777216 % 256 : Nat) : Int), ((8 * n / 65536 % 256 : Nat) : Int), ((8 * n / 256 % 256 : Nat) : Int), ((8 * n % 256 : Nat) : Int)]
/-- What is padded: the text's bytes, 128, zeros, the length in bits. -/
def padB (s : ByteArray) (j : Nat) : List Int := bytesOf s ++ (128 :: List.replicate j 0)
def padL (s : ByteArray) : List Int := padB s (padZ s.size) ++ padE s.size
def padV (s : ByteArray) : ByteArray := strOfNums (padL s)
theorem padB_len (s : ByteArray) (j : Nat) : (padB s j).length = s.size + (1 + j) := by simp [padB, bytesOf_length]; omega
theorem padB_more (s : ByteArray) (j : Nat) : padB s (j + 1) = padB s j ++ [0] := by simp [padB, List.replicate_succ']
theorem padZ_lt (n : Nat) : padZ n < 64 := Nat.mod_lt _ (by decide)
theorem padZ_more (n j : Nat) (h : j < padZ n) : (n + (1 + j)) % 64 ≠ 56 := by unfold padZ at h; omega
theorem padZ_done (n : Nat) : (n + (1 + padZ n)) % 64 = 56 := by unfold padZ; omega
theorem pad_info : (Tryd.prog.info? 5).map (fun i => (i.zero, i.size, i.bytes)) = some (some (.int .u8 0), 1, 1) := by kernel_rfl
set_option maxHeartbeats 8000000 in
set_option maxRecDepth 100000 in
theorem spec_PadText_walk (s : ByteArray) (w : World) (hs : s.size ≤ 1099511627776) : Calls Tryd.prog 40 #[.string s] w fun e w' => e = .returned (.string (padV s)) ∧ Below w.heap.size w w' := by
  obtain ⟨i0, hi, hz0, hz1, hz2⟩ := info_parts pad_info
  obtain ⟨C, hC⟩ : ∃ C, C = grownCap w s.size 0 5 := ⟨_, rfl⟩
  have hCn : s.size ≤ C := by rw [hC]; exact grownCap_ge w s.size 0 5
  have hcv : (convert 9 32 (.string s)).run Tryd.prog w = .ok (.slice (some ⟨w.heap.size, 0, none⟩) s.size C) (w.drew.alloc (.cells (bytesRow s C) 5 ((bytesRow s C).size, (bytesRow s C).size + 1))) := by
    rw [hC]
    exact run_bytes_of_string (P := Tryd.prog) w 9 32 5 s Tryd.underlying9 Tryd.underlying32 Tryd.underlying5
  have hmk := Mk.start s w C hCn
  generalize w.drew.alloc (.cells (bytesRow s C) 5 ((bytesRow s C).size, (bytesRow s C).size + 1)) = W1 at hcv hmk
  obtain ⟨b0, hb0⟩ : ∃ b0, w.heap.size = b0 := ⟨_, rfl⟩
  rw [hb0] at hcv
  have HM := Aside0.mk (show Mk w W1 C (.slice (some ⟨b0, 0, none⟩) s.size C) (bytesOf s) by rw [← hb0]; exact hmk)
  have HB0 := Aside0.mk hb0
  clear hmk hb0 hC hCn
  go_enter Tryd.func40, Tryd.ntmps40
  go_wp2_with (at_builtin; refine wpList_append_mk _ rfl (.tmp 8) (.tmp 9) 32 rfl i0 Tryd.underlying32 hi hz0 hz1 hz2 rfl (HM.out.alloc _) ⟨W1.heap.size, 0, none⟩ 1 128 rfl ?c1 ?c2 ?c3)
  case c1 => exact one_new _ _ _
  case c2 => rw [bytesOf_length]; omega
  intro v1 w1 hm
  have HO := Aside0.mk (show Mk w w1 C v1 (padB s 0) from hm)
  clear hm HM
  go_wp2
  go_loopg [3] (padZ s.size) (fun g v wr => Aside0 (∃ j, j ≤ padZ s.size ∧ g = padZ s.size - j ∧ Mk w wr C v (padB s j)))
  case atStart => exact ⟨0, Nat.zero_le _, rfl, HO.out⟩
  case round =>
    clear HO
    obtain ⟨j, hj, hg, ho⟩ := hrel.out
    clear hrel
    obtain ⟨A1, c1, rfl⟩ := ho.slice
    have hln := padB_len s j
    have hz := padZ_lt s.size
    obtain ⟨L, hL⟩ : ∃ L : Nat, (padB s j).length = L := ⟨_, rfl⟩
    rw [hL] at ho
    rw [hL]
    have HG := Aside0.mk hg
    have HO := Aside0.mk ho
    have HL := Aside0.mk hL
    have hLb : L ≤ 1099511627900 := by omega
    by_cases hlt : j < padZ s.size
    · have hne := padZ_more s.size j hlt
      have HLT := Aside0.mk hlt
      have e1 : (((L : Int) % 64) != 56) = true := bne_iff_ne.2 (by omega)
      clear hne hL hlt hg ho hj hz hln
      go_wp2_with (at_builtin; refine wpList_append_mk _ rfl (.tmp 15) (.tmp 16) 32 rfl i0 Tryd.underlying32 hi hz0 hz1 hz2 rfl (HO.out.alloc _) ⟨wr.heap.size, 0, none⟩ 1 0 rfl ?d1 ?d2 ?d3)
      case d1 => exact one_new _ _ _
      case d2 => rw [HL.out]; omega
      case d3 =>
        intro v2 w2 hm
        have HO2 := Aside0.mk (show Mk w w2 C v2 (padB s (j + 1)) by rw [padB_more]; exact hm)
        clear hm
        go_wp2
        go_roundg (padZ s.size - (j + 1))
        case measure => have := HG.out; have := HLT.out; omega
        case rel => exact ⟨⟨j + 1, HLT.out, rfl, HO2.out⟩⟩
    · have hne := padZ_done s.size
      have hjz : j = padZ s.size := by omega
      have HJZ := Aside0.mk hjz
      have e1 : (((L : Int) % 64) != 56) = false := by
        have h56 : (L : Int) % 64 = 56 := by rw [← hjz] at hne; omega
        rw [h56]; rfl
      clear hne hL hlt hg ho hj hz hjz hln
      have HO3 := Aside0.mk (show Mk w wr C (.slice A1 L c1) (padB s j ++ (padE s.size).take 0) by rw [List.take_zero, List.append_nil]; exact HO.out)
      clear HO
      go_wp2
      clear e1
      go_loopg [3, 5] 8 (fun g v i wr => Aside0 (∃ m : Nat, m ≤ 8 ∧ g = 8 - m ∧ i = .int .i64 ((7 : Int) - m) ∧ Mk w wr C v (padB s j ++ (padE s.size).take m)))
      case atStart => exact ⟨0, by omega, rfl, rfl, HO3.out⟩
      case round =>
        clear HO3
        obtain ⟨m, hm, hg, rfl, ho⟩ := hrel.out
        clear hrel
        have HG2 := Aside0.mk hg
        obtain ⟨A2, c2, rfl⟩ := ho.slice
        obtain ⟨L2, hL2⟩ : ∃ L2 : Nat, (padB s j ++ (padE s.size).take m).length = L2 := ⟨_, rfl⟩
        rw [hL2] at ho
        rw [hL2]
        have hLb2 : L2 ≤ 1099511628000 := by
          rw [← hL2, List.length_append, HL.out, List.length_take]
          omega
        have HL2 := Aside0.mk hL2
        have HO4 := Aside0.mk ho
        clear ho hL2 hg
        have hcases : m = 0 ∨ m = 1 ∨ m = 2 ∨ m = 3 ∨ m = 4 ∨ m = 5 ∨ m = 6 ∨ m = 7 ∨ m = 8 := by omega
        clear hm
        rcases hcases with rfl | rfl | rfl | rfl | rfl | rfl | rfl | rfl | rfl
        · go_wp2_with (at_builtin; refine wpList_append_mk _ rfl (.tmp 25) (.tmp 32) 32 rfl i0 Tryd.underlying32 hi hz0 hz1 hz2 rfl (HO4.out.alloc _) ⟨wr.heap.size, 0, none⟩ 1 _ rfl (one_new _ _ _) ?_ ?_)
          · rw [HL2.out]; omega
          · intro v2 w2 hm
            have HO5 : Aside0 (Mk w w2 C v2 (padB s j ++ (padE s.size).take 1)) := ⟨by
              refine cast (congrArg (Mk w w2 C v2) ?_) hm
              first | rw [List.append_assoc] | skip
              refine congrArg (padB s j ++ ·) ?_
              simp only [padE, List.take_succ_cons, List.take_zero, List.cons_append, List.nil_append]
              have hs' := hs
              first | rfl | (congr 1; omega) | (congr 2; omega) | (congr 3; omega) | (congr 4; omega) | (congr 5; omega) | (congr 6; omega) | (congr 7; omega) | (congr 8; omega)⟩
            clear hm
            go_wp2
            go_roundg 7
            case measure => have := HG2.out; omega
            case rel => exact ⟨⟨1, by omega, rfl, rfl, HO5.out⟩⟩
        · go_wp2_with (at_builtin; refine wpList_append_mk _ rfl (.tmp 25) (.tmp 32) 32 rfl i0 Tryd.underlying32 hi hz0 hz1 hz2 rfl (HO4.out.alloc _) ⟨wr.heap.size, 0, none⟩ 1 _ rfl (one_new _ _ _) ?_ ?_)
          · rw [HL2.out]; omega
          · intro v2 w2 hm
            have HO5 : Aside0 (Mk w w2 C v2 (padB s j ++ (padE s.size).take 2)) := ⟨by
              refine cast (congrArg (Mk w w2 C v2) ?_) hm
              first | rw [List.append_assoc] | skip
              refine congrArg (padB s j ++ ·) ?_
              simp only [padE, List.take_succ_cons, List.take_zero, List.cons_append, List.nil_append]
              have hs' := hs
              first | rfl | (congr 1; omega) | (congr 2; omega) | (congr 3; omega) | (congr 4; omega) | (congr 5; omega) | (congr 6; omega) | (congr 7; omega) | (congr 8; omega)⟩
            clear hm
            go_wp2
            go_roundg 6
            case measure => have := HG2.out; omega
            case rel => exact ⟨⟨2, by omega, rfl, rfl, HO5.out⟩⟩
        · go_wp2_with (at_builtin; refine wpList_append_mk _ rfl (.tmp 25) (.tmp 32) 32 rfl i0 Tryd.underlying32 hi hz0 hz1 hz2 rfl (HO4.out.alloc _) ⟨wr.heap.size, 0, none⟩ 1 _ rfl (one_new _ _ _) ?_ ?_)
          · rw [HL2.out]; omega
          · intro v2 w2 hm
            have HO5 : Aside0 (Mk w w2 C v2 (padB s j ++ (padE s.size).take 3)) := ⟨by
              refine cast (congrArg (Mk w w2 C v2) ?_) hm
              first | rw [List.append_assoc] | skip
              refine congrArg (padB s j ++ ·) ?_
              simp only [padE, List.take_succ_cons, List.take_zero, List.cons_append, List.nil_append]
              have hs' := hs
              first | rfl | (congr 1; omega) | (congr 2; omega) | (congr 3; omega) | (congr 4; omega) | (congr 5; omega) | (congr 6; omega) | (congr 7; omega) | (congr 8; omega)⟩
            clear hm
            go_wp2
            go_roundg 5
            case measure => have := HG2.out; omega
            case rel => exact ⟨⟨3, by omega, rfl, rfl, HO5.out⟩⟩
        · go_wp2_with (at_builtin; refine wpList_append_mk _ rfl (.tmp 25) (.tmp 32) 32 rfl i0 Tryd.underlying32 hi hz0 hz1 hz2 rfl (HO4.out.alloc _) ⟨wr.heap.size, 0, none⟩ 1 _ rfl (one_new _ _ _) ?_ ?_)
          · rw [HL2.out]; omega
          · intro v2 w2 hm
            have HO5 : Aside0 (Mk w w2 C v2 (padB s j ++ (padE s.size).take 4)) := ⟨by
              refine cast (congrArg (Mk w w2 C v2) ?_) hm
              first | rw [List.append_assoc] | skip
              refine congrArg (padB s j ++ ·) ?_
              simp only [padE, List.take_succ_cons, List.take_zero, List.cons_append, List.nil_append]
              have hs' := hs
              first | rfl | (congr 1; omega) | (congr 2; omega) | (congr 3; omega) | (congr 4; omega) | (congr 5; omega) | (congr 6; omega) | (congr 7; omega) | (congr 8; omega)⟩
            clear hm
            go_wp2
            go_roundg 4
            case measure => have := HG2.out; omega
            case rel => exact ⟨⟨4, by omega, rfl, rfl, HO5.out⟩⟩
        · go_wp2_with (at_builtin; refine wpList_append_mk _ rfl (.tmp 25) (.tmp 32) 32 rfl i0 Tryd.underlying32 hi hz0 hz1 hz2 rfl (HO4.out.alloc _) ⟨wr.heap.size, 0, none⟩ 1 _ rfl (one_new _ _ _) ?_ ?_)
          · rw [HL2.out]; omega
          · intro v2 w2 hm
            have HO5 : Aside0 (Mk w w2 C v2 (padB s j ++ (padE s.size).take 5)) := ⟨by
              refine cast (congrArg (Mk w w2 C v2) ?_) hm
              first | rw [List.append_assoc] | skip
              refine congrArg (padB s j ++ ·) ?_
              simp only [padE, List.take_succ_cons, List.take_zero, List.cons_append, List.nil_append]
              have hs' := hs
              first | rfl | (congr 1; omega) | (congr 2; omega) | (congr 3; omega) | (congr 4; omega) | (congr 5; omega) | (congr 6; omega) | (congr 7; omega) | (congr 8; omega)⟩
            clear hm
            go_wp2
            go_roundg 3
            case measure => have := HG2.out; omega
            case rel => exact ⟨⟨5, by omega, rfl, rfl, HO5.out⟩⟩
        · go_wp2_with (at_builtin; refine wpList_append_mk _ rfl (.tmp 25) (.tmp 32) 32 rfl i0 Tryd.underlying32 hi hz0 hz1 hz2 rfl (HO4.out.alloc _) ⟨wr.heap.size, 0, none⟩ 1 _ rfl (one_new _ _ _) ?_ ?_)
          · rw [HL2.out]; omega
          · intro v2 w2 hm
            have HO5 : Aside0 (Mk w w2 C v2 (padB s j ++ (padE s.size).take 6)) := ⟨by
              refine cast (congrArg (Mk w w2 C v2) ?_) hm
              first | rw [List.append_assoc] | skip
              refine congrArg (padB s j ++ ·) ?_
              simp only [padE, List.take_succ_cons, List.take_zero, List.cons_append, List.nil_append]
              have hs' := hs
              first | rfl | (congr 1; omega) | (congr 2; omega) | (congr 3; omega) | (congr 4; omega) | (congr 5; omega) | (congr 6; omega) | (congr 7; omega) | (congr 8; omega)⟩
            clear hm
            go_wp2
            go_roundg 2
            case measure => have := HG2.out; omega
            case rel => exact ⟨⟨6, by omega, rfl, rfl, HO5.out⟩⟩
        · go_wp2_with (at_builtin; refine wpList_append_mk _ rfl (.tmp 25) (.tmp 32) 32 rfl i0 Tryd.underlying32 hi hz0 hz1 hz2 rfl (HO4.out.alloc _) ⟨wr.heap.size, 0, none⟩ 1 _ rfl (one_new _ _ _) ?_ ?_)
          · rw [HL2.out]; omega
          · intro v2 w2 hm
            have HO5 : Aside0 (Mk w w2 C v2 (padB s j ++ (padE s.size).take 7)) := ⟨by
              refine cast (congrArg (Mk w w2 C v2) ?_) hm
              first | rw [List.append_assoc] | skip
              refine congrArg (padB s j ++ ·) ?_
              simp only [padE, List.take_succ_cons, List.take_zero, List.cons_append, List.nil_append]
              have hs' := hs
              first | rfl | (congr 1; omega) | (congr 2; omega) | (congr 3; omega) | (congr 4; omega) | (congr 5; omega) | (congr 6; omega) | (congr 7; omega) | (congr 8; omega)⟩
            clear hm
            go_wp2
            go_roundg 1
            case measure => have := HG2.out; omega
            case rel => exact ⟨⟨7, by omega, rfl, rfl, HO5.out⟩⟩
        · go_wp2_with (at_builtin; refine wpList_append_mk _ rfl (.tmp 25) (.tmp 32) 32 rfl i0 Tryd.underlying32 hi hz0 hz1 hz2 rfl (HO4.out.alloc _) ⟨wr.heap.size, 0, none⟩ 1 _ rfl (one_new _ _ _) ?_ ?_)
          · rw [HL2.out]; omega
          · intro v2 w2 hm
            have HO5 : Aside0 (Mk w w2 C v2 (padB s j ++ (padE s.size).take 8)) := ⟨by
              refine cast (congrArg (Mk w w2 C v2) ?_) hm
              first | rw [List.append_assoc] | skip
              refine congrArg (padB s j ++ ·) ?_
              simp only [padE, List.take_succ_cons, List.take_zero, List.cons_append, List.nil_append]
              have hs' := hs
              first | rfl | (congr 1; omega) | (congr 2; omega) | (congr 3; omega) | (congr 4; omega) | (congr 5; omega) | (congr 6; omega) | (congr 7; omega) | (congr 8; omega)⟩
            clear hm
            go_wp2
            go_roundg 0
            case measure => have := HG2.out; omega
            case rel => exact ⟨⟨8, by omega, rfl, rfl, HO5.out⟩⟩
        · have hbel := HO4.out.bel
          have hst : (convert 32 9 (.slice A2 L2 c2)).run Tryd.prog wr = .ok (.string (padV s)) wr := by
            have h9 := HO4.out.string 32 Tryd.underlying32 Tryd.underlying5 (by rw [List.length_append, HL.out]; simp [padE]) 9 Tryd.underlying9
            rw [h9]
            unfold padV padL
            rw [← HJZ.out]
            rfl
          have HBL := Aside0.mk hbel
          clear hbel
          go_wp2
          go_ret
          exact ⟨rfl, HBL.out⟩
set_option maxHeartbeats 8000000 in
set_option maxRecDepth 100000 in
theorem impl_PadText_walk (s : ByteArray) (w : World) (hs : s.size ≤ 1099511627776) : Calls Tryd.prog 28 #[.string s] w fun e w' => e = .returned (.string (padV s)) ∧ Below w.heap.size w w' := by
  obtain ⟨i0, hi, hz0, hz1, hz2⟩ := info_parts pad_info
  obtain ⟨C, hC⟩ : ∃ C, C = grownCap w s.size 0 5 := ⟨_, rfl⟩
  have hCn : s.size ≤ C := by rw [hC]; exact grownCap_ge w s.size 0 5
  have hcv : (convert 9 32 (.string s)).run Tryd.prog w = .ok (.slice (some ⟨w.heap.size, 0, none⟩) s.size C) (w.drew.alloc (.cells (bytesRow s C) 5 ((bytesRow s C).size, (bytesRow s C).size + 1))) := by
    rw [hC]
    exact run_bytes_of_string (P := Tryd.prog) w 9 32 5 s Tryd.underlying9 Tryd.underlying32 Tryd.underlying5
  have hmk := Mk.start s w C hCn
  generalize w.drew.alloc (.cells (bytesRow s C) 5 ((bytesRow s C).size, (bytesRow s C).size + 1)) = W1 at hcv hmk
  obtain ⟨b0, hb0⟩ : ∃ b0, w.heap.size = b0 := ⟨_, rfl⟩
  rw [hb0] at hcv
  have HM := Aside0.mk (show Mk w W1 C (.slice (some ⟨b0, 0, none⟩) s.size C) (bytesOf s) by rw [← hb0]; exact hmk)
  have HB0 := Aside0.mk hb0
  clear hmk hb0 hC hCn
  go_enter Tryd.func28, Tryd.ntmps28
  go_wp2_with (at_builtin; refine wpList_append_mk _ rfl (.tmp 7) (.tmp 8) 32 rfl i0 Tryd.underlying32 hi hz0 hz1 hz2 rfl (HM.out.alloc _) ⟨W1.heap.size, 0, none⟩ 1 128 rfl ?c1 ?c2 ?c3)
  case c1 => exact one_new _ _ _
  case c2 => rw [bytesOf_length]; omega
  intro v1 w1 hm
  have HO := Aside0.mk (show Mk w w1 C v1 (padB s 0) from hm)
  clear hm HM
  go_wp2
  go_loopg [3] (padZ s.size) (fun g v wr => Aside0 (∃ j, j ≤ padZ s.size ∧ g = padZ s.size - j ∧ Mk w wr C v (padB s j)))
  case atStart => exact ⟨0, Nat.zero_le _, rfl, HO.out⟩
  case round =>
    clear HO
    obtain ⟨j, hj, hg, ho⟩ := hrel.out
    clear hrel
    obtain ⟨A1, c1, rfl⟩ := ho.slice
    have hln := padB_len s j
    have hz := padZ_lt s.size
    obtain ⟨L, hL⟩ : ∃ L : Nat, (padB s j).length = L := ⟨_, rfl⟩
    rw [hL] at ho
    rw [hL]
    have HG := Aside0.mk hg
    have HO := Aside0.mk ho
    have HL := Aside0.mk hL
    have hLb : L ≤ 1099511627900 := by omega
    by_cases hlt : j < padZ s.size
    · have hne := padZ_more s.size j hlt
      have HLT := Aside0.mk hlt
      have e1 : (((L : Int) % 64) != 56) = true := bne_iff_ne.2 (by omega)
      clear hne hL hlt hg ho hj hz hln
      go_wp2_with (at_builtin; refine wpList_append_mk _ rfl (.tmp 14) (.tmp 15) 32 rfl i0 Tryd.underlying32 hi hz0 hz1 hz2 rfl (HO.out.alloc _) ⟨wr.heap.size, 0, none⟩ 1 0 rfl ?d1 ?d2 ?d3)
      case d1 => exact one_new _ _ _
      case d2 => rw [HL.out]; omega
      case d3 =>
        intro v2 w2 hm
        have HO2 := Aside0.mk (show Mk w w2 C v2 (padB s (j + 1)) by rw [padB_more]; exact hm)
        clear hm
        go_wp2
        go_roundg (padZ s.size - (j + 1))
        case measure => have := HG.out; have := HLT.out; omega
        case rel => exact ⟨⟨j + 1, HLT.out, rfl, HO2.out⟩⟩
    · have hne := padZ_done s.size
      have hjz : j = padZ s.size := by omega
      have HJZ := Aside0.mk hjz
      have e1 : (((L : Int) % 64) != 56) = false := by
        have h56 : (L : Int) % 64 = 56 := by rw [← hjz] at hne; omega
        rw [h56]; rfl
      clear hne hL hlt hg ho hj hz hjz hln
      have HO3 := Aside0.mk (show Mk w wr C (.slice A1 L c1) (padB s j ++ (padE s.size).take 0) by rw [List.take_zero, List.append_nil]; exact HO.out)
      clear HO
      go_wp2
      clear e1
      go_loopg [3, 5] 8 (fun g v i wr => Aside0 (∃ m : Nat, m ≤ 8 ∧ g = 8 - m ∧ i = .int .i64 ((7 : Int) - m) ∧ Mk w wr C v (padB s j ++ (padE s.size).take m)))
      case atStart => exact ⟨0, by omega, rfl, rfl, HO3.out⟩
      case round =>
        clear HO3
        obtain ⟨m, hm, hg, rfl, ho⟩ := hrel.out
        clear hrel
        have HG2 := Aside0.mk hg
        obtain ⟨A2, c2, rfl⟩ := ho.slice
        obtain ⟨L2, hL2⟩ : ∃ L2 : Nat, (padB s j ++ (padE s.size).take m).length = L2 := ⟨_, rfl⟩
        rw [hL2] at ho
        rw [hL2]
        have hLb2 : L2 ≤ 1099511628000 := by
          rw [← hL2, List.length_append, HL.out, List.length_take]
          omega
        have HL2 := Aside0.mk hL2
        have HO4 := Aside0.mk ho
        clear ho hL2 hg
        have hcases : m = 0 ∨ m = 1 ∨ m = 2 ∨ m = 3 ∨ m = 4 ∨ m = 5 ∨ m = 6 ∨ m = 7 ∨ m = 8 := by omega
        clear hm
        rcases hcases with rfl | rfl | rfl | rfl | rfl | rfl | rfl | rfl | rfl
        · go_wp2_with (at_builtin; refine wpList_append_mk _ rfl (.tmp 24) (.tmp 30) 32 rfl i0 Tryd.underlying32 hi hz0 hz1 hz2 rfl (HO4.out.alloc _) ⟨wr.heap.size, 0, none⟩ 1 _ rfl (one_new _ _ _) ?_ ?_)
          · rw [HL2.out]; omega
          · intro v2 w2 hm
            have HO5 : Aside0 (Mk w w2 C v2 (padB s j ++ (padE s.size).take 1)) := ⟨by
              refine cast (congrArg (Mk w w2 C v2) ?_) hm
              first | rw [List.append_assoc] | skip
              refine congrArg (padB s j ++ ·) ?_
              simp only [padE, List.take_succ_cons, List.take_zero, List.cons_append, List.nil_append]
              have hs' := hs
              first | rfl | (congr 1; omega) | (congr 2; omega) | (congr 3; omega) | (congr 4; omega) | (congr 5; omega) | (congr 6; omega) | (congr 7; omega) | (congr 8; omega)⟩
            clear hm
            go_wp2
            go_roundg 7
            case measure => have := HG2.out; omega
            case rel => exact ⟨⟨1, by omega, rfl, rfl, HO5.out⟩⟩
        · go_wp2_with (at_builtin; refine wpList_append_mk _ rfl (.tmp 24) (.tmp 30) 32 rfl i0 Tryd.underlying32 hi hz0 hz1 hz2 rfl (HO4.out.alloc _) ⟨wr.heap.size, 0, none⟩ 1 _ rfl (one_new _ _ _) ?_ ?_)
          · rw [HL2.out]; omega
          · intro v2 w2 hm
            have HO5 : Aside0 (Mk w w2 C v2 (padB s j ++ (padE s.size).take 2)) := ⟨by
              refine cast (congrArg (Mk w w2 C v2) ?_) hm
              first | rw [List.append_assoc] | skip
              refine congrArg (padB s j ++ ·) ?_
              simp only [padE, List.take_succ_cons, List.take_zero, List.cons_append, List.nil_append]
              have hs' := hs
              first | rfl | (congr 1; omega) | (congr 2; omega) | (congr 3; omega) | (congr 4; omega) | (congr 5; omega) | (congr 6; omega) | (congr 7; omega) | (congr 8; omega)⟩
            clear hm
            go_wp2
            go_roundg 6
            case measure => have := HG2.out; omega
            case rel => exact ⟨⟨2, by omega, rfl, rfl, HO5.out⟩⟩
        · go_wp2_with (at_builtin; refine wpList_append_mk _ rfl (.tmp 24) (.tmp 30) 32 rfl i0 Tryd.underlying32 hi hz0 hz1 hz2 rfl (HO4.out.alloc _) ⟨wr.heap.size, 0, none⟩ 1 _ rfl (one_new _ _ _) ?_ ?_)
          · rw [HL2.out]; omega
          · intro v2 w2 hm
            have HO5 : Aside0 (Mk w w2 C v2 (padB s j ++ (padE s.size).take 3)) := ⟨by
              refine cast (congrArg (Mk w w2 C v2) ?_) hm
              first | rw [List.append_assoc] | skip
              refine congrArg (padB s j ++ ·) ?_
              simp only [padE, List.take_succ_cons, List.take_zero, List.cons_append, List.nil_append]
              have hs' := hs
              first | rfl | (congr 1; omega) | (congr 2; omega) | (congr 3; omega) | (congr 4; omega) | (congr 5; omega) | (congr 6; omega) | (congr 7; omega) | (congr 8; omega)⟩
            clear hm
            go_wp2
            go_roundg 5
            case measure => have := HG2.out; omega
            case rel => exact ⟨⟨3, by omega, rfl, rfl, HO5.out⟩⟩
        · go_wp2_with (at_builtin; refine wpList_append_mk _ rfl (.tmp 24) (.tmp 30) 32 rfl i0 Tryd.underlying32 hi hz0 hz1 hz2 rfl (HO4.out.alloc _) ⟨wr.heap.size, 0, none⟩ 1 _ rfl (one_new _ _ _) ?_ ?_)
          · rw [HL2.out]; omega
          · intro v2 w2 hm
            have HO5 : Aside0 (Mk w w2 C v2 (padB s j ++ (padE s.size).take 4)) := ⟨by
              refine cast (congrArg (Mk w w2 C v2) ?_) hm
              first | rw [List.append_assoc] | skip
              refine congrArg (padB s j ++ ·) ?_
              simp only [padE, List.take_succ_cons, List.take_zero, List.cons_append, List.nil_append]
              have hs' := hs
              first | rfl | (congr 1; omega) | (congr 2; omega) | (congr 3; omega) | (congr 4; omega) | (congr 5; omega) | (congr 6; omega) | (congr 7; omega) | (congr 8; omega)⟩
            clear hm
            go_wp2
            go_roundg 4
            case measure => have := HG2.out; omega
            case rel => exact ⟨⟨4, by omega, rfl, rfl, HO5.out⟩⟩
        · go_wp2_with (at_builtin; refine wpList_append_mk _ rfl (.tmp 24) (.tmp 30) 32 rfl i0 Tryd.underlying32 hi hz0 hz1 hz2 rfl (HO4.out.alloc _) ⟨wr.heap.size, 0, none⟩ 1 _ rfl (one_new _ _ _) ?_ ?_)
          · rw [HL2.out]; omega
          · intro v2 w2 hm
            have HO5 : Aside0 (Mk w w2 C v2 (padB s j ++ (padE s.size).take 5)) := ⟨by
              refine cast (congrArg (Mk w w2 C v2) ?_) hm
              first | rw [List.append_assoc] | skip
              refine congrArg (padB s j ++ ·) ?_
              simp only [padE, List.take_succ_cons, List.take_zero, List.cons_append, List.nil_append]
              have hs' := hs
              first | rfl | (congr 1; omega) | (congr 2; omega) | (congr 3; omega) | (congr 4; omega) | (congr 5; omega) | (congr 6; omega) | (congr 7; omega) | (congr 8; omega)⟩
            clear hm
            go_wp2
            go_roundg 3
            case measure => have := HG2.out; omega
            case rel => exact ⟨⟨5, by omega, rfl, rfl, HO5.out⟩⟩
        · go_wp2_with (at_builtin; refine wpList_append_mk _ rfl (.tmp 24) (.tmp 30) 32 rfl i0 Tryd.underlying32 hi hz0 hz1 hz2 rfl (HO4.out.alloc _) ⟨wr.heap.size, 0, none⟩ 1 _ rfl (one_new _ _ _) ?_ ?_)
          · rw [HL2.out]; omega
          · intro v2 w2 hm
            have HO5 : Aside0 (Mk w w2 C v2 (padB s j ++ (padE s.size).take 6)) := ⟨by
              refine cast (congrArg (Mk w w2 C v2) ?_) hm
              first | rw [List.append_assoc] | skip
              refine congrArg (padB s j ++ ·) ?_
              simp only [padE, List.take_succ_cons, List.take_zero, List.cons_append, List.nil_append]
              have hs' := hs
              first | rfl | (congr 1; omega) | (congr 2; omega) | (congr 3; omega) | (congr 4; omega) | (congr 5; omega) | (congr 6; omega) | (congr 7; omega) | (congr 8; omega)⟩
            clear hm
            go_wp2
            go_roundg 2
            case measure => have := HG2.out; omega
            case rel => exact ⟨⟨6, by omega, rfl, rfl, HO5.out⟩⟩
        · go_wp2_with (at_builtin; refine wpList_append_mk _ rfl (.tmp 24) (.tmp 30) 32 rfl i0 Tryd.underlying32 hi hz0 hz1 hz2 rfl (HO4.out.alloc _) ⟨wr.heap.size, 0, none⟩ 1 _ rfl (one_new _ _ _) ?_ ?_)
          · rw [HL2.out]; omega
          · intro v2 w2 hm
            have HO5 : Aside0 (Mk w w2 C v2 (padB s j ++ (padE s.size).take 7)) := ⟨by
              refine cast (congrArg (Mk w w2 C v2) ?_) hm
              first | rw [List.append_assoc] | skip
              refine congrArg (padB s j ++ ·) ?_
              simp only [padE, List.take_succ_cons, List.take_zero, List.cons_append, List.nil_append]
              have hs' := hs
              first | rfl | (congr 1; omega) | (congr 2; omega) | (congr 3; omega) | (congr 4; omega) | (congr 5; omega) | (congr 6; omega) | (congr 7; omega) | (congr 8; omega)⟩
            clear hm
            go_wp2
            go_roundg 1
            case measure => have := HG2.out; omega
            case rel => exact ⟨⟨7, by omega, rfl, rfl, HO5.out⟩⟩
        · go_wp2_with (at_builtin; refine wpList_append_mk _ rfl (.tmp 24) (.tmp 30) 32 rfl i0 Tryd.underlying32 hi hz0 hz1 hz2 rfl (HO4.out.alloc _) ⟨wr.heap.size, 0, none⟩ 1 _ rfl (one_new _ _ _) ?_ ?_)
          · rw [HL2.out]; omega
          · intro v2 w2 hm
            have HO5 : Aside0 (Mk w w2 C v2 (padB s j ++ (padE s.size).take 8)) := ⟨by
              refine cast (congrArg (Mk w w2 C v2) ?_) hm
              first | rw [List.append_assoc] | skip
              refine congrArg (padB s j ++ ·) ?_
              simp only [padE, List.take_succ_cons, List.take_zero, List.cons_append, List.nil_append]
              have hs' := hs
              first | rfl | (congr 1; omega) | (congr 2; omega) | (congr 3; omega) | (congr 4; omega) | (congr 5; omega) | (congr 6; omega) | (congr 7; omega) | (congr 8; omega)⟩
            clear hm
            go_wp2
            go_roundg 0
            case measure => have := HG2.out; omega
            case rel => exact ⟨⟨8, by omega, rfl, rfl, HO5.out⟩⟩
        · have hbel := HO4.out.bel
          have hst : (convert 32 9 (.slice A2 L2 c2)).run Tryd.prog wr = .ok (.string (padV s)) wr := by
            have h9 := HO4.out.string 32 Tryd.underlying32 Tryd.underlying5 (by rw [List.length_append, HL.out]; simp [padE]) 9 Tryd.underlying9
            rw [h9]
            unfold padV padL
            rw [← HJZ.out]
            rfl
          have HBL := Aside0.mk hbel
          clear hbel
          go_wp2
          go_ret
          exact ⟨rfl, HBL.out⟩
end Go.Proofs.YtekplhhkbeemnaaDoor.Sha
