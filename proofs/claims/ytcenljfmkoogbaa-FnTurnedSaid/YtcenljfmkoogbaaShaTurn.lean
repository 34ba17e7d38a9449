-- Written by a program of this session (sha.sh): no printed text.
import Derived.Test.YtcenljfmkoogbaaProg
import Derived.Test.YtcenljfmkoogbaaWWords
import Derived.Test.YtcenljfmkoogbaaWLast
import Derived.Test.YtcenljfmkoogbaaWTab
import Derived.Test.YtcenljfmkoogbaaWFour
import Derived.Test.YtcenljfmkoogbaaWQPut
import Derived.Test.YtcenljfmkoogbaaWApart
import Derived.Test.YtcenljfmkoogbaaWArr
import Derived.Test.YtcenljfmkoogbaaWZeros
import Derived.Test.YtcenljfmkoogbaaWFoot
import Derived.Test.YtcenljfmkoogbaaWKept
import Derived.Test.YtcenljfmkoogbaaWShare
import Derived.Test.YtcenljfmkoogbaaWN
import Derived.Test.YtcenljfmkoogbaaWFootNe
import Derived.Test.YtcenljfmkoogbaaWAt
import Derived.Test.YtcenljfmkoogbaaWEqStruct
import Derived.Test.YtcenljfmkoogbaaWRepsOne
import Derived.Test.YtcenljfmkoogbaaWInv
import Derived.Test.YtcenljfmkoogbaaWInvWords
import Derived.Test.YtcenljfmkoogbaaWGuard
import Derived.Test.YtcenljfmkoogbaaWNEv
import Derived.Test.YtcenljfmkoogbaaWMore
import Derived.Below
import Derived.Deep.Draws
import Derived.Deep.AppendLies
import Derived.Tactics
import Derived.Lib.ConvBytes
import Derived.Laws.Slices
import Derived.WalkKit
import Derived.KernelRfl
import Derived.RowKit3
import Derived.Deep.LoopGhost
import Derived.Deep.QuietTactic
import Derived.BigQuiet
import Derived.WideLaws
import Derived.Deep.Onto
import Derived.Deep.WholeRow
import Derived.Laws.Rows
import Derived.Laws.IdiomStrings
import Derived.Laws.BitsLemmas
import Derived.Laws.NewBlocks
import Derived.WalkLawsBesides
set_option linter.unusedVariables false
set_option linter.unusedSimpArgs false
namespace Go.Proofs.Ytcenljfmkoogbaa.Sha
open Go.RowKit Go.Proofs.YtcenljfmkoogbaaW.PrintWords Go.Proofs.YtcenljfmkoogbaaW.PrintLast
/-! ### A row of bytes that was made of a text (its block bears a mark behind the row), or one of the call's own: appended to, one byte at a time -/
def u8s (l : List Int) : List Value := l.map (Value.int .u8)
theorem u8s_len (l : List Int) : (u8s l).length = l.length := List.length_map _
theorem u8s_app (l m : List Int) : u8s (l ++ m) = u8s l ++ u8s m := List.map_append
structure Mk (W w : World) (C : Nat) (v : Value) (ns : List Int) : Prop where
  bel : Below W.heap.size W w
  val : (∃ cur lo hi, v = .slice (some ⟨W.heap.size, 0, none⟩) ns.length C ∧ ns.length ≤ C ∧ w.heap[W.heap.size]? = some (.cells cur 5 (lo, hi)) ∧ cur.size = C ∧ C ≤ lo ∧ cur.toList.take ns.length = u8s ns) ∨ w.ownsRow W.heap.size 5 1 v ns.length (u8s ns)
section
variable {W w : World} {C : Nat} {v : Value} {ns : List Int}
theorem Mk.start (s : ByteArray) (w : World) (C : Nat) (hC : s.size ≤ C) : Mk w (w.drew.alloc (.cells (bytesRow s C) 5 ((bytesRow s C).size, (bytesRow s C).size + 1))) C (.slice (some ⟨w.heap.size, 0, none⟩) s.size C) (bytesOf s) := by
  have hz : (bytesRow s C).size = C := by
    unfold bytesRow
    rw [Array.size_append, Array.size_map, Array.size_replicate]
    show s.data.size + (C - s.data.size) = C
    have : s.data.size ≤ C := hC
    omega
  refine ⟨below_alloc (below_drew1 (Below.refl _ _)) _, .inl ⟨bytesRow s C, _, _, by rw [bytesOf_length], by rw [bytesOf_length]; exact hC, heap_alloc_new w.drew _, hz, by omega, ?_⟩⟩
  rw [bytesOf_length]
  unfold u8s bytesOf bytesRow
  rw [Array.toList_append, List.take_append_of_le_length (by rw [Array.length_toList, Array.size_map]; exact Nat.le_refl _), List.take_of_length_le (by rw [Array.length_toList, Array.size_map]; exact Nat.le_refl _), Array.toList_map, List.map_map]
  rfl
theorem Mk.slice (h : Mk W w C v ns) : ∃ A c, v = .slice A ns.length c := by
  rcases h.val with ⟨_, _, _, rfl, _⟩ | ho
  · exact ⟨_, _, rfl⟩
  · rcases ho.2 with ⟨rfl, h0⟩ | ⟨g, cap, cur, rfl, _⟩
    · rw [h0]; exact ⟨_, _, rfl⟩
    · exact ⟨_, _, rfl⟩
theorem Mk.alloc (h : Mk W w C v ns) (o : Obj) : Mk W (w.alloc o) C v ns := by
  refine ⟨below_alloc h.bel _, ?_⟩
  rcases h.val with ⟨cur, lo, hi, rfl, h1, h2, h3⟩ | ho
  · exact .inl ⟨cur, lo, hi, rfl, h1, (Below.heap_alloc w o _ (Array.getElem?_eq_some_iff.1 h2).1).trans h2, h3⟩
  · exact .inr (ho.alloc o)
theorem Mk.cells (h : Mk W w C v ns) (hn : 0 < ns.length) : ∃ g o c, v = .slice (some ⟨g, o, none⟩) ns.length c ∧ ∀ j, j < ns.length → w.cell? ⟨g, o + j, none⟩ = some (.int .u8 (ns.getD j 0)) := by
  have key : ∀ (cur : Array Value) (j : Nat), j < ns.length → cur.toList.take ns.length = u8s ns → cur[j]? = some (.int .u8 (ns.getD j 0)) := fun cur j hj ht => by
    have h1 : (cur.toList.take ns.length)[j]? = (u8s ns)[j]? := by rw [ht]
    rw [List.getElem?_take, if_pos hj, Array.getElem?_toList] at h1
    rw [h1]
    unfold u8s
    rw [List.getElem?_map, List.getElem?_eq_getElem hj, List.getD_eq_getElem?_getD, List.getElem?_eq_getElem hj]
    rfl
  rcases h.val with ⟨cur, lo, hi, rfl, h1, h2, h3, h4, h5⟩ | ho
  · exact ⟨_, 0, _, rfl, fun j hj => by rw [Nat.zero_add, cell_of_row w _ j cur 5 _ h2]; exact key cur j hj h5⟩
  · rcases ho.2 with ⟨rfl, h0⟩ | ⟨g, cap, cur, rfl, _, hh, _, _, _, ht⟩
    · omega
    · rw [Nat.mul_one] at ht
      exact ⟨g, 0, cap, rfl, fun j hj => by rw [Nat.zero_add, cell_of_row w _ j cur 5 _ hh]; exact key cur j hj ht⟩
theorem Mk.string {P : Program} (t : TypeId) (hs : P.underlying t = some (.slice 5)) (he : P.underlying 5 = some (.int .u8)) (h : Mk W w C v ns) (hn : 0 < ns.length) :
    ∀ dst, P.underlying dst = some .string → (convert t dst v).run P w = .ok (.string (strOfNums ns)) w := by
  obtain ⟨g, o, c, rfl, hc⟩ := h.cells hn
  exact run_convert_bytes_arg (P := P) w t 5 hs he g o ns.length c ns rfl hc
end
theorem one_new (W : World) (u : Value) (t : TypeId) : ∀ j x, [u][j]? = some x → (W.alloc (.cells #[u] t)).cell? ((⟨W.heap.size, 0, none⟩ : Addr).add j) = some x := by
  intro j x h
  have hj : j = 0 := by
    have := (List.getElem?_eq_some_iff.1 h).1
    simpa using this
  subst hj
  have hx : u = x := by simpa using h
  subst hx
  show (W.alloc (.cells #[u] t)).cell? ⟨W.heap.size, 0, none⟩ = some u
  rw [cell_of_row _ W.heap.size 0 #[u] t (0, 0) (heap_alloc_new W _)]
  rfl
section
variable {P : Program}
theorem run_append_mk {W w : World} {C : Nat} {v : Value} {ns : List Int} (t ty : TypeId) (i : TypeInfo) (ht : P.underlying t = some (.slice 5)) (hi : P.info? 5 = some i) (hz : i.zero = some (.int .u8 0)) (hsz : i.size = 1) (hby : i.bytes = 1)
    (h : Mk W w C v ns) (ad : Addr) (c : Nat) (x : Int) (hnew : ∀ j u, [Value.int .u8 x][j]? = some u → w.cell? (ad.add j) = some u) (hlen : ns.length + 1 ≤ 140737488355328) :
    ∃ v' w', (Builtin.append_ #[t, t] ty #[v, .slice (some ad) 1 c]).run P w = .ok v' w' ∧ Mk W w' C v' (ns ++ [x]) := by
  have h1 : ∀ u ∈ [Value.int .u8 x], u.oneCell' = true := fun u hu => by obtain rfl := List.mem_singleton.1 hu; rfl
  have hWw := h.bel.size
  have hl2 : (ns ++ [x]).length = ns.length + 1 := by simp
  have hu2 : u8s (ns ++ [x]) = u8s ns ++ [Value.int .u8 x] := u8s_app ns [x]
  rcases h.val with ⟨cur, lo, hi', rfl, hle, hh, hcs, hlo, htk⟩ | ho
  · by_cases hr : ns.length + 1 ≤ C
    · have hrun := run_append_room_cells (P := P) w t ty 5 i ht hi W.heap.size 0 ns.length C ad 1 c [Value.int .u8 x] (by rw [hsz]; rfl) hnew h1 hr
        (fun j hj => by
          have hj0 : j = 0 := by simpa using hj
          subst hj0
          rw [cell_of_row w _ _ cur 5 _ hh, hsz]
          simp; omega)
        (fun j hj => by
          have hj0 : j = 0 := by simpa using hj
          subst hj0
          unfold World.frozen?
          simp only [hh, hsz]
          simp; omega)
      refine ⟨_, _, hrun, ?_⟩
      have hset : w.setCells W.heap.size (0 + ns.length * i.size) [Value.int .u8 x] = w.setRow W.heap.size (cur.setIfInBounds ns.length (.int .u8 x)) := by
        rw [hsz, Nat.mul_one, Nat.zero_add]
        show (w.setCell ⟨W.heap.size, ns.length, none⟩ (.int .u8 x)) = _
        exact setCell_eq_setRow w _ _ cur 5 _ _ hh
      rw [hset]
      refine ⟨?_, .inl ⟨cur.setIfInBounds ns.length (.int .u8 x), lo, hi', by rw [hl2], by rw [hl2]; exact hr, setRow_heap w _ cur _ 5 _ hh, by simp [hcs], hlo, ?_⟩⟩
      · refine ⟨h.bel.os, h.bel.tape, h.bel.output, by rw [size_setRow]; exact hWw, fun k hk => (setRow_other w _ k _ (by omega)).trans (h.bel.block k hk)⟩
      · rw [hl2, hu2, ← htk, Array.toList_setIfInBounds]
        have hlt : ns.length < cur.toList.length := by have e : cur.toList.length = cur.size := Array.length_toList; omega
        rw [List.take_succ_eq_append_getElem (by rw [List.length_set]; exact hlt), List.take_set_of_le (Nat.le_refl _), List.getElem_set_self]
    · have holds : ∀ j u, (u8s ns)[j]? = some u → w.cell? ((⟨W.heap.size, 0, none⟩ : Addr).add j) = some u := by
        intro j u hu
        rw [Addr.add_lit, Nat.zero_add, cell_of_row w _ j cur 5 _ hh]
        rw [← htk, List.getElem?_take] at hu
        split at hu
        · rwa [Array.getElem?_toList] at hu
        · cases hu
      obtain ⟨v', w', hrun, r1, r2⟩ := run_append_arg_grows (P := P) w t ty 5 i (.int .u8 0) 1 1 ht hi hz hsz hby rfl (by decide) ⟨W.heap.size, 0, none⟩ ns.length C (u8s ns) (by rw [u8s_len, Nat.mul_one]) holds ad 1 c [Value.int .u8 x] rfl hnew (by omega) (by unfold maxLen; omega) (by omega)
      refine ⟨v', w', hrun, h.bel.grown r2 hWw (fun k hk => by cases hk), .inr ?_⟩
      rw [hl2, hu2]
      exact r1.mono hWw
  · obtain ⟨v', w', hrun, r1, r2, _⟩ := run_append_own (P := P) w W.heap.size t ty 5 i (.int .u8 0) 1 1 ht hi hz hsz hby rfl (by decide) v ns.length (u8s ns) ho ad 1 c [Value.int .u8 x] rfl hnew h1 (by unfold maxLen; omega) (by omega) hWw
    refine ⟨v', w', hrun, h.bel.grown r2 hWw (fun k hk => (ho.lt k hk).1), .inr ?_⟩
    rw [hl2, hu2]
    exact r1
theorem wpList_append_mk (w : World) {ops : Array Oper} {rest : List Oper} {o : Oper} {a : Act} {Q : Exit → Act → World → Prop} (hgd : o.guard = none) (s x : Operand) (t : TypeId)
    (ho : o.op = .call { callee := .builtin .append, args := #[s, x], argTypes := #[t, t] })
    (i : TypeInfo) (ht : P.underlying t = some (.slice 5)) (hi : P.info? 5 = some i) (hz : i.zero = some (.int .u8 0)) (hsz : i.size = 1) (hby : i.bytes = 1)
    {W : World} {C : Nat} {v : Value} {ns : List Int} (hs : a.eval s = v) (h : Mk W w C v ns) (ad : Addr) (c : Nat) (y : Int) (hx : a.eval x = .slice (some ad) 1 c) (hnew : ∀ j u, [Value.int .u8 y][j]? = some u → w.cell? (ad.add j) = some u)
    (hlen : ns.length + 1 ≤ 140737488355328) (hK : ∀ v' w', Mk W w' C v' (ns ++ [y]) → wpList P ops Q rest (a.put o.dst v') w') : wpList P ops Q (o :: rest) a w := by
  refine wpList_plain hgd fun K hK' => ?_
  obtain ⟨v', w', hrun, r⟩ := run_append_mk (P := P) t o.type i ht hi hz hsz hby h ad c y hnew hlen
  unfold Oper.wp
  simp [execOp, ho, resolve, invoke, builtin, hs, hx, hrun, Result.andThen]
  exact hK' _ _ (hK v' w' r)
end
/-! ### A byte of such a row is turned -/
structure Mk1 (W w : World) (b C n : Nat) (ns : List Int) : Prop where
  base : W.heap.size = b
  bel : Below W.heap.size W w
  len : ns.length = n
  val : ∃ cur lo hi, n ≤ C ∧ w.heap[b]? = some (.cells cur 5 (lo, hi)) ∧ cur.size = C ∧ C ≤ lo ∧ cur.toList.take n = u8s ns
section
variable {W w : World} {b C n : Nat} {ns : List Int}
theorem Mk1.mk' (h : Mk1 W w b C n ns) : Mk W w C (.slice (some ⟨b, 0, none⟩) n C) ns := by
  obtain ⟨rfl, hb, rfl, cur, lo, hi, h1, h2, h3, h4, h5⟩ := h
  exact ⟨hb, .inl ⟨cur, lo, hi, rfl, h1, h2, h3, h4, h5⟩⟩
theorem Mk1.start (s : ByteArray) (w : World) (C : Nat) (hC : s.size ≤ C) : Mk1 w (w.drew.alloc (.cells (bytesRow s C) 5 ((bytesRow s C).size, (bytesRow s C).size + 1))) w.heap.size C s.size (bytesOf s) := by
  have hz : (bytesRow s C).size = C := by
    unfold bytesRow
    rw [Array.size_append, Array.size_map, Array.size_replicate]
    show s.data.size + (C - s.data.size) = C
    have : s.data.size ≤ C := hC
    omega
  refine ⟨rfl, below_alloc (below_drew1 (Below.refl _ _)) _, by rw [bytesOf_length], bytesRow s C, _, _, hC, heap_alloc_new w.drew _, hz, by omega, ?_⟩
  unfold u8s bytesOf bytesRow
  rw [Array.toList_append, List.take_append_of_le_length (by rw [Array.length_toList, Array.size_map]; exact Nat.le_refl _), List.take_of_length_le (by rw [Array.length_toList, Array.size_map]; exact Nat.le_refl _), Array.toList_map, List.map_map]
  rfl
theorem Mk1.drew (h : Mk1 W w b C n ns) : Mk1 W w.drew b C n ns := by
  obtain ⟨h0, hb, hl, cur, lo, hi, h1, h2, h3⟩ := h
  exact ⟨h0, below_drew1 hb, hl, cur, lo, hi, h1, h2, h3⟩
theorem Mk1.cell (h : Mk1 W w b C n ns) (i : Nat) (hi : i < n) : w.cell? ⟨b, i, none⟩ = some (.int .u8 (ns.getD i 0)) := by
  obtain ⟨h0, hb, hl, cur, lo, hi', h1, h2, h3, h4, h5⟩ := h
  have e : (cur.toList.take n)[i]? = (u8s ns)[i]? := by rw [h5]
  rw [List.getElem?_take, if_pos hi, Array.getElem?_toList] at e
  rw [cell_of_row w _ i cur 5 _ h2, e]
  unfold u8s
  rw [List.getElem?_map, List.getElem?_eq_getElem (by omega), List.getD_eq_getElem?_getD, List.getElem?_eq_getElem (by omega)]
  rfl
theorem Mk1.free (h : Mk1 W w b C n ns) (i : Nat) (hi : i < n) : w.frozen? ⟨b, i, none⟩ = false := by
  obtain ⟨h0, hb, hl, cur, lo, hi', h1, h2, h3, h4, h5⟩ := h
  unfold World.frozen?
  simp only [h2]
  simp; omega
theorem Mk1.set (h : Mk1 W w b C n ns) (i : Nat) (hi : i < n) (x : Int) : Mk1 W (w.setCell ⟨b, i, none⟩ (.int .u8 x)) b C n (ns.set i x) := by
  obtain ⟨rfl, hb, hl, cur, lo, hi', h1, h2, h3, h4, h5⟩ := h
  have hWw := hb.size
  rw [setCell_eq_setRow w _ _ cur 5 _ _ h2]
  refine ⟨rfl, ⟨hb.os, hb.tape, hb.output, by rw [size_setRow]; exact hWw, fun k hk => (setRow_other w _ k _ (by omega)).trans (hb.block k hk)⟩, by rw [List.length_set]; exact hl, cur.setIfInBounds i (.int .u8 x), lo, hi', h1, setRow_heap w _ cur _ 5 _ h2, by simp [h3], h4, ?_⟩
  rw [Array.toList_setIfInBounds, List.take_set, h5]
  unfold u8s
  rw [List.map_set]
end
/-- The text with byte i turned by 1 + y % 255. -/
def turnV (s : ByteArray) (i y : Int) : ByteArray := strOfNums ((bytesOf s).set i.toNat (Go.bits .xor .u8 ((bytesOf s)[i.toNat]?.getD 0) (wrap64 (1 + Int.tmod y 255) % 256)))
end Go.Proofs.Ytcenljfmkoogbaa.Sha
