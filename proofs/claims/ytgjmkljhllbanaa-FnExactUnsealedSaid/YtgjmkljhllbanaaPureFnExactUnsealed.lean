/- The law FnExactUnsealed answers true for every argument: the program's Unsealed and the reference's come to the same answer. -/
import Derived.Test.YtgjmkljhllbanaaPFnExactUnsealedx2
set_option linter.unusedVariables false
set_option linter.unusedSimpArgs false
namespace Go.Proofs.Ytgjmkljhllbanaa.Pure
open Go.RowKit Go.Proofs.Ytgjmkljhllbanaa.PFnExactUnsealed Go.Proofs.YtgjmkljhllbanaaW.PrintWords Go.Proofs.YtgjmkljhllbanaaW.PrintLast

theorem w64 {n : Int} (h0 : -9223372036854775808 ≤ n) (h1 : n ≤ 9223372036854775807) : wrap64 n = n := by unfold wrap64; omega
theorem ev_pos {α : Type} {c : Prop} [Decidable c] {f g : Nat → Option α} {r : α} (h : c) (k : Ev f r) : Ev (fun n => if c then f n else g n) r := by
  simpa only [if_pos h] using k
theorem ev_neg {α : Type} {c : Prop} [Decidable c] {f g : Nat → Option α} {r : α} (h : ¬ c) (k : Ev g r) : Ev (fun n => if c then f n else g n) r := by
  simpa only [if_neg h] using k
theorem tdivN (n m : Nat) : Int.tdiv (n : Int) (m : Int) = ((n / m : Nat) : Int) := rfl
theorem tmodN (n m : Nat) : Int.tmod (n : Int) (m : Int) = ((n % m : Nat) : Int) := rfl
theorem tdiv_pos' {n m : Int} (h : 0 ≤ n) : Int.tdiv n m = n / m := Int.tdiv_eq_ediv_of_nonneg h
theorem tmod_pos' {n m : Int} (h : 0 ≤ n) : Int.tmod n m = n % m := Int.tmod_eq_emod_of_nonneg h
theorem bt_rng (s : ByteArray) (i : Int) : 0 ≤ bt s i ∧ bt s i ≤ 255 := bt_range s i
theorem bt_bytes (s : ByteArray) (i : Nat) : bt s i = (bytesOf s).getD i 0 := (rd_bytesOf s i).symm
theorem drop_bytes (s : ByteArray) (i : Nat) (h : i < s.size) : (bytesOf s).drop i = bt s i :: (bytesOf s).drop (i + 1) := by
  have h' : i < (bytesOf s).length := by rw [bytesOf_length]; exact h
  rw [List.drop_eq_getElem_cons h', bt_bytes, List.getD_eq_getElem?_getD, List.getElem?_eq_getElem h']
  rfl

def crcBit (x : Int) : Int := if Int.tmod x 2 = 1 then Go.bits .xor .u32 ((Int.tdiv x 2) % 4294967296) 3558460437 else (Int.tdiv x 2) % 4294967296
def crcN : Nat → Int → Int
  | 0, x => x
  | n + 1, x => crcN n (crcBit x)
def crcB (x b : Int) : Int := crcN 8 (Go.bits .xor .u32 x (b % 4294967296))
def crcS (x : Int) (l : List Int) : Int := l.foldl crcB x

theorem spec_bit (s : ByteArray) (i r : Int) : ∀ d : Nat, d ≤ 8 → ∀ x : Int, Ev (fun k => spec_SumMore.l0 k (crcN d x) s (wrap64 (i + 1))) r → Ev (fun k => spec_SumMore.l1 k x s i ((8 - d : Nat) : Int)) r := by
  intro d
  induction d with
  | zero =>
    intro _ x h
    refine Ev.step (fun k => by rw [spec_SumMore.l1]) ?_
    exact ev_neg (by omega) h
  | succ d ih =>
    intro hd x h
    refine Ev.step (fun k => by rw [spec_SumMore.l1]) ?_
    refine ev_pos (by omega) ?_
    have hi := ih (by omega) (crcBit x) h
    have e : wrap64 (((8 - (d + 1) : Nat) : Int) + 1) = ((8 - d : Nat) : Int) := by rw [w64 (by omega) (by omega)]; omega
    rw [e]
    unfold crcBit at hi
    by_cases ho : Int.tmod x 2 = 1
    · refine ev_pos ho ?_
      rwa [if_pos ho] at hi
    · refine ev_neg ho ?_
      rwa [if_neg ho] at hi
theorem spec_loop (s : ByteArray) (hs : s.size ≤ 140737488351232) : ∀ (d i : Nat), s.size - i = d → i ≤ s.size → ∀ x : Int, Ev (fun k => spec_SumMore.l0 k x s (i : Int)) (crcS x ((bytesOf s).drop i)) := by
  intro d
  induction d with
  | zero =>
    intro i hd hi x
    refine Ev.step (fun k => by rw [spec_SumMore.l0]) ?_
    refine ev_neg (by omega) ?_
    rw [List.drop_of_length_le (by rw [bytesOf_length]; omega)]
    exact Ev.now _
  | succ d ih =>
    intro i hd hi x
    refine Ev.step (fun k => by rw [spec_SumMore.l0]) ?_
    refine ev_pos (by omega) (ev_pos (by omega) ?_)
    rw [drop_bytes s i (by omega)]
    refine spec_bit s i _ 8 (by omega) _ ?_
    rw [show wrap64 ((i : Int) + 1) = ((i + 1 : Nat) : Int) by rw [w64 (by omega) (by omega)]; omega]
    exact ih (i + 1) (by omega) (by omega) _
theorem spec_more (s : ByteArray) (hs : s.size ≤ 140737488351232) (x : Int) : Ev (fun k => spec_SumMore.f k x s) (crcS x (bytesOf s)) := by
  have := spec_loop s hs s.size 0 (by omega) (by omega) x
  simpa [spec_SumMore.f] using this

theorem impl_bit (s : ByteArray) (i r : Int) : ∀ d : Nat, d ≤ 8 → ∀ x : Int, Ev (fun k => impl_SumMore.l0 k (crcN d x) s (wrap64 (i + 1))) r → Ev (fun k => impl_SumMore.l1 k x s i ((8 - d : Nat) : Int)) r := by
  intro d
  induction d with
  | zero =>
    intro _ x h
    refine Ev.step (fun k => by rw [impl_SumMore.l1]) ?_
    exact ev_neg (by omega) h
  | succ d ih =>
    intro hd x h
    refine Ev.step (fun k => by rw [impl_SumMore.l1]) ?_
    refine ev_pos (by omega) ?_
    have hi := ih (by omega) (crcBit x) h
    have e : wrap64 (((8 - (d + 1) : Nat) : Int) + 1) = ((8 - d : Nat) : Int) := by rw [w64 (by omega) (by omega)]; omega
    rw [e]
    unfold crcBit at hi
    by_cases ho : Int.tmod x 2 = 1
    · refine ev_pos ho ?_
      rwa [if_pos ho] at hi
    · refine ev_neg ho ?_
      rwa [if_neg ho] at hi
theorem impl_loop (s : ByteArray) (hs : s.size ≤ 140737488351232) : ∀ (d i : Nat), s.size - i = d → i ≤ s.size → ∀ x : Int, Ev (fun k => impl_SumMore.l0 k x s (i : Int)) (crcS x ((bytesOf s).drop i)) := by
  intro d
  induction d with
  | zero =>
    intro i hd hi x
    refine Ev.step (fun k => by rw [impl_SumMore.l0]) ?_
    refine ev_neg (by omega) ?_
    rw [List.drop_of_length_le (by rw [bytesOf_length]; omega)]
    exact Ev.now _
  | succ d ih =>
    intro i hd hi x
    refine Ev.step (fun k => by rw [impl_SumMore.l0]) ?_
    refine ev_pos (by omega) (ev_pos (by omega) ?_)
    rw [drop_bytes s i (by omega)]
    refine impl_bit s i _ 8 (by omega) _ ?_
    rw [show wrap64 ((i : Int) + 1) = ((i + 1 : Nat) : Int) by rw [w64 (by omega) (by omega)]; omega]
    exact ih (i + 1) (by omega) (by omega) _
theorem impl_more (s : ByteArray) (hs : s.size ≤ 140737488351232) (x : Int) : Ev (fun k => impl_SumMore.f k x s) (crcS x (bytesOf s)) := by
  have := impl_loop s hs s.size 0 (by omega) (by omega) x
  simpa [impl_SumMore.f] using this

theorem spec_of (s : ByteArray) (hs : s.size ≤ 140737488351232) : Ev (fun k => spec_SumOf.f k s) (crcS 4294967295 (bytesOf s)) := by
  simp only [spec_SumOf.f]
  exact Ev.bind (spec_more s hs 4294967295) (Ev.now _)

theorem impl_of (s : ByteArray) (hs : s.size ≤ 140737488351232) : Ev (fun k => impl_SumOf.f k s) (crcS 4294967295 (bytesOf s)) := by
  simp only [impl_SumOf.f]
  exact Ev.bind (impl_more s hs 4294967295) (Ev.now _)

def four (n : Int) : List Int := [(n / 16777216) % 256, (n / 65536) % 256, (n / 256) % 256, n % 256]

/-- What Sealed answers. -/
def sealedV (s : ByteArray) : ByteArray × Bool := if (s.size : Int) > 20000 then (⟨#[]⟩, false) else (s ++ strOfNums (four (crcS 4294967295 (bytesOf s))), true)
theorem impl_Sealed_ev (s : ByteArray) (hs : s.size ≤ 140737488351232) : Ev (fun k => impl_Sealed.f k s) (sealedV s) := by
  simp only [impl_Sealed.f, Option.bind_some]
  unfold sealedV
  by_cases hb : (s.size : Int) > 20000
  · rw [if_pos hb]; exact ev_pos hb (Ev.now _)
  · rw [if_neg hb]
    refine ev_neg hb (Ev.bind (impl_of s hs) (ev_pos ?_ (Ev.now _)))
    rw [strOfNums_size]; simp; omega

theorem toList_size (s : ByteArray) : s.toList.length = s.size := by rw [ByteArray.toList_eq, Array.length_toList]; rfl
theorem extract_toList (s : ByteArray) (i j : Nat) : (s.extract i j).toList = (s.toList.drop i).take (j - i) := by
  rw [ByteArray.toList_eq, ByteArray.toList_eq]; simp [ByteArray.data_extract, List.extract_eq_take_drop]
theorem append_toList (s t : ByteArray) : (s ++ t).toList = s.toList ++ t.toList := by
  rw [ByteArray.toList_eq, ByteArray.toList_eq, ByteArray.toList_eq]; simp [ByteArray.data_append]
theorem nums_toList (l : List Int) : (strOfNums l).toList = l.map fun n => UInt8.ofNat n.toNat := by rw [ByteArray.toList_eq, strOfNums_data]

/-- What Unsealed answers. -/
def unsealedV (s : ByteArray) : ByteArray × Bool :=
  if s.size < 4 then (⟨#[]⟩, false) else
  if 20004 < s.size then (⟨#[]⟩, false) else
  if (s.extract (s.size - 4) s.size).toList = (strOfNums (four (crcS 4294967295 (bytesOf (s.extract 0 (s.size - 4)))))).toList then (s.extract 0 (s.size - 4), true) else (⟨#[]⟩, false)
theorem ext_size (s : ByteArray) (n : Nat) (h : n ≤ s.size) : (s.extract 0 n).size = n := by rw [ByteArray.size_extract]; omega
theorem impl_Unsealed_ev (s : ByteArray) (hs : s.size ≤ 140737488351232) : Ev (fun k => impl_Unsealed.f k s) (unsealedV s) := by
  simp only [impl_Unsealed.f]
  unfold unsealedV
  by_cases h0 : s.size < 4
  · rw [if_pos h0]; exact ev_pos (by omega) (Ev.now _)
  rw [if_neg h0]
  have e : wrap64 ((s.size : Int) - 4) = ((s.size - 4 : Nat) : Int) := by rw [w64 (by omega) (by omega)]; omega
  rw [e, Int.toNat_natCast]
  have hz := ext_size s (s.size - 4) (by omega)
  refine ev_neg (by omega) (ev_pos (by omega) (ev_pos (by omega) (Ev.bind (impl_Sealed_ev (s.extract 0 (s.size - 4)) (by omega)) ?_)))
  unfold sealedV
  rw [hz]
  by_cases h1 : 20004 < s.size
  · rw [if_pos h1, if_pos (show ((s.size - 4 : Nat) : Int) > 20000 by omega)]
    exact ev_neg Bool.false_ne_true (Ev.now _)
  · rw [if_neg h1, if_neg (show ¬ ((s.size - 4 : Nat) : Int) > 20000 by omega)]
    refine ev_pos rfl ?_
    have key : (s.extract 0 (s.size - 4) ++ strOfNums (four (crcS 4294967295 (bytesOf (s.extract 0 (s.size - 4)))))).toList = s.toList ↔ (s.extract (s.size - 4) s.size).toList = (strOfNums (four (crcS 4294967295 (bytesOf (s.extract 0 (s.size - 4)))))).toList := by
      generalize strOfNums (four (crcS 4294967295 (bytesOf (s.extract 0 (s.size - 4))))) = t
      rw [append_toList, extract_toList, extract_toList, List.drop_zero, Nat.sub_zero, List.take_of_length_le (l := s.toList.drop (s.size - 4)) (by rw [List.length_drop, toList_size]; omega)]
      constructor
      · intro h
        have h2 := congrArg (List.drop (s.size - 4)) h
        rw [List.drop_left' (by rw [List.length_take, toList_size]; omega)] at h2
        exact h2.symm
      · intro h
        rw [← h, List.take_append_drop]
    by_cases h2 : (s.extract (s.size - 4) s.size).toList = (strOfNums (four (crcS 4294967295 (bytesOf (s.extract 0 (s.size - 4)))))).toList
    · rw [if_pos h2]; exact ev_pos (key.2 h2) (Ev.now _)
    · rw [if_neg h2]; exact ev_neg (fun h => h2 (key.1 h)) (Ev.now _)

theorem spec_Unsealed_ev (s : ByteArray) (hs : s.size ≤ 140737488351232) : Ev (fun k => spec_Unsealed.f k s) (unsealedV s) := by
  simp only [spec_Unsealed.f, spec_l02Four.f]
  unfold unsealedV
  have e : wrap64 ((s.size : Int) - 4) = (s.size : Int) - 4 := w64 (by omega) (by omega)
  rw [e]
  by_cases h0 : s.size < 4
  · rw [if_pos h0]; exact ev_pos (by omega) (Ev.now _)
  rw [if_neg h0]
  have e1 : ((s.size : Int) - 4).toNat = s.size - 4 := by omega
  rw [e1]
  have hz := ext_size s (s.size - 4) (by omega)
  by_cases h1 : 20004 < s.size
  · rw [if_pos h1]
    exact ev_neg (by omega) (ev_pos (by omega) (Ev.now _))
  · rw [if_neg h1]
    refine ev_neg (by omega) (ev_neg (by omega) (ev_pos (by omega) (ev_pos (by omega) (Ev.bind (spec_of (s.extract 0 (s.size - 4)) (by omega)) ?_))))
    by_cases h2 : (s.extract (s.size - 4) s.size).toList = (strOfNums (four (crcS 4294967295 (bytesOf (s.extract 0 (s.size - 4)))))).toList
    · rw [if_pos h2]; exact ev_pos h2 (Ev.now _)
    · rw [if_neg h2]; exact ev_neg h2 (Ev.now _)
theorem FnExactUnsealed : laws_FnExactUnsealed.Pure := by
  intro a0 h1
  refine Ev.rounds (g := fun k => laws_FnExactUnsealed.f k a0) ?_
  simp only [laws_FnExactUnsealed.f]
  by_cases hb : (a0.size : Int) > 1048576
  · exact ev_pos hb (Ev.now _)
  · refine ev_neg hb (Ev.bind (spec_Unsealed_ev a0 h1) (Ev.bind (impl_Unsealed_ev a0 h1) ?_))
    simp
    exact Ev.now _

end Go.Proofs.Ytgjmkljhllbanaa.Pure
