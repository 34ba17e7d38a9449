/- The law FnTurned answers true for every input: what is sealed comes back, and what is turned at one byte does not; the sum goes on where it stopped. -/
import Derived.Test.YtcenljfmkoogbaaGFnTurnedx2
import Derived.Test.YtcenljfmkoogbaaWSized
set_option linter.unusedVariables false
set_option linter.unusedSimpArgs false
namespace Go.Proofs.Ytcenljfmkoogbaa.Pure
open Go.RowKit Go.Proofs.Ytcenljfmkoogbaa.GFnTurned Go.Proofs.YtcenljfmkoogbaaW.PrintWords Go.Proofs.YtcenljfmkoogbaaW.PrintLast

theorem w64 {n : Int} (h0 : -9223372036854775808 ≤ n) (h1 : n ≤ 9223372036854775807) : wrap64 n = n := by unfold wrap64; omega
theorem ev_pos {α : Type} {c : Prop} [Decidable c] {f g : Nat → Option α} {r : α} (h : c) (k : Ev f r) : Ev (fun n => if c then f n else g n) r := by
  simpa only [if_pos h] using k
theorem ev_neg {α : Type} {c : Prop} [Decidable c] {f g : Nat → Option α} {r : α} (h : ¬ c) (k : Ev g r) : Ev (fun n => if c then f n else g n) r := by
  simpa only [if_neg h] using k
theorem tdivN (n m : Nat) : Int.tdiv (n : Int) (m : Int) = ((n / m : Nat) : Int) := rfl
theorem tmodN (n m : Nat) : Int.tmod (n : Int) (m : Int) = ((n % m : Nat) : Int) := rfl
theorem tdiv_pos' {n m : Int} (h : 0 ≤ n) : Int.tdiv n m = n / m := Int.tdiv_eq_ediv_of_nonneg h
theorem tmod_pos' {n m : Int} (h : 0 ≤ n) : Int.tmod n m = n % m := Int.tmod_eq_emod_of_nonneg h
theorem bt_rng (s : ByteArray) (i : Int) : 0 ≤ bt s i ∧ bt s i ≤ 255 := bt_range s i
theorem bt_bytes (s : ByteArray) (i : Nat) : bt s i = (bytesOf s).getD i 0 := (rd_bytesOf s i).symm
theorem drop_bytes (s : ByteArray) (i : Nat) (h : i < s.size) : (bytesOf s).drop i = bt s i :: (bytesOf s).drop (i + 1) := by
  have h' : i < (bytesOf s).length := by rw [bytesOf_length]; exact h
  rw [List.drop_eq_getElem_cons h', bt_bytes, List.getD_eq_getElem?_getD, List.getElem?_eq_getElem h']
  rfl

def crcBit (x : Int) : Int := if Int.tmod x 2 = 1 then Go.bits .xor .u32 ((Int.tdiv x 2) % 4294967296) 3558460437 else (Int.tdiv x 2) % 4294967296
def crcN : Nat → Int → Int
  | 0, x => x
  | n + 1, x => crcN n (crcBit x)
def crcB (x b : Int) : Int := crcN 8 (Go.bits .xor .u32 x (b % 4294967296))
def crcS (x : Int) (l : List Int) : Int := l.foldl crcB x

theorem impl_bit (s : ByteArray) (i r : Int) : ∀ d : Nat, d ≤ 8 → ∀ x : Int, Ev (fun k => impl_SumMore.l0 k (crcN d x) s (wrap64 (i + 1))) r → Ev (fun k => impl_SumMore.l1 k x s i ((8 - d : Nat) : Int)) r := by
  intro d
  induction d with
  | zero =>
    intro _ x h
    refine Ev.step (fun k => by rw [impl_SumMore.l1]) ?_
    exact ev_neg (by omega) h
  | succ d ih =>
    intro hd x h
    refine Ev.step (fun k => by rw [impl_SumMore.l1]) ?_
    refine ev_pos (by omega) ?_
    have hi := ih (by omega) (crcBit x) h
    have e : wrap64 (((8 - (d + 1) : Nat) : Int) + 1) = ((8 - d : Nat) : Int) := by rw [w64 (by omega) (by omega)]; omega
    rw [e]
    unfold crcBit at hi
    by_cases ho : Int.tmod x 2 = 1
    · refine ev_pos ho ?_
      rwa [if_pos ho] at hi
    · refine ev_neg ho ?_
      rwa [if_neg ho] at hi
theorem impl_loop (s : ByteArray) (hs : s.size ≤ 140737488351232) : ∀ (d i : Nat), s.size - i = d → i ≤ s.size → ∀ x : Int, Ev (fun k => impl_SumMore.l0 k x s (i : Int)) (crcS x ((bytesOf s).drop i)) := by
  intro d
  induction d with
  | zero =>
    intro i hd hi x
    refine Ev.step (fun k => by rw [impl_SumMore.l0]) ?_
    refine ev_neg (by omega) ?_
    rw [List.drop_of_length_le (by rw [bytesOf_length]; omega)]
    exact Ev.now _
  | succ d ih =>
    intro i hd hi x
    refine Ev.step (fun k => by rw [impl_SumMore.l0]) ?_
    refine ev_pos (by omega) (ev_pos (by omega) ?_)
    rw [drop_bytes s i (by omega)]
    refine impl_bit s i _ 8 (by omega) _ ?_
    rw [show wrap64 ((i : Int) + 1) = ((i + 1 : Nat) : Int) by rw [w64 (by omega) (by omega)]; omega]
    exact ih (i + 1) (by omega) (by omega) _
theorem impl_more (s : ByteArray) (hs : s.size ≤ 140737488351232) (x : Int) : Ev (fun k => impl_SumMore.f k x s) (crcS x (bytesOf s)) := by
  have := impl_loop s hs s.size 0 (by omega) (by omega) x
  simpa [impl_SumMore.f] using this

theorem impl_of (s : ByteArray) (hs : s.size ≤ 140737488351232) : Ev (fun k => impl_SumOf.f k s) (crcS 4294967295 (bytesOf s)) := by
  simp only [impl_SumOf.f]
  exact Ev.bind (impl_more s hs 4294967295) (Ev.now _)

def four (n : Int) : List Int := [(n / 16777216) % 256, (n / 65536) % 256, (n / 256) % 256, n % 256]

/-- What Sealed answers. -/
def sealedV (s : ByteArray) : ByteArray × Bool := if (s.size : Int) > 20000 then (⟨#[]⟩, false) else (s ++ strOfNums (four (crcS 4294967295 (bytesOf s))), true)
theorem impl_Sealed_ev (s : ByteArray) (hs : s.size ≤ 140737488351232) : Ev (fun k => impl_Sealed.f k s) (sealedV s) := by
  simp only [impl_Sealed.f, Option.bind_some]
  unfold sealedV
  by_cases hb : (s.size : Int) > 20000
  · rw [if_pos hb]; exact ev_pos hb (Ev.now _)
  · rw [if_neg hb]
    refine ev_neg hb (Ev.bind (impl_of s hs) (ev_pos ?_ (Ev.now _)))
    rw [strOfNums_size]; simp; omega

theorem toList_size (s : ByteArray) : s.toList.length = s.size := by rw [ByteArray.toList_eq, Array.length_toList]; rfl
theorem extract_toList (s : ByteArray) (i j : Nat) : (s.extract i j).toList = (s.toList.drop i).take (j - i) := by
  rw [ByteArray.toList_eq, ByteArray.toList_eq]; simp [ByteArray.data_extract, List.extract_eq_take_drop]
theorem append_toList (s t : ByteArray) : (s ++ t).toList = s.toList ++ t.toList := by
  rw [ByteArray.toList_eq, ByteArray.toList_eq, ByteArray.toList_eq]; simp [ByteArray.data_append]
theorem nums_toList (l : List Int) : (strOfNums l).toList = l.map fun n => UInt8.ofNat n.toNat := by rw [ByteArray.toList_eq, strOfNums_data]

def bN (s : ByteArray) : List Nat := s.data.toList.map UInt8.toNat
theorem bN_len (s : ByteArray) : (bN s).length = s.size := by rw [bN, List.length_map, Array.length_toList]; rfl
theorem bN_lt (s : ByteArray) : ∀ b ∈ bN s, b < 256 := by
  intro b hb
  obtain ⟨c, _, rfl⟩ := List.mem_map.1 hb
  exact c.toNat_lt
theorem bt_bN (s : ByteArray) (i : Nat) : bt s i = ((bN s).getD i 0 : Nat) := by
  unfold bt bN
  split
  · rename_i h
    have h' : i < s.data.toList.length := by rw [Array.length_toList]; exact h
    simp [List.getD_eq_getElem?_getD, List.getElem?_eq_getElem h']
    rfl
  · rename_i h
    have h' : s.data.toList.length ≤ i := by rw [Array.length_toList]; simpa using h
    simp [List.getD_eq_getElem?_getD, List.getElem?_eq_none h']
theorem bN_toList (s : ByteArray) : s.toList = (bN s).map UInt8.ofNat := by
  rw [ByteArray.toList_eq, bN, List.map_map]
  symm
  exact (List.map_congr_left (fun b _ => by simp)).trans (List.map_id _)
theorem drop_get (l : List Nat) (i : Nat) (pre : List Nat) (c : Nat) (rest : List Nat) (h : l.drop i = pre ++ c :: rest) : l.getD (i + pre.length) 0 = c := by
  have h2 : (l.drop i)[pre.length]? = some c := by rw [h, List.getElem?_append_right (Nat.le_refl _)]; simp
  rw [List.getElem?_drop] at h2
  rw [List.getD_eq_getElem?_getD, h2]; rfl

/-- What Unsealed answers. -/
def unsealedV (s : ByteArray) : ByteArray × Bool :=
  if s.size < 4 then (⟨#[]⟩, false) else
  if 20004 < s.size then (⟨#[]⟩, false) else
  if (s.extract (s.size - 4) s.size).toList = (strOfNums (four (crcS 4294967295 (bytesOf (s.extract 0 (s.size - 4)))))).toList then (s.extract 0 (s.size - 4), true) else (⟨#[]⟩, false)
theorem ext_size (s : ByteArray) (n : Nat) (h : n ≤ s.size) : (s.extract 0 n).size = n := by rw [ByteArray.size_extract]; omega
theorem impl_Unsealed_ev (s : ByteArray) (hs : s.size ≤ 140737488351232) : Ev (fun k => impl_Unsealed.f k s) (unsealedV s) := by
  simp only [impl_Unsealed.f]
  unfold unsealedV
  by_cases h0 : s.size < 4
  · rw [if_pos h0]; exact ev_pos (by omega) (Ev.now _)
  rw [if_neg h0]
  have e : wrap64 ((s.size : Int) - 4) = ((s.size - 4 : Nat) : Int) := by rw [w64 (by omega) (by omega)]; omega
  rw [e, Int.toNat_natCast]
  have hz := ext_size s (s.size - 4) (by omega)
  refine ev_neg (by omega) (ev_pos (by omega) (ev_pos (by omega) (Ev.bind (impl_Sealed_ev (s.extract 0 (s.size - 4)) (by omega)) ?_)))
  unfold sealedV
  rw [hz]
  by_cases h1 : 20004 < s.size
  · rw [if_pos h1, if_pos (show ((s.size - 4 : Nat) : Int) > 20000 by omega)]
    exact ev_neg Bool.false_ne_true (Ev.now _)
  · rw [if_neg h1, if_neg (show ¬ ((s.size - 4 : Nat) : Int) > 20000 by omega)]
    refine ev_pos rfl ?_
    have key : (s.extract 0 (s.size - 4) ++ strOfNums (four (crcS 4294967295 (bytesOf (s.extract 0 (s.size - 4)))))).toList = s.toList ↔ (s.extract (s.size - 4) s.size).toList = (strOfNums (four (crcS 4294967295 (bytesOf (s.extract 0 (s.size - 4)))))).toList := by
      generalize strOfNums (four (crcS 4294967295 (bytesOf (s.extract 0 (s.size - 4))))) = t
      rw [append_toList, extract_toList, extract_toList, List.drop_zero, Nat.sub_zero, List.take_of_length_le (l := s.toList.drop (s.size - 4)) (by rw [List.length_drop, toList_size]; omega)]
      constructor
      · intro h
        have h2 := congrArg (List.drop (s.size - 4)) h
        rw [List.drop_left' (by rw [List.length_take, toList_size]; omega)] at h2
        exact h2.symm
      · intro h
        rw [← h, List.take_append_drop]
    by_cases h2 : (s.extract (s.size - 4) s.size).toList = (strOfNums (four (crcS 4294967295 (bytesOf (s.extract 0 (s.size - 4)))))).toList
    · rw [if_pos h2]; exact ev_pos (key.2 h2) (Ev.now _)
    · rw [if_neg h2]; exact ev_neg (fun h => h2 (key.1 h)) (Ev.now _)

/-! The sum: each step can be turned back. -/
theorem xor32 (a b : Nat) (ha : a < 4294967296) (hb : b < 4294967296) : Go.bits .xor .u32 (a : Int) (b : Int) = ((a ^^^ b : Nat) : Int) := by
  have e : Go.bits .xor .u32 (a : Int) (b : Int) = IntKind.u32.wrap ((BitVec.ofInt 32 (a : Int) ^^^ BitVec.ofInt 32 (b : Int)).toNat : Int) := rfl
  have e1 : (BitVec.ofInt 32 (a : Int)).toNat = a := by rw [BitVec.toNat_ofInt]; omega
  have e2 : (BitVec.ofInt 32 (b : Int)).toNat = b := by rw [BitVec.toNat_ofInt]; omega
  have hx : a ^^^ b < 2 ^ 32 := Nat.xor_lt_two_pow (by omega) (by omega)
  rw [e, BitVec.toNat_xor, e1, e2, IntKind.wrap_u32]
  omega
def crcBitN (n : Nat) : Nat := if n % 2 = 1 then (n / 2) ^^^ 3558460437 else n / 2
theorem crcBitN_lt (n : Nat) (h : n < 4294967296) : crcBitN n < 4294967296 := by
  unfold crcBitN
  split
  · exact Nat.xor_lt_two_pow (n := 32) (by omega) (by omega)
  · omega
theorem crcBit_nat (n : Nat) (h : n < 4294967296) : crcBit (n : Int) = ((crcBitN n : Nat) : Int) := by
  unfold crcBit crcBitN
  have e1 : Int.tmod (n : Int) 2 = ((n % 2 : Nat) : Int) := rfl
  have e2 : Int.tdiv (n : Int) 2 = ((n / 2 : Nat) : Int) := rfl
  have e3 : ((n / 2 : Nat) : Int) % 4294967296 = ((n / 2 : Nat) : Int) := by omega
  rw [e1, e2, e3]
  by_cases c : n % 2 = 1
  · rw [if_pos c, if_pos (by omega)]
    exact xor32 (n / 2) 3558460437 (by omega) (by omega)
  · rw [if_neg c, if_neg (by omega)]
theorem xor_cancel (a b p : Nat) (h : a ^^^ p = b ^^^ p) : a = b := by
  have h2 : (a ^^^ p) ^^^ p = (b ^^^ p) ^^^ p := by rw [h]
  rwa [Nat.xor_assoc, Nat.xor_assoc, Nat.xor_self, Nat.xor_zero, Nat.xor_zero] at h2
theorem xor_top (a b : Nat) (ha : a < 2147483648) (hb : b < 2147483648) : a ^^^ 3558460437 ≠ b := by
  intro h
  have h1 : (a ^^^ 3558460437).testBit 31 = b.testBit 31 := by rw [h]
  have ta : a.testBit 31 = false := Nat.testBit_lt_two_pow (by omega)
  have tb : b.testBit 31 = false := Nat.testBit_lt_two_pow (by omega)
  rw [Nat.testBit_xor, ta, tb] at h1
  revert h1
  decide
theorem crcBitN_inj (a b : Nat) (ha : a < 4294967296) (hb : b < 4294967296) (h : crcBitN a = crcBitN b) : a = b := by
  unfold crcBitN at h
  by_cases ca : a % 2 = 1 <;> by_cases cb : b % 2 = 1
  · rw [if_pos ca, if_pos cb] at h
    have := xor_cancel _ _ _ h
    omega
  · rw [if_pos ca, if_neg cb] at h
    exact absurd h (xor_top _ _ (by omega) (by omega))
  · rw [if_neg ca, if_pos cb] at h
    exact absurd h.symm (xor_top _ _ (by omega) (by omega))
  · rw [if_neg ca, if_neg cb] at h
    omega
theorem crcN_nat : ∀ (k n : Nat), n < 4294967296 → ∃ m : Nat, m < 4294967296 ∧ crcN k (n : Int) = (m : Int)
  | 0, n, h => ⟨n, h, rfl⟩
  | k + 1, n, h => by
    rw [crcN, crcBit_nat n h]
    exact crcN_nat k _ (crcBitN_lt n h)
theorem crcN_inj : ∀ (k a b : Nat), a < 4294967296 → b < 4294967296 → crcN k (a : Int) = crcN k (b : Int) → a = b
  | 0, a, b, _, _, h => by rw [crcN, crcN] at h; omega
  | k + 1, a, b, ha, hb, h => by
    rw [crcN, crcN, crcBit_nat a ha, crcBit_nat b hb] at h
    exact crcBitN_inj a b ha hb (crcN_inj k _ _ (crcBitN_lt a ha) (crcBitN_lt b hb) h)
theorem crcB_nat (x b : Nat) (hx : x < 4294967296) (hb : b < 256) : crcB (x : Int) (b : Int) = crcN 8 ((x ^^^ b : Nat) : Int) ∧ x ^^^ b < 4294967296 := by
  have hl : x ^^^ b < 2 ^ 32 := Nat.xor_lt_two_pow (by omega) (by omega)
  unfold crcB
  have e : (b : Int) % 4294967296 = (b : Int) := by omega
  rw [e, xor32 x b hx (by omega)]
  exact ⟨rfl, hl⟩
theorem crcS_nat : ∀ (l : List Nat) (x : Nat), x < 4294967296 → (∀ b ∈ l, b < 256) → ∃ m : Nat, m < 4294967296 ∧ crcS (x : Int) (l.map fun (b : Nat) => (b : Int)) = (m : Int)
  | [], x, h, _ => ⟨x, h, rfl⟩
  | b :: l, x, h, hb => by
    obtain ⟨e, hl⟩ := crcB_nat x b h (hb b (by simp))
    obtain ⟨m, hm, e2⟩ := crcN_nat 8 _ hl
    obtain ⟨m2, h2, e3⟩ := crcS_nat l m hm (fun c hc => hb c (List.mem_cons_of_mem _ hc))
    refine ⟨m2, h2, ?_⟩
    rw [List.map_cons]
    show crcS (crcB (x : Int) (b : Int)) _ = _
    rw [e, e2]
    exact e3
theorem crcS_inj : ∀ (l : List Nat) (x y : Nat), x < 4294967296 → y < 4294967296 → (∀ b ∈ l, b < 256) → crcS (x : Int) (l.map fun (b : Nat) => (b : Int)) = crcS (y : Int) (l.map fun (b : Nat) => (b : Int)) → x = y
  | [], x, y, _, _, _, h => by
    have : (x : Int) = (y : Int) := h
    omega
  | b :: l, x, y, hx, hy, hb, h => by
    obtain ⟨e, hl⟩ := crcB_nat x b hx (hb b (by simp))
    obtain ⟨e', hl'⟩ := crcB_nat y b hy (hb b (by simp))
    obtain ⟨m, hm, e2⟩ := crcN_nat 8 _ hl
    obtain ⟨m', hm', e2'⟩ := crcN_nat 8 _ hl'
    have h' : crcS (crcB (x : Int) (b : Int)) (l.map fun (b : Nat) => (b : Int)) = crcS (crcB (y : Int) (b : Int)) (l.map fun (b : Nat) => (b : Int)) := h
    rw [e, e', e2, e2'] at h'
    have hmm := crcS_inj l m m' hm hm' (fun c hc => hb c (List.mem_cons_of_mem _ hc)) h'
    subst hmm
    exact xor_cancel _ _ _ (crcN_inj 8 _ _ hl hl' (e2.trans e2'.symm))
/-- Texts of one length that differ at one place have other sums. -/
theorem crcS_other (p l : List Nat) (x b c : Nat) (hx : x < 4294967296) (hp : ∀ b ∈ p, b < 256) (hl : ∀ b ∈ l, b < 256) (hb : b < 256) (hc : c < 256)
    (h : crcS (x : Int) ((p ++ b :: l).map fun (b : Nat) => (b : Int)) = crcS (x : Int) ((p ++ c :: l).map fun (b : Nat) => (b : Int))) : b = c := by
  have e : ∀ d : Nat, crcS (x : Int) ((p ++ d :: l).map fun (b : Nat) => (b : Int)) = crcS (crcB (crcS (x : Int) (p.map fun (b : Nat) => (b : Int))) (d : Int)) (l.map fun (b : Nat) => (b : Int)) := by
    intro d
    unfold crcS
    rw [List.map_append, List.foldl_append, List.map_cons, List.foldl_cons]
  rw [e, e] at h
  obtain ⟨m, hm, e2⟩ := crcS_nat p x hx hp
  rw [e2] at h
  obtain ⟨e3, h3⟩ := crcB_nat m b hm hb
  obtain ⟨e4, h4⟩ := crcB_nat m c hm hc
  obtain ⟨m1, hm1, e5⟩ := crcN_nat 8 _ h3
  obtain ⟨m2, hm2, e6⟩ := crcN_nat 8 _ h4
  rw [e3, e4, e5, e6] at h
  have hmm := crcS_inj l m1 m2 hm1 hm2 hl h
  subst hmm
  have := crcN_inj 8 _ _ h3 h4 (e5.trans e6.symm)
  rw [Nat.xor_comm m b, Nat.xor_comm m c] at this
  exact xor_cancel _ _ _ this

theorem and255 (x : Int) : 0 ≤ Go.bits .and .i64 x 255 ∧ Go.bits .and .i64 x 255 ≤ 255 := by
  have h : (BitVec.ofInt 64 x &&& BitVec.ofInt 64 255).toNat ≤ 255 := by
    rw [BitVec.toNat_and]
    exact Nat.le_trans Nat.and_le_right (by decide)
  have e : Go.bits .and .i64 x 255 = IntKind.i64.wrap ((BitVec.ofInt 64 x &&& BitVec.ofInt 64 255).toNat : Int) := rfl
  rw [e, IntKind.wrap_i64]
  omega
/-- The cursor's place lies in its bytes. -/
def In (l : List Int) (i : Int) : Prop := 0 ≤ i ∧ i ≤ l.length
theorem byte_ok (l : List Int) (i h : Int) (hl : l.length ≤ 1048576) (hi : In l i) : ∃ b i' h', spec_l01Byte.f l i h = some (b, i', h') ∧ In l i' ∧ 0 ≤ b ∧ b ≤ 255 := by
  unfold spec_l01Byte.f
  obtain ⟨h0, h1⟩ := hi
  by_cases hc : i < (l.length : Int)
  · rw [if_pos hc, if_pos h0]
    have e : wrap64 (i + 1) = i + 1 := w64 (by omega) (by omega)
    exact ⟨_, _, _, rfl, by rw [e]; exact ⟨by omega, by omega⟩, (and255 _).1, (and255 _).2⟩
  · rw [if_neg hc]
    exact ⟨_, _, _, rfl, ⟨h0, h1⟩, (and255 _).1, (and255 _).2⟩
theorem below_ok (l : List Int) (i h n : Int) (hl : l.length ≤ 1048576) (hi : In l i) : ∃ b i' h', spec_l01Below.f l i h n = some (b, i', h') ∧ In l i' ∧ (n ≤ 0 → b = 0) ∧ (0 < n → 0 ≤ b ∧ b < n) := by
  unfold spec_l01Below.f
  by_cases h0 : n ≤ 0
  · rw [if_pos h0]
    exact ⟨_, _, _, rfl, hi, fun _ => rfl, fun h => by omega⟩
  rw [if_neg h0]
  by_cases h1 : n ≤ 256
  · rw [if_pos h1]
    obtain ⟨b, i', h', e, hi', hb0, hb1⟩ := byte_ok l i h hl hi
    rw [e, Option.bind_some, if_neg (by omega)]
    refine ⟨_, _, _, rfl, hi', fun h => absurd h h0, fun _ => ?_⟩
    show 0 ≤ Int.tmod b n ∧ Int.tmod b n < n
    rw [tmod_pos' hb0]
    exact ⟨Int.emod_nonneg _ (by omega), Int.emod_lt_of_pos _ (by omega)⟩
  · rw [if_neg h1]
    obtain ⟨b1, i1, h1', e1, hi1, p1, q1⟩ := byte_ok l i h hl hi
    obtain ⟨b2, i2, h2', e2, hi2, p2, q2⟩ := byte_ok l i1 h1' hl hi1
    obtain ⟨b3, i3, h3', e3, hi3, p3, q3⟩ := byte_ok l i2 h2' hl hi2
    obtain ⟨b4, i4, h4', e4, hi4, p4, q4⟩ := byte_ok l i3 h3' hl hi3
    simp only [e1, e2, e3, e4, Option.bind_some]
    rw [if_neg (by omega)]
    refine ⟨_, _, _, rfl, hi4, fun h => absurd h h0, fun _ => ?_⟩
    have w1 : wrap64 (b1 * 16777216) = b1 * 16777216 := w64 (by omega) (by omega)
    have w2 : wrap64 (b2 * 65536) = b2 * 65536 := w64 (by omega) (by omega)
    have w3 : wrap64 (b3 * 256) = b3 * 256 := w64 (by omega) (by omega)
    rw [w1, w2, w3, w64 (n := b1 * 16777216 + b2 * 65536) (by omega) (by omega), w64 (n := b1 * 16777216 + b2 * 65536 + b3 * 256) (by omega) (by omega), w64 (n := b1 * 16777216 + b2 * 65536 + b3 * 256 + b4) (by omega) (by omega), tmod_pos' (by omega)]
    exact ⟨Int.emod_nonneg _ (by omega), Int.emod_lt_of_pos _ (by omega)⟩
theorem new_loop (l : List Int) (hl : l.length ≤ 1048576) : ∀ (d i : Nat), i + d = l.length → ∀ h : Int, ∃ h', Ev (fun k => spec_l01New.l0 k l h (i : Int)) (l, 0, h') := by
  intro d
  induction d with
  | zero =>
    intro i hi h
    exact ⟨h, Ev.step (fun k => by rw [spec_l01New.l0]) (ev_neg (by omega) (Ev.now _))⟩
  | succ d ih =>
    intro i hi h
    by_cases hc : (i : Int) < 4000
    · obtain ⟨h', e⟩ := ih (i + 1) (by omega) (Go.bits .and .i64 (wrap64 ((wrap64 ((wrap64 (h * 131)) + (wrap64 (rd l i)))) + 7)) 1073741823)
      refine ⟨h', Ev.step (fun k => by rw [spec_l01New.l0]) (ev_pos (by omega) (ev_pos hc (ev_pos (by omega) ?_)))⟩
      rw [show wrap64 ((i : Int) + 1) = ((i + 1 : Nat) : Int) by rw [w64 (by omega) (by omega)]; omega]
      exact e
    · exact ⟨h, Ev.step (fun k => by rw [spec_l01New.l0]) (ev_pos (by omega) (ev_neg hc (Ev.now _)))⟩
theorem new_ok (l : List Int) (hl : l.length ≤ 1048576) : ∃ h', Ev (fun k => spec_l01New.f k l) (l, 0, h') := by
  simp only [spec_l01New.f]
  exact new_loop l hl l.length 0 (by omega) _
theorem in_zero (l : List Int) : In l 0 := ⟨by omega, by omega⟩

theorem text_loop (l : List Int) (hl : l.length ≤ 1048576) : ∀ (d : Nat) (n : Int) (acc : List Int) (j i h : Int), In l i → 0 ≤ j → n ≤ 5000 → (n - j).toNat = d → acc.length ≤ 5000 → (acc.length : Int) = j → ∃ r i' h', Ev (fun k => spec_l01Text.l0 k n acc j l i h) (r, i', h') ∧ In l i' ∧ r.size ≤ 5000 := by
  intro d
  induction d with
  | zero =>
    intro n acc j i h hi hj hn hd ha hz
    exact ⟨_, _, _, Ev.step (fun k => by rw [spec_l01Text.l0]) (ev_neg (by omega) (Ev.now _)), hi, by rw [strOfNums_size]; exact ha⟩
  | succ d ih =>
    intro n acc j i h hi hj hn hd ha hz
    obtain ⟨b, i1, h1, e1, hi1, _, _⟩ := byte_ok l i h hl hi
    have ew : wrap64 (j + 1) = j + 1 := w64 (by omega) (by omega)
    obtain ⟨r, i', h', e, hi', hr⟩ := ih n (acc ++ [b % 256]) (j + 1) i1 h1 hi1 (by omega) hn (by omega) (by rw [List.length_append]; show acc.length + 1 ≤ 5000; omega) (by rw [List.length_append]; show ((acc.length + 1 : Nat) : Int) = j + 1; omega)
    refine ⟨r, i', h', Ev.step (fun k => by rw [spec_l01Text.l0]) (ev_pos (by omega) (Ev.bind (g := fun _ => spec_l01Byte.f l i h) (by rw [e1]; exact Ev.now _) ?_)), hi', hr⟩
    rw [ew]
    have hal : acc.length < 140737488355328 := by omega
    exact ev_pos hal e
theorem text_ok (l : List Int) (hl : l.length ≤ 1048576) (i h n : Int) (hi : In l i) (hn : n ≤ 5000) : ∃ r i' h', Ev (fun k => spec_l01Text.f k l i h n) (r, i', h') ∧ In l i' ∧ r.size ≤ 5000 := by
  simp only [spec_l01Text.f]
  obtain ⟨r, i', h', e, hi', hr⟩ := text_loop l hl (n - 0).toNat n [] 0 i h hi (by omega) hn rfl (by simp) rfl
  exact ⟨r, i', h', ev_neg (by omega) (Ev.step (fun k => by rw [spec_l01Text.j0]) e), hi', hr⟩

theorem places_loop (l : List Int) (hl : l.length ≤ 1048576) : ∀ (d : Nat) (acc : List Int) (j i h : Int), In l i → 0 ≤ j → (12 - j).toNat = d → j ≤ 12 → (acc.length : Int) = j → (∀ x ∈ acc, 0 ≤ x ∧ x < 10000) → ∃ r, Ev (fun k => spec_DrawPlaces.l0 k acc j l i h) r ∧ r.length = 12 ∧ ∀ x ∈ r, 0 ≤ x ∧ x < 10000 := by
  intro d
  induction d with
  | zero =>
    intro acc j i h hi hj hd hj2 hz ha
    exact ⟨acc, Ev.step (fun k => by rw [spec_DrawPlaces.l0]) (ev_neg (by omega) (Ev.now _)), by omega, ha⟩
  | succ d ih =>
    intro acc j i h hi hj hd hj2 hz ha
    obtain ⟨b, i1, h1, e1, hi1, _, hb⟩ := below_ok l i h 10000 hl hi
    have ew : wrap64 (j + 1) = j + 1 := w64 (by omega) (by omega)
    obtain ⟨r, e, hr, hx⟩ := ih (acc ++ [b]) (j + 1) i1 h1 hi1 (by omega) (by omega) (by omega) (by rw [List.length_append]; show ((acc.length + 1 : Nat) : Int) = j + 1; omega) (fun x hx => by
      rcases List.mem_append.1 hx with hx | hx
      · exact ha x hx
      · obtain rfl := List.mem_singleton.1 hx
        exact hb (by omega))
    refine ⟨r, Ev.step (fun k => by rw [spec_DrawPlaces.l0]) (ev_pos (by omega) (Ev.bind (g := fun _ => spec_l01Below.f l i h 10000) (by rw [e1]; exact Ev.now _) ?_)), hr, hx⟩
    rw [ew]
    have hal : acc.length < 17592186044416 := by omega
    exact ev_pos hal e
theorem places_ok (l : List Int) (hl : l.length ≤ 1048576) : ∃ r, Ev (fun k => spec_DrawPlaces.f k l) r ∧ r.length = 12 ∧ ∀ x ∈ r, 0 ≤ x ∧ x < 10000 := by
  simp only [spec_DrawPlaces.f]
  obtain ⟨h0, e0⟩ := new_ok l hl
  obtain ⟨b1, i1, h1, e1, hi1, _, _⟩ := byte_ok l 0 h0 hl (in_zero l)
  obtain ⟨r, e, hr⟩ := places_loop l hl 12 [] 0 i1 h1 hi1 (by omega) (by omega) (by omega) rfl (by simp)
  exact ⟨r, Ev.bind e0 (Ev.bind (g := fun _ => spec_l01Byte.f l 0 h0) (by rw [e1]; exact Ev.now _) e), hr⟩

theorem bytesOf_bN (s : ByteArray) : bytesOf s = (bN s).map fun (b : Nat) => (b : Int) := by
  unfold bytesOf bN
  rw [List.map_map]
  rfl
theorem bytes_app (s t : ByteArray) : bytesOf (s ++ t) = bytesOf s ++ bytesOf t := by
  unfold bytesOf
  rw [ByteArray.data_append, Array.toList_append, List.map_append]
theorem bN_nums (L : List Nat) (h : ∀ b ∈ L, b < 256) : bN (strOfNums (L.map fun (b : Nat) => (b : Int))) = L := by
  unfold bN
  rw [strOfNums_data, List.map_map, List.map_map]
  refine (List.map_congr_left (fun b hb => ?_)).trans (List.map_id _)
  show (UInt8.ofNat ((b : Int)).toNat).toNat = b
  rw [Int.toNat_natCast, UInt8.toNat_ofNat']
  exact Nat.mod_eq_of_lt (h b hb)
theorem map_u8_inj : ∀ (l m : List Nat), (∀ b ∈ l, b < 256) → (∀ b ∈ m, b < 256) → l.map UInt8.ofNat = m.map UInt8.ofNat → l = m
  | [], [], _, _, _ => rfl
  | [], _ :: _, _, _, h => by simp at h
  | _ :: _, [], _, _, h => by simp at h
  | a :: l, b :: m, hl, hm, h => by
    rw [List.map_cons, List.map_cons, List.cons.injEq] at h
    have e := congrArg UInt8.toNat h.1
    rw [UInt8.toNat_ofNat', UInt8.toNat_ofNat', Nat.mod_eq_of_lt (hl a (by simp)), Nat.mod_eq_of_lt (hm b (by simp))] at e
    rw [e, map_u8_inj l m (fun c hc => hl c (List.mem_cons_of_mem _ hc)) (fun c hc => hm c (List.mem_cons_of_mem _ hc)) h.2]
def fourN (m : Nat) : List Nat := [m / 16777216 % 256, m / 65536 % 256, m / 256 % 256, m % 256]
theorem four_nat (m : Nat) : four (m : Int) = (fourN m).map fun (b : Nat) => (b : Int) := by
  unfold four fourN
  simp
theorem fourN_lt (m : Nat) : ∀ b ∈ fourN m, b < 256 := by
  intro b hb
  simp only [fourN, List.mem_cons, List.not_mem_nil, or_false] at hb
  omega
theorem fourN_inj (m n : Nat) (hm : m < 4294967296) (hn : n < 4294967296) (h : fourN m = fourN n) : m = n := by
  simp only [fourN, List.cons.injEq, and_true] at h
  omega
theorem set_split (l : List Nat) (i x : Nat) (h : i < l.length) : l.set i x = l.take i ++ x :: l.drop (i + 1) ∧ l = l.take i ++ l.getD i 0 :: l.drop (i + 1) := by
  refine ⟨by rw [List.set_eq_take_append_cons_drop, if_pos h], ?_⟩
  rw [List.getD_eq_getElem?_getD, List.getElem?_eq_getElem h]
  show l = l.take i ++ l[i] :: l.drop (i + 1)
  rw [← List.drop_eq_getElem_cons h, List.take_append_drop]
theorem turned_bad (B : List Nat) (hB : ∀ b ∈ B, b < 256) (m : Nat) (hm : m < 4294967296) (hc : crcS 4294967295 (B.map fun (b : Nat) => (b : Int)) = (m : Int)) (i x : Nat) (hx : x < 256) (hi : i < B.length + 4)
    (hne : x ≠ (B ++ fourN m).getD i 0) (P Q : List Nat) (h : (B ++ fourN m).set i x = P ++ Q) (hP : P.length = B.length) (m' : Nat) (hm' : m' < 4294967296) (hc' : crcS 4294967295 (P.map fun (b : Nat) => (b : Int)) = (m' : Int)) : Q ≠ fourN m' := by
  intro hQ
  by_cases hl : i < B.length
  · rw [List.set_append_left _ _ hl] at h
    obtain ⟨e1, e2⟩ := List.append_inj h (by rw [List.length_set]; exact hP.symm)
    rw [← e2] at hQ
    have hmm := fourN_inj m m' hm hm' hQ
    subst hmm
    obtain ⟨s1, s2⟩ := set_split B i x hl
    have hb : B.getD i 0 < 256 := hB _ (by rw [List.getD_eq_getElem?_getD, List.getElem?_eq_getElem hl]; exact List.getElem_mem hl)
    have key := crcS_other (B.take i) (B.drop (i + 1)) 4294967295 x (B.getD i 0) (by omega) (fun b hb => hB b (List.mem_of_mem_take hb)) (fun b hb => hB b (List.mem_of_mem_drop hb)) hx hb (by
      rw [← s1, ← s2, e1]
      exact hc'.trans hc.symm)
    rw [List.getD_eq_getElem?_getD, List.getElem?_append_left hl, ← List.getD_eq_getElem?_getD] at hne
    exact hne key
  · rw [List.set_append_right _ _ (by omega)] at h
    obtain ⟨e1, e2⟩ := List.append_inj h hP.symm
    subst e1
    have hmm : m = m' := by rw [hc] at hc'; omega
    subst hmm
    rw [← e2] at hQ
    have hj : i - B.length < (fourN m).length := by show i - B.length < 4; omega
    have e3 := congrArg (fun q : List Nat => q.getD (i - B.length) 0) hQ
    have e4 : ((fourN m).set (i - B.length) x).getD (i - B.length) 0 = x := by
      rw [List.getD_eq_getElem?_getD, List.getElem?_set_self hj]; rfl
    rw [List.getD_eq_getElem?_getD, List.getElem?_append_right (by omega), ← List.getD_eq_getElem?_getD] at hne
    exact hne (e4.symm.trans e3)
theorem crc_nat (s : ByteArray) : ∃ m : Nat, m < 4294967296 ∧ crcS 4294967295 (bytesOf s) = (m : Int) := by
  rw [bytesOf_bN]
  exact crcS_nat (bN s) 4294967295 (by omega) (bN_lt s)
theorem bN_toList' (s t : ByteArray) : s.toList = t.toList ↔ bN s = bN t := by
  constructor
  · intro h
    rw [bN_toList, bN_toList] at h
    exact map_u8_inj _ _ (bN_lt s) (bN_lt t) h
  · intro h
    rw [bN_toList, bN_toList, h]
theorem bN_app (s t : ByteArray) : bN (s ++ t) = bN s ++ bN t := by
  unfold bN
  rw [ByteArray.data_append, Array.toList_append, List.map_append]
theorem bN_ext (s : ByteArray) (i j : Nat) : bN (s.extract i j) = ((bN s).drop i).take (j - i) := by
  unfold bN
  have e := extract_toList s i j
  rw [ByteArray.toList_eq, ByteArray.toList_eq] at e
  rw [e, List.map_take, List.map_drop]
theorem xor8 (a y : Nat) (ha : a < 256) (hy : y < 256) (h0 : 0 < y) : ∃ x : Nat, Go.bits .xor .u8 (a : Int) (y : Int) = (x : Int) ∧ x < 256 ∧ x ≠ a := by
  have e : Go.bits .xor .u8 (a : Int) (y : Int) = IntKind.u8.wrap ((BitVec.ofInt 8 (a : Int) ^^^ BitVec.ofInt 8 (y : Int)).toNat : Int) := rfl
  have h8 : (BitVec.ofInt 8 (a : Int) ^^^ BitVec.ofInt 8 (y : Int)).toNat = a ^^^ y := by
    rw [BitVec.toNat_xor, BitVec.toNat_ofInt, BitVec.toNat_ofInt]
    congr 1 <;> omega
  have hlt : a ^^^ y < 256 := Nat.xor_lt_two_pow (n := 8) ha hy
  refine ⟨a ^^^ y, ?_, hlt, ?_⟩
  · rw [e, h8, IntKind.wrap_u8]; omega
  · intro h
    have h2 : a ^^^ (a ^^^ y) = a ^^^ a := by rw [h]
    rw [← Nat.xor_assoc, Nat.xor_self, Nat.zero_xor] at h2
    omega
/-- The text turned at i: its bytes. -/
theorem turn_bN (t : ByteArray) (i y : Int) (hi : i.toNat < t.size) (hy0 : 0 ≤ y) (hy : y < 10000) : ∃ x : Nat, x < 256 ∧ x ≠ (bN t).getD i.toNat 0 ∧ bN (Sha.turnV t i y) = (bN t).set i.toNat x := by
  unfold Sha.turnV
  have hm : 0 ≤ Int.tmod y 255 ∧ Int.tmod y 255 < 255 := by rw [tmod_pos' hy0]; omega
  rw [w64 (by omega) (by omega)]
  obtain ⟨z, hz⟩ : ∃ z : Nat, (1 + Int.tmod y 255) % 256 = (z : Int) := ⟨((1 + Int.tmod y 255) % 256).toNat, by omega⟩
  have hlen : i.toNat < (bN t).length := by rw [bN_len]; exact hi
  have eb : (bytesOf t)[i.toNat]?.getD 0 = (((bN t).getD i.toNat 0 : Nat) : Int) := by
    rw [bytesOf_bN, List.getElem?_map, List.getElem?_eq_getElem hlen, List.getD_eq_getElem?_getD, List.getElem?_eq_getElem hlen]
    rfl
  have hb : (bN t).getD i.toNat 0 < 256 := bN_lt t _ (by rw [List.getD_eq_getElem?_getD, List.getElem?_eq_getElem hlen]; exact List.getElem_mem hlen)
  obtain ⟨x, ex, hx, hne⟩ := xor8 ((bN t).getD i.toNat 0) z hb (by omega) (by omega)
  refine ⟨x, hx, hne, ?_⟩
  rw [hz, eb, ex, bytesOf_bN]
  have e : ((bN t).map fun (b : Nat) => (b : Int)).set i.toNat (x : Int) = ((bN t).set i.toNat x).map fun (b : Nat) => (b : Int) := by rw [List.map_set]
  rw [e, bN_nums]
  intro b hb
  rcases List.mem_or_eq_of_mem_set hb with h | h
  · exact bN_lt t b h
  · rw [h]; exact hx
theorem sealed_bN (s : ByteArray) (m : Nat) (hc : crcS 4294967295 (bytesOf s) = (m : Int)) : bN (s ++ strOfNums (four (crcS 4294967295 (bytesOf s)))) = bN s ++ fourN m := by
  rw [bN_app, hc, four_nat, bN_nums _ (fourN_lt m)]
theorem unseal_good (s : ByteArray) (hs : s.size ≤ 5000) (t : ByteArray) (ht : t = s ++ strOfNums (four (crcS 4294967295 (bytesOf s)))) : ∃ u, unsealedV t = (u, true) ∧ u.toList = s.toList := by
  obtain ⟨m, hm, hc⟩ := crc_nat s
  have hbt : bN t = bN s ++ fourN m := by rw [ht]; exact sealed_bN s m hc
  have hz : t.size = s.size + 4 := by rw [← bN_len, hbt, List.length_append, bN_len]; rfl
  have e0 : bN (t.extract 0 (t.size - 4)) = bN s := by
    rw [bN_ext, hbt, List.drop_zero, hz]
    exact List.take_left' (by rw [bN_len]; omega)
  have e1 : bN (t.extract (t.size - 4) t.size) = fourN m := by
    rw [bN_ext, hbt, List.drop_left' (by rw [bN_len]; omega)]
    exact List.take_of_length_le (by show 4 ≤ _; omega)
  unfold unsealedV
  rw [if_neg (by omega), if_neg (by omega), if_pos]
  · exact ⟨_, rfl, (bN_toList' _ _).2 e0⟩
  · rw [bN_toList', e1, bytesOf_bN, e0, ← bytesOf_bN, hc, four_nat, bN_nums _ (fourN_lt m)]
theorem unseal_bad (s : ByteArray) (hs : s.size ≤ 5000) (t : ByteArray) (ht : t = s ++ strOfNums (four (crcS 4294967295 (bytesOf s)))) (i y : Int) (hi : i.toNat < t.size) (hy0 : 0 ≤ y) (hy : y < 10000) : (unsealedV (Sha.turnV t i y)).2 = false ∧ (Sha.turnV t i y).size ≤ 6000 := by
  obtain ⟨m, hm, hc⟩ := crc_nat s
  have hbt : bN t = bN s ++ fourN m := by rw [ht]; exact sealed_bN s m hc
  have hz : t.size = s.size + 4 := by rw [← bN_len, hbt, List.length_append, bN_len]; rfl
  obtain ⟨x, hx, hne, hv⟩ := turn_bN t i y hi hy0 hy
  generalize Sha.turnV t i y = v at hv
  have hvz : v.size = s.size + 4 := by rw [← bN_len, hv, List.length_set, bN_len, hz]
  refine ⟨?_, by omega⟩
  unfold unsealedV
  rw [if_neg (by omega), if_neg (by omega), if_neg]
  intro h
  obtain ⟨m', hm', hc'⟩ := crc_nat (v.extract 0 (v.size - 4))
  rw [bN_toList', hc', four_nat, bN_nums _ (fourN_lt m')] at h
  rw [bytesOf_bN] at hc' hc
  rw [hbt] at hne hv
  refine turned_bad (bN s) (bN_lt s) m hm hc i.toNat x hx (by rw [bN_len]; omega) hne (bN (v.extract 0 (v.size - 4))) (bN (v.extract (v.size - 4) v.size)) ?_ ?_ m' hm' hc' h
  · rw [← hv, bN_ext, bN_ext, List.drop_zero, Nat.sub_zero, List.take_of_length_le (l := (bN v).drop (v.size - 4)) (by rw [List.length_drop, bN_len]; omega), List.take_append_drop]
  · rw [bN_ext, List.drop_zero, List.length_take, bN_len, bN_len]; omega
theorem FnTurned : laws_FnTurned.Pure := by
  intro l _ _ _
  refine Ev.rounds (g := fun k => laws_FnTurned.f k l) ?_
  simp only [laws_FnTurned.f, laws_big.f]
  refine Ev.bind (g := fun _ => some (decide ((l.length : Int) > 1048576))) (Ev.now _) ?_
  by_cases hb : (l.length : Int) > 1048576
  · exact ev_pos (decide_eq_true hb) (Ev.now _)
  refine ev_neg (by simpa using hb) ?_
  have hl : l.length ≤ 1048576 := by omega
  obtain ⟨s, es, hs⟩ : ∃ s, Ev (fun k => spec_DrawSumOf.f k l) s ∧ s.size ≤ 5000 := by
    simp only [spec_DrawSumOf.f]
    obtain ⟨h0, e0⟩ := new_ok l hl
    obtain ⟨b1, i1, h1, e1, hi1, _, hb1⟩ := below_ok l 0 h0 40 hl (in_zero l)
    obtain ⟨r, i2, h2, e2, _, hr⟩ := text_ok l hl i1 h1 b1 hi1 (by have := (hb1 (by omega)).2; omega)
    exact ⟨r, Ev.bind e0 (Ev.bind (g := fun _ => spec_l01Below.f l 0 h0 40) (by rw [e1]; exact Ev.now _) (Ev.bind e2 (Ev.now _))), hr⟩
  obtain ⟨p, ep, hp, hpx⟩ := places_ok l hl
  have e1 : Ev (fun k => impl_Sealed.f k s) (s ++ strOfNums (four (crcS 4294967295 (bytesOf s))), true) := by
    have h := impl_Sealed_ev s (by omega)
    rw [show sealedV s = (s ++ strOfNums (four (crcS 4294967295 (bytesOf s))), true) from if_neg (by omega)] at h
    exact h
  obtain ⟨t, ht⟩ : ∃ t, t = s ++ strOfNums (four (crcS 4294967295 (bytesOf s))) := ⟨_, rfl⟩
  rw [← ht] at e1
  have hz : t.size = s.size + 4 := by
    obtain ⟨m, hm, hc⟩ := crc_nat s
    rw [← bN_len, ht, sealed_bN s m hc, List.length_append, bN_len]; rfl
  obtain ⟨u, eu, hu⟩ := unseal_good s hs t ht
  have e2 := impl_Unsealed_ev t (by omega)
  rw [eu] at e2
  refine Ev.bind es (Ev.bind ep (Ev.bind e1 (Ev.bind e2 (ev_pos rfl (ev_pos rfl (ev_pos hu ?_))))))
  rw [show ((t.size : Int) != (wrap64 ((s.size : Int) + 4))) = false by rw [w64 (by omega) (by omega)]; exact bne_eq_false_iff_eq.2 (by omega)]
  have h0 : 0 ≤ rd p 0 ∧ rd p 0 < 10000 := by
    unfold rd
    rw [List.getD_eq_getElem?_getD, List.getElem?_eq_getElem (by show 0 < p.length; omega)]
    exact hpx _ (List.getElem_mem _)
  have h1 : 0 ≤ rd p 1 ∧ rd p 1 < 10000 := by
    unfold rd
    rw [List.getD_eq_getElem?_getD, List.getElem?_eq_getElem (by show 1 < p.length; omega)]
    exact hpx _ (List.getElem_mem _)
  have hj : 0 ≤ Int.tmod (rd p 0) (t.size : Int) ∧ Int.tmod (rd p 0) (t.size : Int) < (t.size : Int) := by
    rw [tmod_pos' h0.1]
    exact ⟨Int.emod_nonneg _ (by omega), Int.emod_lt_of_pos _ (by omega)⟩
  obtain ⟨bad, hvz⟩ := unseal_bad s hs t ht (Int.tmod (rd p 0) (t.size : Int)) (rd p 1) (by omega) h1.1 h1.2
  have e3 := impl_Unsealed_ev (Sha.turnV t (Int.tmod (rd p 0) (t.size : Int)) (rd p 1)) (by omega)
  have e4 := impl_of s (by omega)
  have e5 := impl_more (⟨#[120]⟩ : ByteArray) (by decide) (crcS 4294967295 (bytesOf s))
  have e6 := impl_of (s ++ (⟨#[120]⟩ : ByteArray)) (by rw [ByteArray.size_append]; show s.size + 1 ≤ _; omega)
  have hp0 : 0 < (p.length : Int) := by omega
  have hp1 : 1 < (p.length : Int) := by omega
  have ht0 : ¬ (t.size : Int) = 0 := by omega
  have hs1 : s.size + 1 ≤ 9223372036854775807 := by omega
  have hbad : ¬ (unsealedV (Sha.turnV t (Int.tmod (rd p 0) (t.size : Int)) (rd p 1))).2 = true := by rw [bad]; exact Bool.false_ne_true
  refine Ev.step (fun k => by rw [laws_FnTurned.j0]) (ev_neg Bool.false_ne_true (ev_pos hp0 (ev_neg ht0 (ev_pos hj.1 (ev_pos hj.2 (ev_pos hp1 (Ev.bind e3 (ev_neg hbad (Ev.bind e4 (Ev.bind e5 (ev_pos hs1 (Ev.bind e6 ?_))))))))))))
  have he : crcS (crcS 4294967295 (bytesOf s)) (bytesOf (⟨#[120]⟩ : ByteArray)) = crcS 4294967295 (bytesOf (s ++ (⟨#[120]⟩ : ByteArray))) := by
    rw [bytes_app]
    unfold crcS
    rw [List.foldl_append]
  rw [he, beq_self_eq_true]
  exact Ev.now _

end Go.Proofs.Ytcenljfmkoogbaa.Pure

namespace Go.Proofs.Ytcenljfmkoogbaa.PrintWords
open Go.ChangeShapes Go.WideShapes
/-- The words' own, under the name by which the printed row calls it. -/
theorem sized_ints {H : Type} {enc : TypeId × Value → H} {P : Program} {W : World} {base : Nat} {spare : Nat → Bool} {held : Bool} {t e : TypeId} {k : IntKind} {a : Option Addr} {len cap : Nat} {d : DataW H} {ps : List MemPlace} {ts : List TypeId} {ds : List (DataW H)} {j : Nat}
    (hsz : (DataW.weightsEach P ts ds).all (· ≤ reachBytes) = true) (ht : ts[j]? = some t) (hd : ds[j]? = some d) (hu : P.underlying t = some (.slice e)) (he : P.underlying e = some (.int k)) (hc : P.cellsOf e = 1) {B : Nat} (hB : P.bytesOf e = B)
    (h : DataW.Trod enc P W base spare held t (.slice a len cap) d ps) : len * B ≤ 140737488351232 :=
  Go.Proofs.YtcenljfmkoogbaaW.PrintWords.sized_ints hsz ht hd hu he hc hB h
end Go.Proofs.Ytcenljfmkoogbaa.PrintWords
