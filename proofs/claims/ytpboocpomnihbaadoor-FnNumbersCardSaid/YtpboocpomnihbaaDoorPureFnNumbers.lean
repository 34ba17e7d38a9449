/- The law FnNumbers answers true for every input: a number comes back from VarText and from Decimal, a text from ShortText and from Hex. -/
import Derived.Test.YtpboocpomnihbaaDoorGFnNumbersx4
import Derived.Test.YtpboocpomnihbaaDoorWSized
set_option linter.unusedVariables false
set_option linter.unusedSimpArgs false
namespace Go.Proofs.YtpboocpomnihbaaDoor.Pure
open Go.RowKit Go.Proofs.YtpboocpomnihbaaDoor.GFnNumbers Go.Proofs.YtpboocpomnihbaaDoorW.PrintWords Go.Proofs.YtpboocpomnihbaaDoorW.PrintLast

theorem w64 {n : Int} (h0 : -9223372036854775808 ≤ n) (h1 : n ≤ 9223372036854775807) : wrap64 n = n := by unfold wrap64; omega
theorem ev_pos {α : Type} {c : Prop} [Decidable c] {f g : Nat → Option α} {r : α} (h : c) (k : Ev f r) : Ev (fun n => if c then f n else g n) r := by
  simpa only [if_pos h] using k
theorem ev_neg {α : Type} {c : Prop} [Decidable c] {f g : Nat → Option α} {r : α} (h : ¬ c) (k : Ev g r) : Ev (fun n => if c then f n else g n) r := by
  simpa only [if_neg h] using k
theorem tdivN (n m : Nat) : Int.tdiv (n : Int) (m : Int) = ((n / m : Nat) : Int) := rfl
theorem tmodN (n m : Nat) : Int.tmod (n : Int) (m : Int) = ((n % m : Nat) : Int) := rfl
theorem tdiv_pos' {n m : Int} (h : 0 ≤ n) : Int.tdiv n m = n / m := Int.tdiv_eq_ediv_of_nonneg h
theorem tmod_pos' {n m : Int} (h : 0 ≤ n) : Int.tmod n m = n % m := Int.tmod_eq_emod_of_nonneg h
theorem bt_rng (s : ByteArray) (i : Int) : 0 ≤ bt s i ∧ bt s i ≤ 255 := bt_range s i
theorem bt_bytes (s : ByteArray) (i : Nat) : bt s i = (bytesOf s).getD i 0 := (rd_bytesOf s i).symm
theorem drop_bytes (s : ByteArray) (i : Nat) (h : i < s.size) : (bytesOf s).drop i = bt s i :: (bytesOf s).drop (i + 1) := by
  have h' : i < (bytesOf s).length := by rw [bytesOf_length]; exact h
  rw [List.drop_eq_getElem_cons h', bt_bytes, List.getD_eq_getElem?_getD, List.getElem?_eq_getElem h']
  rfl

def varL (n : Nat) : List Int := if 127 < n then ((n % 128 + 128 : Nat) : Int) :: varL (n / 128) else [(n : Int)]
termination_by n
decreasing_by omega

theorem impl_var (n : Nat) : ∀ acc : List Int, acc.length + n ≤ 2000000000 → Ev (fun k => impl_VarText.l0 k (n : Int) acc) (strOfNums (acc ++ varL n), true) := by
  induction n using Nat.strongRecOn with
  | _ n ih =>
    intro acc hl
    refine Ev.step (fun k => by rw [impl_VarText.l0]) ?_
    have e1 : wrap64 (Int.tdiv (n : Int) 128) = ((n / 128 : Nat) : Int) := by rw [show (128 : Int) = ((128 : Nat) : Int) from rfl, tdivN]; exact w64 (by omega) (by omega)
    have e2 : wrap64 (Int.tmod (n : Int) 128 + 128) % 256 = ((n % 128 + 128 : Nat) : Int) := by
      rw [show (128 : Int) = ((128 : Nat) : Int) from rfl, tmodN, w64 (by omega) (by omega)]; omega
    have e3 : (n : Int) % 256 = ((n % 256 : Nat) : Int) := by omega
    by_cases h : 127 < n
    · refine ev_pos (by omega) (ev_pos (by omega) ?_)
      rw [e1, e2, varL, if_pos h]
      have := ih (n / 128) (by omega) (acc ++ [((n % 128 + 128 : Nat) : Int)]) (by simp; omega)
      simpa using this
    · refine ev_neg (by omega) (ev_pos (by omega) ?_)
      rw [e3, varL, if_neg h, Nat.mod_eq_of_lt (by omega)]
      exact Ev.now _

/-- What VarText answers. -/
def varV (n : Int) : ByteArray × Bool := if 0 ≤ n ∧ n ≤ 1000000000 then (strOfNums (varL n.toNat), true) else (⟨#[]⟩, false)

theorem impl_VarText_ev (n : Int) : Ev (fun k => impl_VarText.f k n) (varV n) := by
  simp only [impl_VarText.f, impl_within.f]
  unfold varV
  by_cases h0 : 0 ≤ n
  · by_cases h1 : n ≤ 1000000000
    · obtain ⟨m, rfl⟩ := Int.eq_ofNat_of_zero_le h0
      have := impl_var m [] (by simp; omega)
      simp [h1, Option.bind_some]
      exact this
    · simp [h0, h1]; exact Ev.now _
  · simp [h0]; exact Ev.now _

theorem toList_size (s : ByteArray) : s.toList.length = s.size := by rw [ByteArray.toList_eq, Array.length_toList]; rfl
theorem extract_toList (s : ByteArray) (i j : Nat) : (s.extract i j).toList = (s.toList.drop i).take (j - i) := by
  rw [ByteArray.toList_eq, ByteArray.toList_eq]; simp [ByteArray.data_extract, List.extract_eq_take_drop]
theorem append_toList (s t : ByteArray) : (s ++ t).toList = s.toList ++ t.toList := by
  rw [ByteArray.toList_eq, ByteArray.toList_eq, ByteArray.toList_eq]; simp [ByteArray.data_append]
theorem nums_toList (l : List Int) : (strOfNums l).toList = l.map fun n => UInt8.ofNat n.toNat := by rw [ByteArray.toList_eq, strOfNums_data]

def bN (s : ByteArray) : List Nat := s.data.toList.map UInt8.toNat
theorem bN_len (s : ByteArray) : (bN s).length = s.size := by rw [bN, List.length_map, Array.length_toList]; rfl
theorem bN_lt (s : ByteArray) : ∀ b ∈ bN s, b < 256 := by
  intro b hb
  obtain ⟨c, _, rfl⟩ := List.mem_map.1 hb
  exact c.toNat_lt
theorem bt_bN (s : ByteArray) (i : Nat) : bt s i = ((bN s).getD i 0 : Nat) := by
  unfold bt bN
  split
  · rename_i h
    have h' : i < s.data.toList.length := by rw [Array.length_toList]; exact h
    simp [List.getD_eq_getElem?_getD, List.getElem?_eq_getElem h']
    rfl
  · rename_i h
    have h' : s.data.toList.length ≤ i := by rw [Array.length_toList]; simpa using h
    simp [List.getD_eq_getElem?_getD, List.getElem?_eq_none h']
theorem bN_toList (s : ByteArray) : s.toList = (bN s).map UInt8.ofNat := by
  rw [ByteArray.toList_eq, bN, List.map_map]
  symm
  exact (List.map_congr_left (fun b _ => by simp)).trans (List.map_id _)
theorem drop_get (l : List Nat) (i : Nat) (pre : List Nat) (c : Nat) (rest : List Nat) (h : l.drop i = pre ++ c :: rest) : l.getD (i + pre.length) 0 = c := by
  have h2 : (l.drop i)[pre.length]? = some c := by rw [h, List.getElem?_append_right (Nat.le_refl _)]; simp
  rw [List.getElem?_drop] at h2
  rw [List.getD_eq_getElem?_getD, h2]; rfl

def numL : List Nat → Nat
  | [] => 0
  | b :: bs => b % 128 + 128 * numL bs
theorem numL_snoc : ∀ (l : List Nat) (c : Nat), numL (l ++ [c]) = numL l + c % 128 * 128 ^ l.length
  | [], c => by simp [numL]
  | b :: l, c => by
    rw [List.cons_append, numL, numL, numL_snoc l c, List.length_cons, Nat.pow_succ, Nat.mul_add]
    rw [Nat.mul_comm (c % 128) (128 ^ l.length * 128), Nat.mul_comm (128 ^ l.length) 128, Nat.mul_assoc, Nat.mul_comm (128 ^ l.length) (c % 128)]
    omega
theorem numL_lt : ∀ l : List Nat, numL l < 128 ^ l.length
  | [] => by simp [numL]
  | b :: l => by
    have := numL_lt l
    rw [numL, List.length_cons, Nat.pow_succ]
    omega
def varN (n : Nat) : List Nat := if 127 < n then (n % 128 + 128) :: varN (n / 128) else [n]
termination_by n
decreasing_by omega
theorem varL_varN (n : Nat) : varL n = (varN n).map Int.ofNat := by
  induction n using Nat.strongRecOn with
  | _ n ih =>
    rw [varL, varN]
    split
    · rw [ih (n / 128) (by omega)]; rfl
    · rfl
theorem varN_lt (n : Nat) : ∀ b ∈ varN n, b < 256 := by
  induction n using Nat.strongRecOn with
  | _ n ih =>
    intro b hb
    rw [varN] at hb
    split at hb
    · rcases List.mem_cons.1 hb with rfl | hb
      · omega
      · exact ih (n / 128) (by omega) b hb
    · rcases List.mem_cons.1 hb with rfl | hb
      · omega
      · simp at hb
/-- One way of bytes: as long as it wants to be, it is what was written. -/
theorem one_way : ∀ (pre : List Nat) (c : Nat), (∀ b ∈ pre, 128 ≤ b ∧ b < 256) → c < 128 → ((varN (numL (pre ++ [c]))).length = pre.length + 1 ↔ varN (numL (pre ++ [c])) = pre ++ [c])
  | [], c, _, hc => by
    rw [List.nil_append, numL, numL, Nat.mul_zero, Nat.add_zero, Nat.mod_eq_of_lt hc, varN, if_neg (by omega)]
    simp
  | b :: pre, c, hp, hc => by
    have hb := hp b (by simp)
    have ih := one_way pre c (fun x hx => hp x (by simp [hx])) hc
    rw [List.cons_append, numL]
    by_cases h : numL (pre ++ [c]) = 0
    · rw [h, varN, if_neg (by omega)]
      simp
    · rw [varN, if_pos (by omega), show (b % 128 + 128 * numL (pre ++ [c])) % 128 + 128 = b by omega, show (b % 128 + 128 * numL (pre ++ [c])) / 128 = numL (pre ++ [c]) by omega]
      simp only [List.length_cons, List.cons.injEq, true_and]
      rw [← ih]
      omega
theorem ofNat_inj {l m : List Nat} (hl : ∀ b ∈ l, b < 256) (hm : ∀ b ∈ m, b < 256) : l.map UInt8.ofNat = m.map UInt8.ofNat ↔ l = m := by
  constructor
  · intro h
    have h2 := congrArg (List.map UInt8.toNat) h
    rw [List.map_map, List.map_map] at h2
    have f : ∀ q : List Nat, (∀ b ∈ q, b < 256) → q.map (UInt8.toNat ∘ UInt8.ofNat) = q := by
      intro q hq
      refine (List.map_congr_left (fun b hb => ?_)).trans (List.map_id _)
      simp only [Function.comp, UInt8.toNat_ofNat']
      exact Nat.mod_eq_of_lt (hq b hb)
    rwa [f l hl, f m hm] at h2
  · rintro rfl; rfl
/-- What ReadVar comes to: how many bytes are still allowed, those that were read, those behind. -/
def rv : Nat → List Nat → List Nat → Option (Nat × Nat)
  | 0, _, _ => none
  | _ + 1, _, [] => none
  | d + 1, pre, c :: rest => if c < 128 then (if numL (pre ++ [c]) ≤ 1000000000 ∧ varN (numL (pre ++ [c])) = pre ++ [c] then some (numL (pre ++ [c]), pre.length + 1) else none) else rv d (pre ++ [c]) rest
def rvE (at_ : Nat) : Option (Nat × Nat) → Int × Int × Bool
  | none => (0, 0, false)
  | some (n, l) => ((n : Int), ((at_ + l : Nat) : Int), true)
/-- What ReadVar answers. -/
def readV (s : ByteArray) (i : Int) : Int × Int × Bool := if 0 ≤ i ∧ i ≤ s.size then rvE i.toNat (rv 5 [] ((bN s).drop i.toNat)) else (0, 0, false)
theorem rv_ok : ∀ (d : Nat) (pre rest : List Nat) (n l : Nat), rv d pre rest = some (n, l) → n ≤ 1000000000 ∧ l ≤ pre.length + rest.length ∧ 1 ≤ l
  | 0, _, _, _, _, h => by simp [rv] at h
  | _ + 1, _, [], _, _, h => by simp [rv] at h
  | d + 1, pre, c :: rest, n, l, h => by
    rw [rv] at h
    split at h
    · split at h
      · rename_i hc
        simp only [Option.some.injEq, Prod.mk.injEq] at h
        obtain ⟨rfl, rfl⟩ := h
        exact ⟨hc.1, by simp, by omega⟩
      · simp at h
    · have := rv_ok d _ _ _ _ h
      simp at this ⊢
      omega
theorem pow_small (i : Nat) (h : i < 5) : 128 ^ i ≤ 268435456 := by
  have : i = 0 ∨ i = 1 ∨ i = 2 ∨ i = 3 ∨ i = 4 := by omega
  rcases this with rfl | rfl | rfl | rfl | rfl <;> decide
theorem small_mul (a b : Nat) (ha : a < 128) (hb : b ≤ 268435456) : a * b ≤ 34359738368 := by
  have := Nat.mul_le_mul (show a ≤ 128 by omega) hb
  omega
theorem add_small (a q b : Nat) (ha : a ≤ 268435456) (hq : q ≤ 34359738368) (hb : b = a + q) : wrap64 ((a : Int) + (q : Int)) = (b : Int) := by
  rw [w64 (by omega) (by omega)]; omega
theorem nat_small (q : Nat) (hq : q ≤ 34359738368) : wrap64 (q : Int) = (q : Int) := w64 (by omega) (by omega)
theorem mul_small (a : Nat) (i : Nat) (ha : 128 ^ i = a) (h : a ≤ 268435456) : wrap64 ((a : Int) * 128) = ((128 ^ (i + 1) : Nat) : Int) := by
  rw [Nat.pow_succ, ha, w64 (by omega) (by omega)]; omega

theorem shl_pow (x i : Nat) (hx : x < 128) (hi : i < 5) : shl .i64 (x : Int) ((7 * i : Nat) : Int) = ((x * 128 ^ i : Nat) : Int) := by
  have hpw := pow_small i hi
  have hml := small_mul x (128 ^ i) hx hpw
  have e : ((2 : Int) ^ (7 * i)) = ((128 ^ i : Nat) : Int) := by rw [Int.pow_mul, Int.natCast_pow, show (2 : Int) ^ 7 = 128 by decide]; rfl
  have e2 : min (((7 * i : Nat) : Int)).toNat IntKind.i64.bits = 7 * i := by
    rw [Int.toNat_natCast]
    show min (7 * i) 64 = 7 * i
    omega
  have e3 : (x : Int) * ((128 ^ i : Nat) : Int) = ((x * 128 ^ i : Nat) : Int) := (Int.natCast_mul _ _).symm
  unfold shl
  rw [e2, e, e3, IntKind.wrap_i64]
  clear e e2 e3 hpw
  generalize x * 128 ^ i = q at hml
  omega
theorem impl_rv (s : ByteArray) (hs : s.size ≤ 1048576) (p : Nat) (hp : p ≤ s.size) : ∀ (d : Nat) (pre rest : List Nat), d + pre.length = 5 → (bN s).drop p = pre ++ rest → (∀ b ∈ pre, 128 ≤ b ∧ b < 256) →
    Ev (fun k => impl_ReadVar.l0 k s (p : Int) (numL pre : Nat) (pre.length : Int)) (rvE p (rv d pre rest)) := by
  intro d
  induction d with
  | zero =>
    intro pre rest hd hr hb
    rw [rv]
    refine Ev.step (fun k => by rw [impl_ReadVar.l0]) ?_
    refine ev_neg (by omega) ?_
    refine Ev.step (fun k => by rw [impl_ReadVar.j1]) ?_
    exact ev_neg Bool.false_ne_true (Ev.now _)
  | succ d ih =>
    intro pre rest hd hr hb
    have hlen := congrArg List.length hr
    rw [List.length_drop, bN_len, List.length_append] at hlen
    refine Ev.step (fun k => by rw [impl_ReadVar.l0]) ?_
    have ea : wrap64 ((p : Int) + (pre.length : Int)) = ((p + pre.length : Nat) : Int) := by rw [w64 (by omega) (by omega)]; omega
    rw [ea]
    refine ev_pos (by omega) ?_
    cases rest with
    | nil =>
      rw [rv, show decide (((p + pre.length : Nat) : Int) < (s.size : Int)) = false by simp at hlen; simp; omega]
      refine Ev.step (fun k => by rw [impl_ReadVar.j1]) ?_
      exact ev_neg Bool.false_ne_true (Ev.now _)
    | cons c rest =>
      have hc : c < 256 := bN_lt s c (List.mem_of_mem_drop (i := p) (by rw [hr]; simp))
      have hbt : bt s ((p + pre.length : Nat) : Int) = (c : Int) := by rw [bt_bN, drop_get _ _ _ _ _ hr]
      simp at hlen
      rw [show decide (((p + pre.length : Nat) : Int) < (s.size : Int)) = true by simp; omega]
      refine Ev.step (fun k => by rw [impl_ReadVar.j1]) ?_
      have q1 : (0 : Int) ≤ ((p + pre.length : Nat) : Int) := Int.natCast_nonneg _
      have q2 : ((p + pre.length : Nat) : Int) < (s.size : Int) := by omega
      have q3 : (0 : Int) ≤ ((7 * pre.length : Nat) : Int) := Int.natCast_nonneg _
      have ecc : wrap64 (c : Int) = (c : Int) := w64 (by omega) (by omega)
      have e7 : wrap64 (7 * (pre.length : Int)) = ((7 * pre.length : Nat) : Int) := by rw [w64 (by omega) (by omega)]; omega
      have hi5 : pre.length < 5 := by omega
      have hc1 : c % 128 < 128 := Nat.mod_lt _ (by decide)
      have hpw := pow_small pre.length hi5
      have hml := small_mul (c % 128) (128 ^ pre.length) hc1 hpw
      have hnl := numL_lt pre
      have hsn := numL_snoc pre c
      have em : Int.tmod (c : Int) 128 = ((c % 128 : Nat) : Int) := rfl
      have esh := shl_pow (c % 128) pre.length hc1 hi5
      have en : wrap64 ((numL pre : Nat) + ((c % 128 * 128 ^ pre.length : Nat) : Int)) = (numL (pre ++ [c]) : Nat) := add_small _ _ _ (Nat.le_trans (Nat.le_of_lt hnl) hpw) hml hsn
      clear hnl hml hpw hsn
      have e1 : wrap64 (((p + pre.length : Nat) : Int) + 1) = ((p + (pre.length + 1) : Nat) : Int) := by rw [w64 (by omega) (by omega)]; omega
      have e2 : wrap64 ((pre.length : Int) + 1) = ((pre.length + 1 : Nat) : Int) := by rw [w64 (by omega) (by omega)]; omega
      rw [ea, hbt, ecc, em, e7, esh, en, e1, e2, rv]
      clear esh en em hbt ecc e7 e1 e2
      refine ev_pos rfl (ev_pos q1 (ev_pos q2 (ev_pos q3 ?_)))
      clear q1 q2 q3
      by_cases h : c < 128
      · rw [if_pos h]
        have hv := impl_VarText_ev (numL (pre ++ [c]) : Nat)
        unfold varV at hv
        by_cases hbig : numL (pre ++ [c]) ≤ 1000000000
        · rw [if_pos (by omega)] at hv
          refine ev_pos (by omega) (Ev.bind hv (ev_pos rfl ?_))
          have key := one_way pre c hb h
          rw [Int.toNat_natCast, strOfNums_size, varL_varN, List.length_map]
          by_cases hw : varN (numL (pre ++ [c])) = pre ++ [c]
          · refine ev_pos (congrArg Nat.cast (key.2 hw)) ?_
            rw [if_pos ⟨hbig, hw⟩]
            exact Ev.now _
          · refine ev_neg (fun h => hw (key.1 (Int.ofNat.inj h))) ?_
            rw [if_neg (fun h => hw h.2)]
            exact Ev.now _
        · rw [if_neg (by omega)] at hv
          rw [if_neg (fun h => hbig h.1)]
          exact ev_pos (by omega) (Ev.bind hv (ev_neg Bool.false_ne_true (Ev.now _)))
      · rw [if_neg h]
        refine ev_neg (by omega) ?_
        have := ih (pre ++ [c]) rest (by simp; omega) (by rw [hr]; simp) (fun b hb' => by
          rcases List.mem_append.1 hb' with h1 | h1
          · exact hb b h1
          · simp at h1; omega)
        rw [List.length_append, List.length_singleton] at this
        exact this
theorem impl_readvar (s : ByteArray) (hs : s.size ≤ 1048576) (i : Int) : Ev (fun k => impl_ReadVar.f k s i) (readV s i) := by
  simp only [impl_ReadVar.f, impl_within.f]
  unfold readV
  by_cases h0 : 0 ≤ i
  · by_cases h1 : i ≤ s.size
    · obtain ⟨p, rfl⟩ := Int.eq_ofNat_of_zero_le h0
      have := impl_rv s hs p (by omega) 5 [] ((bN s).drop p) (by simp) (by simp) (by simp)
      simp [h1]
      simpa [numL] using this
    · simp [h0, h1]; exact Ev.now _
  · simp [h0]; exact Ev.now _

/-- What ReadShort answers. -/
def rsV (s : ByteArray) (r : Int × Int × Bool) : ByteArray × Int × Bool :=
  if r.2.2 = true then (if r.1 > 20000 then (⟨#[]⟩, 0, false) else if r.1 > (s.size : Int) - r.2.1 then (⟨#[]⟩, 0, false) else (s.extract r.2.1.toNat (r.2.1 + r.1).toNat, r.2.1 + r.1, true)) else (⟨#[]⟩, 0, false)
theorem readV_ok (s : ByteArray) (i : Int) : (readV s i).2.2 = true → 0 ≤ (readV s i).1 ∧ (readV s i).1 ≤ 1000000000 ∧ 0 ≤ (readV s i).2.1 ∧ (readV s i).2.1 ≤ s.size := by
  unfold readV
  split
  · rename_i h
    cases hr : rv 5 [] ((bN s).drop i.toNat) with
    | none => intro h'; simp [rvE] at h'
    | some q =>
      obtain ⟨n, l⟩ := q
      have := rv_ok 5 _ _ _ _ hr
      rw [List.length_drop, bN_len] at this
      intro _
      simp only [rvE]
      simp at this
      omega
  · intro h'; simp at h'

theorem impl_readshort (s : ByteArray) (hs : s.size ≤ 1048576) (i : Int) : Ev (fun k => impl_ReadShort.f k s i) (rsV s (readV s i)) := by
  simp only [impl_ReadShort.f]
  refine Ev.bind (impl_readvar s hs i) ?_
  have hk := readV_ok s i
  generalize readV s i = r at hk
  unfold rsV
  by_cases h : r.2.2 = true
  · have hk := hk h
    have e1 : wrap64 ((s.size : Int) - r.2.1) = (s.size : Int) - r.2.1 := w64 (by omega) (by omega)
    have e2 : wrap64 (r.2.1 + r.1) = r.2.1 + r.1 := w64 (by omega) (by omega)
    rw [e1, e2]
    refine ev_pos h ?_
    rw [if_pos h]
    by_cases h1 : r.1 > 20000
    · refine ev_pos h1 ?_; rw [if_pos h1]; exact Ev.now _
    refine ev_neg h1 ?_
    rw [if_neg h1]
    by_cases h2 : r.1 > (s.size : Int) - r.2.1
    · refine ev_pos h2 ?_; rw [if_pos h2]; exact Ev.now _
    refine ev_neg h2 ?_
    rw [if_neg h2]
    exact (ev_pos (by omega) (ev_pos (by omega) (ev_pos (by omega) (Ev.now _))))
  · refine ev_neg h ?_; rw [if_neg h]; exact Ev.now _

def digV (x : Nat) : Int := if x < 10 then 48 + (x : Int) else 87 + (x : Int)

theorem fig_bt (x : Nat) (h : x < 16) : bt (⟨#[48, 49, 50, 51, 52, 53, 54, 55, 56, 57, 97, 98, 99, 100, 101, 102]⟩ : ByteArray) (x : Int) = digV x :=
  (show ∀ k : Fin 16, bt (⟨#[48, 49, 50, 51, 52, 53, 54, 55, 56, 57, 97, 98, 99, 100, 101, 102]⟩ : ByteArray) (((k : Fin 16) : Nat) : Int) = digV k by decide +kernel) ⟨x, h⟩
def hexL (l : List Nat) : List Int := l.flatMap fun b => [digV (b / 16), digV (b % 16)]
theorem hexL_len (l : List Nat) : (hexL l).length = 2 * l.length := by
  unfold hexL
  induction l with
  | nil => rfl
  | cons b l ih => simp only [List.flatMap_cons, List.length_append, ih, List.length_cons, List.length_nil]; omega
theorem impl_hex (s : ByteArray) (hs : s.size ≤ 20000) : ∀ (d i : Nat), d + i = s.size → ∀ acc : List Int, acc.length ≤ 2 * i → Ev (fun k => impl_Hex.l0 k s acc (i : Int)) (strOfNums (acc ++ hexL ((bN s).drop i)), true) := by
  intro d
  induction d with
  | zero =>
    intro i hi acc ha
    refine Ev.step (fun k => by rw [impl_Hex.l0]) ?_
    refine ev_neg (by omega) ?_
    rw [List.drop_of_length_le (by rw [bN_len]; omega)]
    simp only [hexL, List.flatMap_nil, List.append_nil]
    exact Ev.now _
  | succ d ih =>
    intro i hi acc ha
    refine Ev.step (fun k => by rw [impl_Hex.l0]) ?_
    have hl : i < (bN s).length := by rw [bN_len]; omega
    obtain ⟨b, hb, hdr⟩ : ∃ b, (bN s).getD i 0 = b ∧ (bN s).drop i = b :: (bN s).drop (i + 1) := by
      refine ⟨(bN s)[i], ?_, List.drop_eq_getElem_cons hl⟩
      rw [List.getD_eq_getElem?_getD, List.getElem?_eq_getElem hl]; rfl
    have hb2 : b < 256 := bN_lt s b (List.mem_of_mem_drop (i := i) (by rw [hdr]; simp))
    have ba : bt s (i : Int) = (b : Int) := by rw [bt_bN, hb]
    have e1 : wrap64 ((i : Int) + 1) = ((i + 1 : Nat) : Int) := by rw [w64 (by omega) (by omega)]; omega
    have e2 : Int.tdiv (b : Int) 16 % 256 = ((b / 16 : Nat) : Int) := by rw [tdiv_pos' (by omega)]; omega
    have e3 : Int.tmod (b : Int) 16 = ((b % 16 : Nat) : Int) := by rw [tmod_pos' (by omega)]; omega
    rw [ba, e1, e2, e3, fig_bt _ (by omega), fig_bt _ (by omega)]
    refine ev_pos (by omega) (ev_pos (by omega) (ev_pos (by omega) (ev_pos (by omega) (ev_pos (by omega) (ev_pos (by omega) ?_)))))
    refine Ev.bind (g := fun _ => some [digV (b / 16), digV (b % 16)]) (Ev.now _) (ev_pos (by simp; omega) ?_)
    have := ih (i + 1) (by omega) (acc ++ [digV (b / 16), digV (b % 16)]) (by simp; omega)
    rw [hdr]
    rw [List.append_assoc] at this
    exact this
def hexV2 (s : ByteArray) : ByteArray × Bool := if (s.size : Int) > 20000 then (⟨#[]⟩, false) else (strOfNums (hexL (bN s)), true)
theorem impl_hex_ev (s : ByteArray) : Ev (fun k => impl_Hex.f k s) (hexV2 s) := by
  simp only [impl_Hex.f]
  unfold hexV2
  by_cases hb : (s.size : Int) > 20000
  · rw [if_pos hb]; exact ev_pos hb (Ev.now _)
  · have := impl_hex s (by omega) s.size 0 (by omega) [] (by simp)
    refine ev_neg hb ?_
    rw [if_neg hb]
    exact this

/-- What ShortText answers. -/
def shortV (s : ByteArray) : ByteArray × Bool := if (s.size : Int) > 20000 then (⟨#[]⟩, false) else (strOfNums (varL s.size) ++ s, true)
theorem varL_len (n : Nat) : (varL n).length ≤ n + 1 := by
  induction n using Nat.strongRecOn with
  | _ n ih =>
    rw [varL]
    split
    · have := ih (n / 128) (by omega)
      simp; omega
    · simp
theorem impl_ShortText_ev (s : ByteArray) : Ev (fun k => impl_ShortText.f k s) (shortV s) := by
  simp only [impl_ShortText.f]
  unfold shortV
  by_cases hb : (s.size : Int) > 20000
  · rw [if_pos hb]; exact ev_pos hb (Ev.now _)
  · rw [if_neg hb]
    have := varL_len s.size
    have hv := impl_VarText_ev s.size
    unfold varV at hv
    rw [if_pos (by omega)] at hv
    refine ev_neg hb (Ev.bind hv (ev_pos ?_ (Ev.now _)))
    rw [strOfNums_size]; simp; omega

theorem bytesOf_bN (s : ByteArray) : bytesOf s = (bN s).map fun (b : Nat) => (b : Int) := by
  unfold bytesOf bN
  rw [List.map_map]
  rfl
theorem bytes_app (s t : ByteArray) : bytesOf (s ++ t) = bytesOf s ++ bytesOf t := by
  unfold bytesOf
  rw [ByteArray.data_append, Array.toList_append, List.map_append]
theorem bN_nums (L : List Nat) (h : ∀ b ∈ L, b < 256) : bN (strOfNums (L.map fun (b : Nat) => (b : Int))) = L := by
  unfold bN
  rw [strOfNums_data, List.map_map, List.map_map]
  refine (List.map_congr_left (fun b hb => ?_)).trans (List.map_id _)
  show (UInt8.ofNat ((b : Int)).toNat).toNat = b
  rw [Int.toNat_natCast, UInt8.toNat_ofNat']
  exact Nat.mod_eq_of_lt (h b hb)
theorem map_u8_inj : ∀ (l m : List Nat), (∀ b ∈ l, b < 256) → (∀ b ∈ m, b < 256) → l.map UInt8.ofNat = m.map UInt8.ofNat → l = m
  | [], [], _, _, _ => rfl
  | [], _ :: _, _, _, h => by simp at h
  | _ :: _, [], _, _, h => by simp at h
  | a :: l, b :: m, hl, hm, h => by
    rw [List.map_cons, List.map_cons, List.cons.injEq] at h
    have e := congrArg UInt8.toNat h.1
    rw [UInt8.toNat_ofNat', UInt8.toNat_ofNat', Nat.mod_eq_of_lt (hl a (by simp)), Nat.mod_eq_of_lt (hm b (by simp))] at e
    rw [e, map_u8_inj l m (fun c hc => hl c (List.mem_cons_of_mem _ hc)) (fun c hc => hm c (List.mem_cons_of_mem _ hc)) h.2]
theorem bN_toList' (s t : ByteArray) : s.toList = t.toList ↔ bN s = bN t := by
  constructor
  · intro h
    rw [bN_toList, bN_toList] at h
    exact map_u8_inj _ _ (bN_lt s) (bN_lt t) h
  · intro h
    rw [bN_toList, bN_toList, h]
theorem bN_app (s t : ByteArray) : bN (s ++ t) = bN s ++ bN t := by
  unfold bN
  rw [ByteArray.data_append, Array.toList_append, List.map_append]
theorem bN_ext (s : ByteArray) (i j : Nat) : bN (s.extract i j) = ((bN s).drop i).take (j - i) := by
  unfold bN
  have e := extract_toList s i j
  rw [ByteArray.toList_eq, ByteArray.toList_eq] at e
  rw [e, List.map_take, List.map_drop]

def hexV (n : Nat) : Int := if 48 ≤ n ∧ n ≤ 57 then (n : Int) - 48 else if 97 ≤ n ∧ n ≤ 102 then (n : Int) - 87 else -1
def figs : List UInt8 := [48, 49, 50, 51, 52, 53, 54, 55, 56, 57, 97, 98, 99, 100, 101, 102]
theorem index_hex (n : Nat) (h : n < 256) : Lib.indexByte figs n.toUInt8 = hexV n :=
  (show ∀ k : Fin 256, Lib.indexByte figs (k : Nat).toUInt8 = hexV k by decide +kernel) ⟨n, h⟩
theorem index_ev (n : Nat) (h : n < 256) : strings_IndexByte.f (⟨#[48, 49, 50, 51, 52, 53, 54, 55, 56, 57, 97, 98, 99, 100, 101, 102]⟩ : ByteArray) (n : Int) = some (hexV n) := by
  unfold strings_IndexByte.f
  rw [Int.toNat_natCast]
  exact congrArg some (index_hex n h)
theorem hexV_rng (n : Nat) : -1 ≤ hexV n ∧ hexV n ≤ 15 := by
  unfold hexV
  split
  · omega
  · split <;> omega
def unhexL : List Nat → Option (List Int)
  | a :: b :: r => if hexV a < 0 ∨ hexV b < 0 then none else (unhexL r).map ((((16 * hexV a + hexV b) % 256)) :: ·)
  | _ => some []
def unE (acc : List Int) : Option (List Int) → ByteArray × Bool
  | none => (⟨#[]⟩, false)
  | some l => (strOfNums (acc ++ l), true)
theorem getD_two (l : List Nat) (i a b : Nat) (r : List Nat) (h : l.drop i = a :: b :: r) : l.getD i 0 = a ∧ l.getD (i + 1) 0 = b ∧ l.drop (i + 2) = r ∧ i + 2 ≤ l.length := by
  have h0 : (l.drop i)[0]? = some a := by rw [h]; rfl
  have h1 : (l.drop i)[1]? = some b := by rw [h]; rfl
  have h2 : (l.drop i).drop 2 = r := by rw [h]; rfl
  have h3 := congrArg List.length h
  rw [List.getElem?_drop] at h0 h1
  rw [List.drop_drop] at h2
  simp only [List.length_drop, List.length_cons] at h3
  refine ⟨by rw [List.getD_eq_getElem?_getD, show l[i]? = some a from h0]; rfl, by rw [List.getD_eq_getElem?_getD, h1]; rfl, h2, by omega⟩
theorem unE_cons (acc : List Int) (x : Int) (o : Option (List Int)) : unE acc (o.map (x :: ·)) = unE (acc ++ [x]) o := by
  cases o with
  | none => rfl
  | some l => simp [unE]

theorem impl_un (s : ByteArray) (hs : s.size ≤ 40000) (he : s.size % 2 = 0) : ∀ (d i : Nat), 2 * d + i = s.size → ∀ (acc : List Int) (hf : Int), acc.length ≤ i →
    Ev (fun k => impl_Unhex.l0 k s acc hf (i : Int)) (unE acc (unhexL ((bN s).drop i))) := by
  intro d
  induction d with
  | zero =>
    intro i hi acc hf ha
    rw [List.drop_of_length_le (by rw [bN_len]; omega)]
    refine Ev.step (fun k => by rw [impl_Unhex.l0]) (ev_neg (by omega) ?_)
    simp only [unhexL, unE, List.append_nil]; exact Ev.now _
  | succ d ih =>
    intro i hi acc hf ha
    obtain ⟨a, b, r, hr⟩ : ∃ a b r, (bN s).drop i = a :: b :: r := by
      have hl : ((bN s).drop i).length = 2 * d + 2 := by rw [List.length_drop, bN_len]; omega
      match hx : (bN s).drop i, hl with
      | a :: b :: r, _ => exact ⟨a, b, r, rfl⟩
    obtain ⟨ga, gb, gr, gl⟩ := getD_two _ _ _ _ _ hr
    have ha2 : a < 256 := bN_lt s a (List.mem_of_mem_drop (i := i) (by rw [hr]; simp))
    have hb2 : b < 256 := bN_lt s b (List.mem_of_mem_drop (i := i) (by rw [hr]; simp))
    have ba : bt s (i : Int) = (a : Int) := by rw [bt_bN, ga]
    have bb : bt s ((i + 1 : Nat) : Int) = (b : Int) := by rw [bt_bN, gb]
    have e1 : wrap64 ((i : Int) + 1) = ((i + 1 : Nat) : Int) := by rw [w64 (by omega) (by omega)]; omega
    have e3 : wrap64 (((i + 1 : Nat) : Int) + 1) = ((i + 2 : Nat) : Int) := by rw [w64 (by omega) (by omega)]; omega
    have qa := hexV_rng a
    have qb := hexV_rng b
    have e4 : 0 ≤ hexV a → 0 ≤ hexV b → wrap64 (wrap64 (16 * hexV a) + hexV b) % 256 = (16 * hexV a + hexV b) % 256 := by
      intro _ _
      rw [w64 (n := 16 * hexV a) (by omega) (by omega), w64 (by omega) (by omega)]
    have p1 : i % 2 = 0 := by omega
    have t1 : Int.tmod (i : Int) 2 = 0 := by rw [tmod_pos' (by omega)]; omega
    have t2 : Int.tmod ((i + 1 : Nat) : Int) 2 = 1 := by rw [tmod_pos' (by omega)]; omega
    have hval : unhexL (a :: b :: r) = if hexV a < 0 ∨ hexV b < 0 then none else (unhexL r).map ((((16 * hexV a + hexV b) % 256)) :: ·) := by rw [unhexL]
    have ih2 := fun hf2 => ih (i + 2) (by omega) (acc ++ [(16 * hexV a + hexV b) % 256]) hf2 (by simp; omega)
    rw [gr] at ih2
    rw [hr]
    refine Ev.step (fun k => by rw [impl_Unhex.l0]) ?_
    rw [ba, index_ev a ha2, t1, e1]
    refine ev_pos (by omega) (ev_pos (by omega) (Ev.bind (g := fun _ => some (hexV a)) (Ev.now _) ?_))
    by_cases h1 : hexV a < 0
    · refine ev_pos h1 ?_
      rw [hval, if_pos (.inl h1)]
      exact Ev.now _
    refine ev_neg h1 (ev_neg (by omega) ?_)
    refine Ev.step (fun k => by rw [impl_Unhex.l0]) ?_
    rw [bb, index_ev b hb2, t2, e3]
    refine ev_pos (by omega) (ev_pos (by omega) (Ev.bind (g := fun _ => some (hexV b)) (Ev.now _) ?_))
    by_cases h2 : hexV b < 0
    · refine ev_pos h2 ?_
      rw [hval, if_pos (.inr h2)]
      exact Ev.now _
    refine ev_neg h2 (ev_pos rfl (ev_pos (by omega) ?_))
    rw [hval, if_neg (by omega), unE_cons, e4 (by omega) (by omega)]
    exact ih2 (hexV b)
theorem impl_unhex_ev (s : ByteArray) (hs : s.size ≤ 40000) (he : s.size % 2 = 0) : Ev (fun k => impl_Unhex.f k s) (unE [] (unhexL (bN s))) := by
  simp only [impl_Unhex.f]
  have h1 : ¬ ((s.size : Int) % 2) = 1 := by omega
  have h2 : decide ((s.size : Int) > 40000) = false := decide_eq_false (by omega)
  rw [h2]
  refine ev_neg h1 (Ev.step (fun k => by rw [impl_Unhex.j0]) (ev_neg Bool.false_ne_true ?_))
  have h := impl_un s hs he (s.size / 2) 0 (by omega) [] 0 (by simp)
  exact h

theorem and255 (x : Int) : 0 ≤ Go.bits .and .i64 x 255 ∧ Go.bits .and .i64 x 255 ≤ 255 := by
  have h : (BitVec.ofInt 64 x &&& BitVec.ofInt 64 255).toNat ≤ 255 := by
    rw [BitVec.toNat_and]
    exact Nat.le_trans Nat.and_le_right (by decide)
  have e : Go.bits .and .i64 x 255 = IntKind.i64.wrap ((BitVec.ofInt 64 x &&& BitVec.ofInt 64 255).toNat : Int) := rfl
  rw [e, IntKind.wrap_i64]
  omega
/-- The cursor's place lies in its bytes. -/
def In (l : List Int) (i : Int) : Prop := 0 ≤ i ∧ i ≤ l.length
theorem byte_ok (l : List Int) (i h : Int) (hl : l.length ≤ 1048576) (hi : In l i) : ∃ b i' h', spec_l01Byte.f l i h = some (b, i', h') ∧ In l i' ∧ 0 ≤ b ∧ b ≤ 255 := by
  unfold spec_l01Byte.f
  obtain ⟨h0, h1⟩ := hi
  by_cases hc : i < (l.length : Int)
  · rw [if_pos hc, if_pos h0]
    have e : wrap64 (i + 1) = i + 1 := w64 (by omega) (by omega)
    exact ⟨_, _, _, rfl, by rw [e]; exact ⟨by omega, by omega⟩, (and255 _).1, (and255 _).2⟩
  · rw [if_neg hc]
    exact ⟨_, _, _, rfl, ⟨h0, h1⟩, (and255 _).1, (and255 _).2⟩
theorem below_ok (l : List Int) (i h n : Int) (hl : l.length ≤ 1048576) (hi : In l i) : ∃ b i' h', spec_l01Below.f l i h n = some (b, i', h') ∧ In l i' ∧ (n ≤ 0 → b = 0) ∧ (0 < n → 0 ≤ b ∧ b < n) := by
  unfold spec_l01Below.f
  by_cases h0 : n ≤ 0
  · rw [if_pos h0]
    exact ⟨_, _, _, rfl, hi, fun _ => rfl, fun h => by omega⟩
  rw [if_neg h0]
  by_cases h1 : n ≤ 256
  · rw [if_pos h1]
    obtain ⟨b, i', h', e, hi', hb0, hb1⟩ := byte_ok l i h hl hi
    rw [e, Option.bind_some, if_neg (by omega)]
    refine ⟨_, _, _, rfl, hi', fun h => absurd h h0, fun _ => ?_⟩
    show 0 ≤ Int.tmod b n ∧ Int.tmod b n < n
    rw [tmod_pos' hb0]
    exact ⟨Int.emod_nonneg _ (by omega), Int.emod_lt_of_pos _ (by omega)⟩
  · rw [if_neg h1]
    obtain ⟨b1, i1, h1', e1, hi1, p1, q1⟩ := byte_ok l i h hl hi
    obtain ⟨b2, i2, h2', e2, hi2, p2, q2⟩ := byte_ok l i1 h1' hl hi1
    obtain ⟨b3, i3, h3', e3, hi3, p3, q3⟩ := byte_ok l i2 h2' hl hi2
    obtain ⟨b4, i4, h4', e4, hi4, p4, q4⟩ := byte_ok l i3 h3' hl hi3
    simp only [e1, e2, e3, e4, Option.bind_some]
    rw [if_neg (by omega)]
    refine ⟨_, _, _, rfl, hi4, fun h => absurd h h0, fun _ => ?_⟩
    have w1 : wrap64 (b1 * 16777216) = b1 * 16777216 := w64 (by omega) (by omega)
    have w2 : wrap64 (b2 * 65536) = b2 * 65536 := w64 (by omega) (by omega)
    have w3 : wrap64 (b3 * 256) = b3 * 256 := w64 (by omega) (by omega)
    rw [w1, w2, w3, w64 (n := b1 * 16777216 + b2 * 65536) (by omega) (by omega), w64 (n := b1 * 16777216 + b2 * 65536 + b3 * 256) (by omega) (by omega), w64 (n := b1 * 16777216 + b2 * 65536 + b3 * 256 + b4) (by omega) (by omega), tmod_pos' (by omega)]
    exact ⟨Int.emod_nonneg _ (by omega), Int.emod_lt_of_pos _ (by omega)⟩
theorem new_loop (l : List Int) (hl : l.length ≤ 1048576) : ∀ (d i : Nat), i + d = l.length → ∀ h : Int, ∃ h', Ev (fun k => spec_l01New.l0 k l h (i : Int)) (l, 0, h') := by
  intro d
  induction d with
  | zero =>
    intro i hi h
    exact ⟨h, Ev.step (fun k => by rw [spec_l01New.l0]) (ev_neg (by omega) (Ev.now _))⟩
  | succ d ih =>
    intro i hi h
    by_cases hc : (i : Int) < 4000
    · obtain ⟨h', e⟩ := ih (i + 1) (by omega) (Go.bits .and .i64 (wrap64 ((wrap64 ((wrap64 (h * 131)) + (wrap64 (rd l i)))) + 7)) 1073741823)
      refine ⟨h', Ev.step (fun k => by rw [spec_l01New.l0]) (ev_pos (by omega) (ev_pos hc (ev_pos (by omega) ?_)))⟩
      rw [show wrap64 ((i : Int) + 1) = ((i + 1 : Nat) : Int) by rw [w64 (by omega) (by omega)]; omega]
      exact e
    · exact ⟨h, Ev.step (fun k => by rw [spec_l01New.l0]) (ev_pos (by omega) (ev_neg hc (Ev.now _)))⟩
theorem new_ok (l : List Int) (hl : l.length ≤ 1048576) : ∃ h', Ev (fun k => spec_l01New.f k l) (l, 0, h') := by
  simp only [spec_l01New.f]
  exact new_loop l hl l.length 0 (by omega) _
theorem in_zero (l : List Int) : In l 0 := ⟨by omega, by omega⟩

theorem text_loop (l : List Int) (hl : l.length ≤ 1048576) : ∀ (d : Nat) (n : Int) (acc : List Int) (j i h : Int), In l i → 0 ≤ j → n ≤ 5000 → (n - j).toNat = d → acc.length ≤ 5000 → (acc.length : Int) = j → ∃ r i' h', Ev (fun k => spec_l01Text.l0 k n acc j l i h) (r, i', h') ∧ In l i' ∧ r.size ≤ 5000 := by
  intro d
  induction d with
  | zero =>
    intro n acc j i h hi hj hn hd ha hz
    exact ⟨_, _, _, Ev.step (fun k => by rw [spec_l01Text.l0]) (ev_neg (by omega) (Ev.now _)), hi, by rw [strOfNums_size]; exact ha⟩
  | succ d ih =>
    intro n acc j i h hi hj hn hd ha hz
    obtain ⟨b, i1, h1, e1, hi1, _, _⟩ := byte_ok l i h hl hi
    have ew : wrap64 (j + 1) = j + 1 := w64 (by omega) (by omega)
    obtain ⟨r, i', h', e, hi', hr⟩ := ih n (acc ++ [b % 256]) (j + 1) i1 h1 hi1 (by omega) hn (by omega) (by rw [List.length_append]; show acc.length + 1 ≤ 5000; omega) (by rw [List.length_append]; show ((acc.length + 1 : Nat) : Int) = j + 1; omega)
    refine ⟨r, i', h', Ev.step (fun k => by rw [spec_l01Text.l0]) (ev_pos (by omega) (Ev.bind (g := fun _ => spec_l01Byte.f l i h) (by rw [e1]; exact Ev.now _) ?_)), hi', hr⟩
    rw [ew]
    have hal : acc.length < 140737488355328 := by omega
    exact ev_pos hal e
theorem text_ok (l : List Int) (hl : l.length ≤ 1048576) (i h n : Int) (hi : In l i) (hn : n ≤ 5000) : ∃ r i' h', Ev (fun k => spec_l01Text.f k l i h n) (r, i', h') ∧ In l i' ∧ r.size ≤ 5000 := by
  simp only [spec_l01Text.f]
  obtain ⟨r, i', h', e, hi', hr⟩ := text_loop l hl (n - 0).toNat n [] 0 i h hi (by omega) hn rfl (by simp) rfl
  exact ⟨r, i', h', ev_neg (by omega) (Ev.step (fun k => by rw [spec_l01Text.j0]) e), hi', hr⟩

theorem pick_ok (l : List Int) (i h : Int) (p : List Int) (hl : l.length ≤ 1048576) (hi : In l i) (h0 : 0 < p.length) (hp : p.length ≤ 1000) : ∃ b i' h', spec_l01PickInt.f l i h p = some (b, i', h') ∧ In l i' := by
  unfold spec_l01PickInt.f
  obtain ⟨b, i1, h1, e1, hi1, _, hb⟩ := below_ok l i h (p.length : Int) hl hi
  have hb := hb (by omega)
  rw [e1, Option.bind_some, if_pos hb.1, if_pos hb.2]
  exact ⟨_, _, _, rfl, hi1⟩
theorem number_ok (l : List Int) (i h : Int) (hl : l.length ≤ 1048576) (hi : In l i) : ∃ b i' h', spec_l01Number.f l i h = some (b, i', h') ∧ In l i' := by
  unfold spec_l01Number.f
  obtain ⟨b, i1, h1, e1, hi1, _, _⟩ := below_ok l i h 4 hl hi
  rw [e1, Option.bind_some]
  by_cases c0 : b = 0
  · rw [if_pos c0]
    obtain ⟨x, i2, h2, e2, hi2⟩ := pick_ok l i1 h1 [(-1), 0, 127, 128, 16383, 16384, 1000000000, 1000000001, 9223372036854775807, (-9223372036854775808)] hl hi1 (by decide) (by decide)
    rw [e2]
    exact ⟨_, _, _, rfl, hi2⟩
  rw [if_neg c0]
  by_cases c1 : b = 1
  · rw [if_pos c1]
    obtain ⟨x, i2, h2, e2, hi2, _⟩ := below_ok l i1 h1 1000000000 hl hi1
    rw [e2]
    exact ⟨_, _, _, rfl, hi2⟩
  rw [if_neg c1]
  obtain ⟨x, i2, h2, e2, hi2, _⟩ := below_ok l i1 h1 400 hl hi1
  rw [e2]
  exact ⟨_, _, _, rfl, hi2⟩
theorem long_loop (n : Nat) (hn : n ≤ 30000) (c : Int) : ∀ (d i : Nat), i + d = n → ∀ q : List Int, q.length = n → ∃ r, Ev (fun k => spec_l01Long.l0 k (n : Int) c q (i : Int)) r := by
  intro d
  induction d with
  | zero =>
    intro i hi q hq
    have h0 : ¬ (i : Int) < (n : Int) := by omega
    exact ⟨_, Ev.step (fun k => by rw [spec_l01Long.l0]) (ev_neg h0 (Ev.now _))⟩
  | succ d ih =>
    intro i hi q hq
    obtain ⟨r, e⟩ := ih (i + 1) (by omega) (q.set (i : Int).toNat c) (by rw [List.length_set]; exact hq)
    have h0 : (i : Int) < (q.length : Int) := by omega
    have h00 : (i : Int) < (n : Int) := by omega
    have h1 : 0 ≤ (i : Int) := by omega
    have hw : wrap64 ((i : Int) + 1) = ((i + 1 : Nat) : Int) := by rw [w64 (by omega) (by omega)]; omega
    refine ⟨r, Ev.step (fun k => by rw [spec_l01Long.l0]) (ev_pos h00 (ev_pos h1 (ev_pos h0 ?_)))⟩
    rw [hw]
    exact e
theorem long_ok (n : Int) (h0 : 0 ≤ n) (hn : n ≤ 30000) (c : Int) : ∃ r, Ev (fun k => spec_l01Long.f k n c) r := by
  simp only [spec_l01Long.f]
  obtain ⟨r, e⟩ := long_loop n.toNat (by omega) c n.toNat 0 (by omega) (List.replicate n.toNat 0) (by simp)
  rw [Int.toNat_of_nonneg h0] at e
  have h1 : n.toNat ≤ 281474976710656 := by omega
  exact ⟨r, ev_pos h0 (ev_pos h1 e)⟩
theorem drawhex_ok (l : List Int) (hl : l.length ≤ 1048576) : ∃ r, Ev (fun k => spec_DrawHex.f k l) r := by
  simp only [spec_DrawHex.f, spec_l01Once.f]
  obtain ⟨h0, e0⟩ := new_ok l hl
  obtain ⟨b1, i1, h1, e1, hi1, _, _⟩ := below_ok l 0 h0 60 hl (in_zero l)
  by_cases c : b1 = 0
  · obtain ⟨b2, i2, h2, e2, hi2, _, hb2⟩ := below_ok l i1 h1 2 hl hi1
    have hb2 := hb2 (by omega)
    have hw : wrap64 (20000 + b2) = 20000 + b2 := w64 (by omega) (by omega)
    obtain ⟨r, er⟩ := long_ok (wrap64 (20000 + b2)) (by rw [hw]; omega) (by rw [hw]; omega) 200
    refine ⟨r, Ev.bind e0 ?_⟩
    simp only [e1, e2, Option.bind_some]
    refine ev_pos (beq_iff_eq.2 c) (Ev.bind er (Ev.now _))
  · obtain ⟨b2, i2, h2, e2, hi2, _, hb2⟩ := below_ok l i1 h1 30 hl hi1
    have hb2 := hb2 (by omega)
    obtain ⟨r, i3, h3, e3, _, _⟩ := text_ok l hl i2 h2 b2 hi2 (by omega)
    refine ⟨r, Ev.bind e0 ?_⟩
    simp only [e1, e2, Option.bind_some]
    refine ev_neg (by simpa using c) (Ev.bind e3 (Ev.now _))
theorem drawvar_ok (l : List Int) (hl : l.length ≤ 1048576) : ∃ r, Ev (fun k => spec_DrawVarText.f k l) r := by
  simp only [spec_DrawVarText.f]
  obtain ⟨h0, e0⟩ := new_ok l hl
  obtain ⟨x, i1, h1, e1, _⟩ := number_ok l 0 h0 hl (in_zero l)
  refine ⟨x, Ev.bind e0 ?_⟩
  simp only [e1, Option.bind_some]
  exact Ev.now _

/-! ### Decimal numerals -/
def decL (u : Nat) : List UInt8 := if u = 0 then [] else Lib.decDigits u
theorem dec_step (u : Nat) (h : u ≠ 0) : Lib.decDigits u = decL (u / 10) ++ [UInt8.ofNat (48 + u % 10)] := by
  rw [Lib.decDigits]
  by_cases h1 : u < 10
  · rw [dif_pos h1]
    unfold decL
    rw [if_pos (by omega), Nat.mod_eq_of_lt h1]
    rfl
  · rw [dif_neg h1]
    unfold decL
    rw [if_neg (by omega)]
theorem decL_pos (u : Nat) (h : u ≠ 0) : decL u = decL (u / 10) ++ [UInt8.ofNat (48 + u % 10)] := by
  rw [← dec_step u h]
  unfold decL
  rw [if_neg h]
def valD (acc : Nat) (l : List UInt8) : Nat := l.foldl (fun a c => 10 * a + (c.toNat - 48)) acc
def isD (c : UInt8) : Prop := 48 ≤ c.toNat ∧ c.toNat ≤ 57
instance isD_dec (c : UInt8) : Decidable (isD c) := inferInstanceAs (Decidable (48 ≤ c.toNat ∧ c.toNat ≤ 57))
theorem dig_of (d : Nat) (h : d < 10) : (UInt8.ofNat (48 + d)).toNat = 48 + d := by rw [UInt8.toNat_ofNat', Nat.mod_eq_of_lt (by omega)]
theorem decL_all : ∀ (n u : Nat), u ≤ n → (∀ c ∈ decL u, isD c) ∧ valD 0 (decL u) = u := by
  intro n
  induction n with
  | zero => intro u hu; obtain rfl : u = 0 := by omega
            exact ⟨by simp [decL], rfl⟩
  | succ n ih =>
    intro u hu
    by_cases h0 : u = 0
    · subst h0; exact ⟨by simp [decL], rfl⟩
    obtain ⟨h1, h2⟩ := ih (u / 10) (by omega)
    have hd := dig_of (u % 10) (by omega)
    rw [decL_pos u h0]
    refine ⟨fun c hc => ?_, ?_⟩
    · rcases List.mem_append.1 hc with hc | hc
      · exact h1 c hc
      · obtain rfl := List.mem_singleton.1 hc
        unfold isD
        omega
    · unfold valD at h2 ⊢
      rw [List.foldl_append, h2]
      show 10 * (u / 10) + ((UInt8.ofNat (48 + u % 10)).toNat - 48) = u
      omega
theorem dec_digits (u : Nat) : (∀ c ∈ Lib.decDigits u, isD c) ∧ valD 0 (Lib.decDigits u) = u ∧ Lib.decDigits u ≠ [] := by
  by_cases h0 : u = 0
  · subst h0
    rw [Lib.decDigits, dif_pos (by omega)]
    refine ⟨fun c hc => ?_, rfl, by simp⟩
    obtain rfl := List.mem_singleton.1 hc
    unfold isD
    decide
  · have h := decL_all u u (Nat.le_refl _)
    unfold decL at h
    rw [if_neg h0] at h
    refine ⟨h.1, h.2, ?_⟩
    rw [dec_step u h0]
    simp
theorem valD_ge : ∀ (l : List UInt8) (acc : Nat), acc ≤ valD acc l
  | [], acc => Nat.le_refl _
  | c :: l, acc => by
    have h := valD_ge l (10 * acc + (c.toNat - 48))
    show acc ≤ valD (10 * acc + (c.toNat - 48)) l
    omega
theorem parse_ok : ∀ (l : List UInt8) (acc : Nat), (∀ c ∈ l, isD c) → valD acc l < 18446744073709551610 → Lib.parseUint10 acc l = .ok (valD acc l)
  | [], acc, _, _ => rfl
  | c :: l, acc, hd, hv => by
    have h1 := hd c (by simp)
    have h2 : valD acc (c :: l) = valD (10 * acc + (c.toNat - 48)) l := rfl
    have h3 := valD_ge l (10 * acc + (c.toNat - 48))
    rw [h2] at hv ⊢
    unfold isD at h1
    rw [Lib.parseUint10, if_pos h1, if_neg (by omega), if_neg (by omega), Nat.mul_comm acc 10]
    exact parse_ok l _ (fun d hd' => hd d (List.mem_cons_of_mem _ hd')) hv
theorem atoi_ok (l : List UInt8) (h0 : l ≠ []) (hd : ∀ c ∈ l, isD c) (hv : valD 0 l < 9223372036854775808) : Lib.atoiAll l = .ok ((valD 0 l : Nat) : Int) := by
  cases l with
  | nil => exact absurd rfl h0
  | cons c r =>
    have h1 := hd c (by simp)
    unfold isD at h1
    unfold Lib.atoiAll
    have e : Lib.parseMag (if c.toNat = 43 ∨ c.toNat = 45 then r else c :: r) = .ok (valD 0 (c :: r)) := by
      rw [if_neg (by omega)]
      unfold Lib.parseMag
      rw [if_neg (by simp)]
      exact parse_ok _ 0 hd (by omega)
    simp only [e]
    rw [if_neg (by omega), if_neg (by omega), if_neg (by omega)]
open Go.Proofs.YtpboocpomnihbaaDoor.Sha (decV)
theorem decV_list (n : Int) : (decV n).data.toList = Lib.itoa n := rfl
theorem len_valD : ∀ (l : List UInt8) (acc : Nat), (∀ c ∈ l, isD c) → valD acc l < 10 ^ l.length * (acc + 1)
  | [], acc, _ => by show acc < _; simp
  | c :: l, acc, hd => by
    have h1 := hd c (by simp)
    unfold isD at h1
    have h2 := len_valD l (10 * acc + (c.toNat - 48)) (fun d hd' => hd d (List.mem_cons_of_mem _ hd'))
    show valD (10 * acc + (c.toNat - 48)) l < _
    refine Nat.lt_of_lt_of_le h2 ?_
    rw [List.length_cons, Nat.pow_succ, Nat.mul_assoc]
    exact Nat.mul_le_mul_left _ (by omega)

theorem decL_len : ∀ (d u : Nat), u < 10 ^ d → (decL u).length ≤ d
  | 0, u, h => by obtain rfl : u = 0 := by simpa using h
                  simp [decL]
  | d + 1, u, h => by
    by_cases h0 : u = 0
    · subst h0; simp [decL]
    · rw [decL_pos u h0, List.length_append]
      have := decL_len d (u / 10) (by rw [Nat.pow_succ] at h; omega)
      simp; omega
theorem itoa_nat (u : Nat) : Lib.itoa (u : Int) = Lib.decDigits u := by
  unfold Lib.itoa
  rw [if_neg (by omega), Int.toNat_natCast]
theorem toList_data (s : ByteArray) : s.toList = s.data.toList := ByteArray.toList_eq s

/-! ### There and back -/
theorem varN_split (n : Nat) : ∃ pre c, varN n = pre ++ [c] ∧ (∀ b ∈ pre, 128 ≤ b) ∧ c < 128 ∧ numL (varN n) = n := by
  induction n using Nat.strongRecOn with
  | _ n ih =>
    rw [varN]
    split
    · rename_i h
      obtain ⟨pre, c, e, hp, hc, hn⟩ := ih (n / 128) (by omega)
      refine ⟨(n % 128 + 128) :: pre, c, by rw [e]; rfl, ?_, hc, ?_⟩
      · intro b hb
        rcases List.mem_cons.1 hb with rfl | hb
        · omega
        · exact hp b hb
      · rw [numL, hn]; omega
    · rename_i h
      exact ⟨[], n, rfl, by simp, by omega, by simp [numL]; omega⟩
theorem varN_len : ∀ (k n : Nat), n < 128 ^ (k + 1) → (varN n).length ≤ k + 1
  | 0, n, h => by rw [varN, if_neg (by simp at h; omega)]; simp
  | k + 1, n, h => by
    rw [varN]
    split
    · have := varN_len k (n / 128) (by rw [Nat.pow_succ] at h; omega)
      simp; omega
    · simp
theorem rv_go : ∀ (pre2 : List Nat) (d : Nat) (pre : List Nat) (c : Nat) (rest : List Nat), (∀ b ∈ pre2, 128 ≤ b) → c < 128 → pre2.length < d →
    rv d pre (pre2 ++ c :: rest) = (if numL ((pre ++ pre2) ++ [c]) ≤ 1000000000 ∧ varN (numL ((pre ++ pre2) ++ [c])) = (pre ++ pre2) ++ [c] then some (numL ((pre ++ pre2) ++ [c]), (pre ++ pre2).length + 1) else none)
  | [], d + 1, pre, c, rest, _, hc, _ => by rw [List.nil_append, List.append_nil, rv, if_pos hc]
  | [], 0, _, _, _, _, _, h => by simp at h
  | b :: pre2, 0, _, _, _, _, _, h => by simp at h
  | b :: pre2, d + 1, pre, c, rest, hp, hc, hl => by
    have hb := hp b (by simp)
    rw [List.cons_append, rv, if_neg (by omega), rv_go pre2 d (pre ++ [b]) c rest (fun x hx => hp x (List.mem_cons_of_mem _ hx)) hc (by simp at hl; omega), List.append_assoc pre [b] pre2]
    rfl
theorem rv_var (n : Nat) (h : n ≤ 1000000000) (rest : List Nat) : rv 5 [] (varN n ++ rest) = some (n, (varN n).length) := by
  obtain ⟨pre, c, e, hp, hc, hn⟩ := varN_split n
  have hl : (varN n).length ≤ 5 := varN_len 4 n (by omega)
  rw [e, List.length_append] at hl
  have hl2 : pre.length < 5 := by simp at hl; omega
  rw [e, List.append_assoc]
  show rv 5 [] (pre ++ c :: rest) = _
  rw [rv_go pre 5 [] c rest hp hc hl2, List.nil_append, ← e, hn, if_pos ⟨h, rfl⟩]
  simp [e]
theorem bN_var (n : Nat) : bN (strOfNums (varL n)) = varN n := by
  rw [varL_varN]
  exact bN_nums (varN n) (varN_lt n)
theorem var_back (n : Nat) (h : n ≤ 1000000000) : readV (((⟨#[120]⟩ : ByteArray) ++ strOfNums (varL n)) ++ (⟨#[121]⟩ : ByteArray)) 1 = ((n : Int), ((1 + (varN n).length : Nat) : Int), true) := by
  have e : bN (((⟨#[120]⟩ : ByteArray) ++ strOfNums (varL n)) ++ (⟨#[121]⟩ : ByteArray)) = 120 :: (varN n ++ [121]) := by
    rw [bN_app, bN_app, bN_var]; rfl
  have hz : (((⟨#[120]⟩ : ByteArray) ++ strOfNums (varL n)) ++ (⟨#[121]⟩ : ByteArray)).size = (varN n).length + 2 := by rw [← bN_len, e]; simp
  unfold readV
  rw [if_pos ⟨by omega, by omega⟩, e]
  show rvE 1 (rv 5 [] (varN n ++ [121])) = _
  rw [rv_var n h]
  rfl
theorem short_back (t : ByteArray) (ht : t.size ≤ 20000) : readV (strOfNums (varL t.size) ++ t) 0 = ((t.size : Int), (((varN t.size).length : Nat) : Int), true) := by
  have e : bN (strOfNums (varL t.size) ++ t) = varN t.size ++ bN t := by rw [bN_app, bN_var]
  unfold readV
  rw [if_pos ⟨by omega, by omega⟩, e]
  show rvE 0 (rv 5 [] (varN t.size ++ bN t)) = _
  rw [rv_var t.size (by omega)]
  show ((t.size : Int), ((0 + (varN t.size).length : Nat) : Int), true) = _
  rw [Nat.zero_add]
theorem short_rs (t : ByteArray) (ht : t.size ≤ 20000) : ∃ u, rsV (strOfNums (varL t.size) ++ t) (readV (strOfNums (varL t.size) ++ t) 0) = (u, ((strOfNums (varL t.size) ++ t).size : Int), true) ∧ u.toList = t.toList := by
  have hz : (strOfNums (varL t.size) ++ t).size = (varN t.size).length + t.size := by
    rw [← bN_len, bN_app, bN_var, List.length_append, bN_len]
  rw [short_back t ht]
  unfold rsV
  rw [if_pos rfl, if_neg (by show ¬ (t.size : Int) > 20000; omega), if_neg (show ¬ (t.size : Int) > ((strOfNums (varL t.size) ++ t).size : Int) - (((varN t.size).length : Nat) : Int) by omega)]
  have e2 : (((varN t.size).length : Nat) : Int) + (t.size : Int) = ((strOfNums (varL t.size) ++ t).size : Int) := by omega
  refine ⟨(strOfNums (varL t.size) ++ t).extract (((varN t.size).length : Nat) : Int).toNat ((((varN t.size).length : Nat) : Int) + (t.size : Int)).toNat, ?_, ?_⟩
  · show (_, (((varN t.size).length : Nat) : Int) + (t.size : Int), true) = _
    rw [e2]
  · rw [bN_toList', bN_ext, bN_app, bN_var, Int.toNat_natCast, List.drop_left]
    refine List.take_of_length_le ?_
    rw [bN_len]
    omega
def digN (x : Nat) : Nat := if x < 10 then 48 + x else 87 + x
def hexN (l : List Nat) : List Nat := l.flatMap fun b => [digN (b / 16), digN (b % 16)]
theorem hexL_nat : ∀ l : List Nat, hexL l = (hexN l).map fun (b : Nat) => (b : Int)
  | [] => rfl
  | b :: l => by
    have d : ∀ x : Nat, digV x = ((digN x : Nat) : Int) := fun x => by unfold digV digN; split <;> omega
    have ih := hexL_nat l
    unfold hexL hexN at *
    rw [List.flatMap_cons, List.flatMap_cons, ih, d, d]
    rfl
theorem dig_back (x : Nat) (h : x < 16) : hexV (digN x) = (x : Int) ∧ digN x < 256 :=
  (show ∀ k : Fin 16, hexV (digN k) = ((k : Nat) : Int) ∧ digN k < 256 by decide) ⟨x, h⟩
theorem hexN_lt : ∀ (l : List Nat), (∀ b ∈ l, b < 256) → ∀ c ∈ hexN l, c < 256
  | [], _, c, hc => by simp [hexN] at hc
  | b :: l, hl, c, hc => by
    have hb := hl b (by simp)
    unfold hexN at hc
    rw [List.flatMap_cons] at hc
    rcases List.mem_append.1 hc with hc | hc
    · simp at hc
      rcases hc with rfl | rfl
      · exact (dig_back (b / 16) (by omega)).2
      · exact (dig_back (b % 16) (by omega)).2
    · exact hexN_lt l (fun x hx => hl x (List.mem_cons_of_mem _ hx)) c hc
theorem hex_back : ∀ (l : List Nat), (∀ b ∈ l, b < 256) → unhexL (hexN l) = some (l.map fun (b : Nat) => (b : Int))
  | [], _ => rfl
  | b :: l, hl => by
    have hb := hl b (by simp)
    have d1 := (dig_back (b / 16) (by omega)).1
    have d2 := (dig_back (b % 16) (by omega)).1
    have e : hexN (b :: l) = digN (b / 16) :: digN (b % 16) :: hexN l := rfl
    rw [e, unhexL, d1, d2, if_neg (by omega), hex_back l (fun x hx => hl x (List.mem_cons_of_mem _ hx))]
    have hx : (16 * ((b / 16 : Nat) : Int) + ((b % 16 : Nat) : Int)) % 256 = (b : Int) := by omega
    rw [hx]
    rfl
theorem hexN_len : ∀ l : List Nat, (hexN l).length = 2 * l.length
  | [] => rfl
  | b :: l => by
    have ih := hexN_len l
    have e : hexN (b :: l) = digN (b / 16) :: digN (b % 16) :: hexN l := rfl
    rw [e, List.length_cons, List.length_cons, ih, List.length_cons]; omega
theorem impl_back (t : ByteArray) (ht : t.size ≤ 20000) : ∃ u, Ev (fun k => impl_Unhex.f k (strOfNums (hexL (bN t)))) (u, true) ∧ u.toList = t.toList := by
  have e : bN (strOfNums (hexL (bN t))) = hexN (bN t) := by
    rw [hexL_nat]; exact bN_nums _ (hexN_lt _ (bN_lt t))
  have hz : (strOfNums (hexL (bN t))).size = 2 * t.size := by rw [← bN_len, e, hexN_len, bN_len]
  have h := impl_unhex_ev (strOfNums (hexL (bN t))) (by omega) (by omega)
  rw [e, hex_back _ (bN_lt t)] at h
  refine ⟨_, h, ?_⟩
  show (strOfNums ([] ++ (bN t).map fun (b : Nat) => (b : Int))).toList = t.toList
  rw [List.nil_append, bN_toList', bN_nums _ (bN_lt t)]
theorem dec_back (n : Nat) (h : n ≤ 1000000000) : Sha.readV (decV (n : Int)) = ((n : Int), true) := by
  have h3 : (decV (n : Int)).data.toList = Lib.decDigits n := itoa_nat n
  obtain ⟨d1, d2, d3⟩ := dec_digits n
  unfold Sha.readV
  have ha : Lib.atoiAll (decV (n : Int)).data.toList = .ok (n : Int) := by rw [h3, atoi_ok _ d3 d1 (by rw [d2]; omega), d2]
  simp only [ha]
  rw [if_pos trivial, if_pos ⟨by omega, by omega⟩]

theorem FnNumbers : laws_FnNumbers.Pure := by
  intro l _ _ _
  refine Ev.rounds (g := fun k => laws_FnNumbers.f k l) ?_
  simp only [laws_FnNumbers.f, laws_big.f]
  refine Ev.bind (g := fun _ => some (decide ((l.length : Int) > 1048576))) (Ev.now _) ?_
  by_cases hb : (l.length : Int) > 1048576
  · exact ev_pos (decide_eq_true hb) (Ev.now _)
  refine ev_neg (by simpa using hb) ?_
  have hl : l.length ≤ 1048576 := by omega
  obtain ⟨m, em⟩ := drawvar_ok l hl
  obtain ⟨t0, et⟩ := drawhex_ok l hl
  have j2 : ∀ (n : Nat) (t : ByteArray), n ≤ 1000000000 → t.size ≤ 300 → Ev (fun k => laws_FnNumbers.j2 k (n : Int) (strOfNums (varL n)) true (n : Int) ((1 + (varN n).length : Nat) : Int) true (n : Int) true t) true := by
    intro n t hn ht
    have e1 := impl_ShortText_ev t
    unfold shortV at e1
    rw [if_neg (by omega)] at e1
    have hz : (strOfNums (varL t.size) ++ t).size ≤ 1048576 := by
      rw [← bN_len, bN_app, bN_var, List.length_append, bN_len]
      have := varN_len 4 t.size (by omega)
      omega
    have e2 := impl_readshort (strOfNums (varL t.size) ++ t) hz 0
    obtain ⟨u, eu, hu⟩ := short_rs t (by omega)
    rw [eu] at e2
    have e3 := impl_hex_ev t
    unfold hexV2 at e3
    rw [if_neg (by omega)] at e3
    obtain ⟨v, ev4, hv⟩ := impl_back t (by omega)
    have hlen : (strOfNums (varL n)).size = (varN n).length := by rw [← bN_len, bN_var]
    have hl5 := varN_len 4 n (by omega)
    refine Ev.step (fun k => by rw [laws_FnNumbers.j2]) (Ev.bind e1 (Ev.bind e2 (Ev.bind e3 (Ev.bind ev4 ?_))))
    refine ev_pos rfl (ev_pos rfl (ev_pos rfl (ev_pos rfl (ev_pos rfl (ev_pos rfl (ev_pos rfl (ev_pos rfl (ev_pos rfl ?_))))))))
    have hw : ((1 + (varN n).length : Nat) : Int) = wrap64 (((strOfNums (varL n)).size : Int) + 1) := by
      rw [hlen, w64 (by omega) (by omega)]; omega
    refine ev_pos hw (ev_pos hu (ev_pos rfl ?_))
    rw [show (v.toList == t.toList) = true from beq_iff_eq.2 hv]
    exact Ev.now _
  have j1 : ∀ n : Nat, n ≤ 1000000000 → Ev (fun k => laws_FnNumbers.j1 k l (n : Int)) true := by
    intro n hn
    have e1 := impl_VarText_ev (n : Int)
    unfold varV at e1
    rw [if_pos ⟨by omega, by omega⟩, Int.toNat_natCast] at e1
    have hlen : (strOfNums (varL n)).size = (varN n).length := by rw [← bN_len, bN_var]
    have hl5 := varN_len 4 n (by omega)
    have h1 : 1 + (strOfNums (varL n)).size ≤ 9223372036854775807 := by omega
    have h2 : (((⟨#[120]⟩ : ByteArray) ++ strOfNums (varL n)).size + 1) ≤ 9223372036854775807 := by rw [ByteArray.size_append]; show 1 + _ + 1 ≤ _; omega
    have hz : (((⟨#[120]⟩ : ByteArray) ++ strOfNums (varL n)) ++ (⟨#[121]⟩ : ByteArray)).size ≤ 1048576 := by rw [ByteArray.size_append, ByteArray.size_append]; show 1 + _ + 1 ≤ _; omega
    have e2 := impl_readvar (((⟨#[120]⟩ : ByteArray) ++ strOfNums (varL n)) ++ (⟨#[121]⟩ : ByteArray)) hz 1
    rw [var_back n hn] at e2
    have e3 : impl_Decimal.f (n : Int) = some (decV (n : Int)) := if_pos ⟨by omega, by omega⟩
    have hdz : (decV (n : Int)).size ≤ 281474976710656 := by
      have h5 : (decV (n : Int)).size = (decV (n : Int)).data.toList.length := Array.length_toList.symm
      rw [h5, show (decV (n : Int)).data.toList = Lib.decDigits n from itoa_nat n]
      by_cases h0 : n = 0
      · subst h0
        rw [Lib.decDigits, dif_pos (by omega)]; simp
      · have h6 := decL_len 10 n (by omega)
        unfold decL at h6
        rw [if_neg h0] at h6
        omega
    have e4 : impl_ReadDecimal.f (decV (n : Int)) = some ((n : Int), true) := by
      unfold impl_ReadDecimal.f
      rw [if_pos hdz, dec_back n hn]
    refine Ev.step (fun k => by rw [laws_FnNumbers.j1]) (Ev.bind e1 (ev_pos h1 (ev_pos h2 (Ev.bind e2 (Ev.bind (g := fun _ => impl_Decimal.f (n : Int)) (by rw [e3]; exact Ev.now _) (Ev.bind (g := fun _ => impl_ReadDecimal.f (decV (n : Int))) (by rw [e4]; exact Ev.now _) (Ev.bind et ?_)))))))
    by_cases h3 : (t0.size : Int) > 300
    · exact ev_pos h3 (j2 n _ hn (by decide))
    · exact ev_neg h3 (j2 n t0 hn (by omega))
  have e12 : Ev (fun k => laws_FnNumbers.j1 k l 12345) true := j1 12345 (by omega)
  have bad : ∀ m : Int, Ev (fun k => laws_FnNumbers.j0 k l m true) true := fun m => Ev.step (fun k => by rw [laws_FnNumbers.j0]) (ev_pos (show true = true from rfl) e12)
  refine Ev.bind em ?_
  by_cases h0 : m < 0
  · exact ev_pos h0 (bad m)
  refine ev_neg h0 ?_
  by_cases h1 : m > 1000000000
  · rw [decide_eq_true h1]; exact bad m
  · rw [decide_eq_false h1]
    refine Ev.step (fun k => by rw [laws_FnNumbers.j0]) (ev_neg Bool.false_ne_true ?_)
    have e := j1 m.toNat (by omega)
    rw [Int.toNat_of_nonneg (by omega)] at e
    exact e

end Go.Proofs.YtpboocpomnihbaaDoor.Pure

namespace Go.Proofs.YtpboocpomnihbaaDoor.PrintWords
open Go.ChangeShapes Go.WideShapes
/-- The words' own, under the name by which the printed row calls it. -/
theorem sized_ints {H : Type} {enc : TypeId × Value → H} {P : Program} {W : World} {base : Nat} {spare : Nat → Bool} {held : Bool} {t e : TypeId} {k : IntKind} {a : Option Addr} {len cap : Nat} {d : DataW H} {ps : List MemPlace} {ts : List TypeId} {ds : List (DataW H)} {j : Nat}
    (hsz : (DataW.weightsEach P ts ds).all (· ≤ reachBytes) = true) (ht : ts[j]? = some t) (hd : ds[j]? = some d) (hu : P.underlying t = some (.slice e)) (he : P.underlying e = some (.int k)) (hc : P.cellsOf e = 1) {B : Nat} (hB : P.bytesOf e = B)
    (h : DataW.Trod enc P W base spare held t (.slice a len cap) d ps) : len * B ≤ 140737488351232 :=
  Go.Proofs.YtpboocpomnihbaaDoorW.PrintWords.sized_ints hsz ht hd hu he hc hB h
end Go.Proofs.YtpboocpomnihbaaDoor.PrintWords
