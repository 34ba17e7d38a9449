/- The law FnExactReadShort answers true for every argument: the program's ReadShort and the reference's come to the same answer. -/
import Derived.Test.YtgjmkljhllbanaaPFnExactReadShortx2
set_option linter.unusedVariables false
set_option linter.unusedSimpArgs false
namespace Go.Proofs.Ytgjmkljhllbanaa.Pure
open Go.RowKit Go.Proofs.Ytgjmkljhllbanaa.PFnExactReadShort Go.Proofs.YtgjmkljhllbanaaW.PrintWords Go.Proofs.YtgjmkljhllbanaaW.PrintLast

theorem w64 {n : Int} (h0 : -9223372036854775808 ≤ n) (h1 : n ≤ 9223372036854775807) : wrap64 n = n := by unfold wrap64; omega
theorem ev_pos {α : Type} {c : Prop} [Decidable c] {f g : Nat → Option α} {r : α} (h : c) (k : Ev f r) : Ev (fun n => if c then f n else g n) r := by
  simpa only [if_pos h] using k
theorem ev_neg {α : Type} {c : Prop} [Decidable c] {f g : Nat → Option α} {r : α} (h : ¬ c) (k : Ev g r) : Ev (fun n => if c then f n else g n) r := by
  simpa only [if_neg h] using k
theorem tdivN (n m : Nat) : Int.tdiv (n : Int) (m : Int) = ((n / m : Nat) : Int) := rfl
theorem tmodN (n m : Nat) : Int.tmod (n : Int) (m : Int) = ((n % m : Nat) : Int) := rfl
theorem tdiv_pos' {n m : Int} (h : 0 ≤ n) : Int.tdiv n m = n / m := Int.tdiv_eq_ediv_of_nonneg h
theorem tmod_pos' {n m : Int} (h : 0 ≤ n) : Int.tmod n m = n % m := Int.tmod_eq_emod_of_nonneg h
theorem bt_rng (s : ByteArray) (i : Int) : 0 ≤ bt s i ∧ bt s i ≤ 255 := bt_range s i
theorem bt_bytes (s : ByteArray) (i : Nat) : bt s i = (bytesOf s).getD i 0 := (rd_bytesOf s i).symm
theorem drop_bytes (s : ByteArray) (i : Nat) (h : i < s.size) : (bytesOf s).drop i = bt s i :: (bytesOf s).drop (i + 1) := by
  have h' : i < (bytesOf s).length := by rw [bytesOf_length]; exact h
  rw [List.drop_eq_getElem_cons h', bt_bytes, List.getD_eq_getElem?_getD, List.getElem?_eq_getElem h']
  rfl

def varL (n : Nat) : List Int := if 127 < n then ((n % 128 + 128 : Nat) : Int) :: varL (n / 128) else [(n : Int)]
termination_by n
decreasing_by omega

theorem spec_var (n : Nat) : ∀ acc : List Int, acc.length + n ≤ 2000000000 → Ev (fun k => spec_l01Var.l0 k (n : Int) acc) (strOfNums (acc ++ varL n)) := by
  induction n using Nat.strongRecOn with
  | _ n ih =>
    intro acc hl
    refine Ev.step (fun k => by rw [spec_l01Var.l0]) ?_
    have e1 : wrap64 (Int.tdiv (n : Int) 128) = ((n / 128 : Nat) : Int) := by rw [show (128 : Int) = ((128 : Nat) : Int) from rfl, tdivN]; exact w64 (by omega) (by omega)
    have e2 : wrap64 (Int.tmod (n : Int) 128 + 128) % 256 = ((n % 128 + 128 : Nat) : Int) := by
      rw [show (128 : Int) = ((128 : Nat) : Int) from rfl, tmodN, w64 (by omega) (by omega)]; omega
    have e3 : (n : Int) % 256 = ((n % 256 : Nat) : Int) := by omega
    by_cases h : 127 < n
    · refine ev_pos (by omega) (ev_pos (by omega) ?_)
      rw [e1, e2, varL, if_pos h]
      have := ih (n / 128) (by omega) (acc ++ [((n % 128 + 128 : Nat) : Int)]) (by simp; omega)
      simpa using this
    · refine ev_neg (by omega) (ev_pos (by omega) ?_)
      rw [e3, varL, if_neg h, Nat.mod_eq_of_lt (by omega)]
      exact Ev.now _

theorem impl_var (n : Nat) : ∀ acc : List Int, acc.length + n ≤ 2000000000 → Ev (fun k => impl_VarText.l0 k (n : Int) acc) (strOfNums (acc ++ varL n), true) := by
  induction n using Nat.strongRecOn with
  | _ n ih =>
    intro acc hl
    refine Ev.step (fun k => by rw [impl_VarText.l0]) ?_
    have e1 : wrap64 (Int.tdiv (n : Int) 128) = ((n / 128 : Nat) : Int) := by rw [show (128 : Int) = ((128 : Nat) : Int) from rfl, tdivN]; exact w64 (by omega) (by omega)
    have e2 : wrap64 (Int.tmod (n : Int) 128 + 128) % 256 = ((n % 128 + 128 : Nat) : Int) := by
      rw [show (128 : Int) = ((128 : Nat) : Int) from rfl, tmodN, w64 (by omega) (by omega)]; omega
    have e3 : (n : Int) % 256 = ((n % 256 : Nat) : Int) := by omega
    by_cases h : 127 < n
    · refine ev_pos (by omega) (ev_pos (by omega) ?_)
      rw [e1, e2, varL, if_pos h]
      have := ih (n / 128) (by omega) (acc ++ [((n % 128 + 128 : Nat) : Int)]) (by simp; omega)
      simpa using this
    · refine ev_neg (by omega) (ev_pos (by omega) ?_)
      rw [e3, varL, if_neg h, Nat.mod_eq_of_lt (by omega)]
      exact Ev.now _

/-- What VarText answers. -/
def varV (n : Int) : ByteArray × Bool := if 0 ≤ n ∧ n ≤ 1000000000 then (strOfNums (varL n.toNat), true) else (⟨#[]⟩, false)

theorem impl_VarText_ev (n : Int) : Ev (fun k => impl_VarText.f k n) (varV n) := by
  simp only [impl_VarText.f, impl_within.f]
  unfold varV
  by_cases h0 : 0 ≤ n
  · by_cases h1 : n ≤ 1000000000
    · obtain ⟨m, rfl⟩ := Int.eq_ofNat_of_zero_le h0
      have := impl_var m [] (by simp; omega)
      simp [h1, Option.bind_some]
      exact this
    · simp [h0, h1]; exact Ev.now _
  · simp [h0]; exact Ev.now _

theorem toList_size (s : ByteArray) : s.toList.length = s.size := by rw [ByteArray.toList_eq, Array.length_toList]; rfl
theorem extract_toList (s : ByteArray) (i j : Nat) : (s.extract i j).toList = (s.toList.drop i).take (j - i) := by
  rw [ByteArray.toList_eq, ByteArray.toList_eq]; simp [ByteArray.data_extract, List.extract_eq_take_drop]
theorem append_toList (s t : ByteArray) : (s ++ t).toList = s.toList ++ t.toList := by
  rw [ByteArray.toList_eq, ByteArray.toList_eq, ByteArray.toList_eq]; simp [ByteArray.data_append]
theorem nums_toList (l : List Int) : (strOfNums l).toList = l.map fun n => UInt8.ofNat n.toNat := by rw [ByteArray.toList_eq, strOfNums_data]

def bN (s : ByteArray) : List Nat := s.data.toList.map UInt8.toNat
theorem bN_len (s : ByteArray) : (bN s).length = s.size := by rw [bN, List.length_map, Array.length_toList]; rfl
theorem bN_lt (s : ByteArray) : ∀ b ∈ bN s, b < 256 := by
  intro b hb
  obtain ⟨c, _, rfl⟩ := List.mem_map.1 hb
  exact c.toNat_lt
theorem bt_bN (s : ByteArray) (i : Nat) : bt s i = ((bN s).getD i 0 : Nat) := by
  unfold bt bN
  split
  · rename_i h
    have h' : i < s.data.toList.length := by rw [Array.length_toList]; exact h
    simp [List.getD_eq_getElem?_getD, List.getElem?_eq_getElem h']
    rfl
  · rename_i h
    have h' : s.data.toList.length ≤ i := by rw [Array.length_toList]; simpa using h
    simp [List.getD_eq_getElem?_getD, List.getElem?_eq_none h']
theorem bN_toList (s : ByteArray) : s.toList = (bN s).map UInt8.ofNat := by
  rw [ByteArray.toList_eq, bN, List.map_map]
  symm
  exact (List.map_congr_left (fun b _ => by simp)).trans (List.map_id _)
def numL : List Nat → Nat
  | [] => 0
  | b :: bs => b % 128 + 128 * numL bs
theorem numL_snoc : ∀ (l : List Nat) (c : Nat), numL (l ++ [c]) = numL l + c % 128 * 128 ^ l.length
  | [], c => by simp [numL]
  | b :: l, c => by
    rw [List.cons_append, numL, numL, numL_snoc l c, List.length_cons, Nat.pow_succ, Nat.mul_add]
    rw [Nat.mul_comm (c % 128) (128 ^ l.length * 128), Nat.mul_comm (128 ^ l.length) 128, Nat.mul_assoc, Nat.mul_comm (128 ^ l.length) (c % 128)]
    omega
theorem numL_lt : ∀ l : List Nat, numL l < 128 ^ l.length
  | [] => by simp [numL]
  | b :: l => by
    have := numL_lt l
    rw [numL, List.length_cons, Nat.pow_succ]
    omega
def varN (n : Nat) : List Nat := if 127 < n then (n % 128 + 128) :: varN (n / 128) else [n]
termination_by n
decreasing_by omega
theorem varL_varN (n : Nat) : varL n = (varN n).map Int.ofNat := by
  induction n using Nat.strongRecOn with
  | _ n ih =>
    rw [varL, varN]
    split
    · rw [ih (n / 128) (by omega)]; rfl
    · rfl
theorem varN_lt (n : Nat) : ∀ b ∈ varN n, b < 256 := by
  induction n using Nat.strongRecOn with
  | _ n ih =>
    intro b hb
    rw [varN] at hb
    split at hb
    · rcases List.mem_cons.1 hb with rfl | hb
      · omega
      · exact ih (n / 128) (by omega) b hb
    · rcases List.mem_cons.1 hb with rfl | hb
      · omega
      · simp at hb
/-- One way of bytes: as long as it wants to be, it is what was written. -/
theorem one_way : ∀ (pre : List Nat) (c : Nat), (∀ b ∈ pre, 128 ≤ b ∧ b < 256) → c < 128 → ((varN (numL (pre ++ [c]))).length = pre.length + 1 ↔ varN (numL (pre ++ [c])) = pre ++ [c])
  | [], c, _, hc => by
    rw [List.nil_append, numL, numL, Nat.mul_zero, Nat.add_zero, Nat.mod_eq_of_lt hc, varN, if_neg (by omega)]
    simp
  | b :: pre, c, hp, hc => by
    have hb := hp b (by simp)
    have ih := one_way pre c (fun x hx => hp x (by simp [hx])) hc
    rw [List.cons_append, numL]
    by_cases h : numL (pre ++ [c]) = 0
    · rw [h, varN, if_neg (by omega)]
      simp
    · rw [varN, if_pos (by omega), show (b % 128 + 128 * numL (pre ++ [c])) % 128 + 128 = b by omega, show (b % 128 + 128 * numL (pre ++ [c])) / 128 = numL (pre ++ [c]) by omega]
      simp only [List.length_cons, List.cons.injEq, true_and]
      rw [← ih]
      omega
theorem ofNat_inj {l m : List Nat} (hl : ∀ b ∈ l, b < 256) (hm : ∀ b ∈ m, b < 256) : l.map UInt8.ofNat = m.map UInt8.ofNat ↔ l = m := by
  constructor
  · intro h
    have h2 := congrArg (List.map UInt8.toNat) h
    rw [List.map_map, List.map_map] at h2
    have f : ∀ q : List Nat, (∀ b ∈ q, b < 256) → q.map (UInt8.toNat ∘ UInt8.ofNat) = q := by
      intro q hq
      refine (List.map_congr_left (fun b hb => ?_)).trans (List.map_id _)
      simp only [Function.comp, UInt8.toNat_ofNat']
      exact Nat.mod_eq_of_lt (hq b hb)
    rwa [f l hl, f m hm] at h2
  · rintro rfl; rfl
/-- What ReadVar comes to: how many bytes are still allowed, those that were read, those behind. -/
def rv : Nat → List Nat → List Nat → Option (Nat × Nat)
  | 0, _, _ => none
  | _ + 1, _, [] => none
  | d + 1, pre, c :: rest => if c < 128 then (if numL (pre ++ [c]) ≤ 1000000000 ∧ varN (numL (pre ++ [c])) = pre ++ [c] then some (numL (pre ++ [c]), pre.length + 1) else none) else rv d (pre ++ [c]) rest
def rvE (at_ : Nat) : Option (Nat × Nat) → Int × Int × Bool
  | none => (0, 0, false)
  | some (n, l) => ((n : Int), ((at_ + l : Nat) : Int), true)
/-- What ReadVar answers. -/
def readV (s : ByteArray) (i : Int) : Int × Int × Bool := if 0 ≤ i ∧ i ≤ s.size then rvE i.toNat (rv 5 [] ((bN s).drop i.toNat)) else (0, 0, false)
theorem rv_ok : ∀ (d : Nat) (pre rest : List Nat) (n l : Nat), rv d pre rest = some (n, l) → n ≤ 1000000000 ∧ l ≤ pre.length + rest.length ∧ 1 ≤ l
  | 0, _, _, _, _, h => by simp [rv] at h
  | _ + 1, _, [], _, _, h => by simp [rv] at h
  | d + 1, pre, c :: rest, n, l, h => by
    rw [rv] at h
    split at h
    · split at h
      · rename_i hc
        simp only [Option.some.injEq, Prod.mk.injEq] at h
        obtain ⟨rfl, rfl⟩ := h
        exact ⟨hc.1, by simp, by omega⟩
      · simp at h
    · have := rv_ok d _ _ _ _ h
      simp at this ⊢
      omega
theorem drop_get (l : List Nat) (i : Nat) (pre : List Nat) (c : Nat) (rest : List Nat) (h : l.drop i = pre ++ c :: rest) : l.getD (i + pre.length) 0 = c := by
  have h2 : (l.drop i)[pre.length]? = some c := by rw [h, List.getElem?_append_right (Nat.le_refl _)]; simp
  rw [List.getElem?_drop] at h2
  rw [List.getD_eq_getElem?_getD, h2]; rfl
theorem pow_small (i : Nat) (h : i < 5) : 128 ^ i ≤ 268435456 := by
  have : i = 0 ∨ i = 1 ∨ i = 2 ∨ i = 3 ∨ i = 4 := by omega
  rcases this with rfl | rfl | rfl | rfl | rfl <;> decide
theorem small_mul (a b : Nat) (ha : a < 128) (hb : b ≤ 268435456) : a * b ≤ 34359738368 := by
  have := Nat.mul_le_mul (show a ≤ 128 by omega) hb
  omega
theorem add_small (a q b : Nat) (ha : a ≤ 268435456) (hq : q ≤ 34359738368) (hb : b = a + q) : wrap64 ((a : Int) + (q : Int)) = (b : Int) := by
  rw [w64 (by omega) (by omega)]; omega
theorem nat_small (q : Nat) (hq : q ≤ 34359738368) : wrap64 (q : Int) = (q : Int) := w64 (by omega) (by omega)
theorem mul_small (a : Nat) (i : Nat) (ha : 128 ^ i = a) (h : a ≤ 268435456) : wrap64 ((a : Int) * 128) = ((128 ^ (i + 1) : Nat) : Int) := by
  rw [Nat.pow_succ, ha, w64 (by omega) (by omega)]; omega

theorem spec_rv (s : ByteArray) (hs : s.size ≤ 1048576) (p : Nat) (hp : p ≤ s.size) : ∀ (d : Nat) (pre rest : List Nat), d + pre.length = 5 → (bN s).drop p = pre ++ rest → (∀ b ∈ pre, 128 ≤ b ∧ b < 256) →
    Ev (fun k => spec_ReadVar.l0 k s (p : Int) (numL pre : Nat) ((128 ^ pre.length : Nat) : Int) ((p + pre.length : Nat) : Int)) (rvE p (rv d pre rest)) := by
  intro d
  induction d with
  | zero =>
    intro pre rest hd hr hb
    have e5 : wrap64 ((p : Int) + 5) = (p : Int) + 5 := w64 (by omega) (by omega)
    rw [rv]
    refine Ev.step (fun k => by rw [spec_ReadVar.l0]) ?_
    rw [e5, show decide (((p + pre.length : Nat) : Int) < (p : Int) + 5) = false by simp; omega]
    have hz : Ev (fun k => spec_ReadVar.j1 k s (p : Int) (numL pre : Nat) ((128 ^ pre.length : Nat) : Int) ((p + pre.length : Nat) : Int) false) (rvE p none) := by
      refine Ev.step (fun k => by rw [spec_ReadVar.j1]) ?_
      exact ev_neg Bool.false_ne_true (Ev.now _)
    by_cases hx : ((p + pre.length : Nat) : Int) < (s.size : Int)
    · exact ev_pos hx hz
    · exact ev_neg hx hz
  | succ d ih =>
    intro pre rest hd hr hb
    have e5 : wrap64 ((p : Int) + 5) = (p : Int) + 5 := w64 (by omega) (by omega)
    have hlen := congrArg List.length hr
    rw [List.length_drop, bN_len, List.length_append] at hlen
    refine Ev.step (fun k => by rw [spec_ReadVar.l0]) ?_
    cases rest with
    | nil =>
      rw [rv]
      refine ev_neg (by simp at hlen; omega) ?_
      refine Ev.step (fun k => by rw [spec_ReadVar.j1]) ?_
      exact ev_neg Bool.false_ne_true (Ev.now _)
    | cons c rest =>
      have hc : c < 256 := bN_lt s c (List.mem_of_mem_drop (i := p) (by rw [hr]; simp))
      have hbt : bt s ((p + pre.length : Nat) : Int) = (c : Int) := by rw [bt_bN, drop_get _ _ _ _ _ hr]
      simp at hlen
      rw [e5, show decide (((p + pre.length : Nat) : Int) < (p : Int) + 5) = true by simp; omega]
      refine ev_pos (by omega) ?_
      refine Ev.step (fun k => by rw [spec_ReadVar.j1]) ?_
      have ecc : wrap64 (c : Int) = (c : Int) := w64 (by omega) (by omega)
      have hi5 : pre.length < 5 := by omega
      have hc1 : c % 128 < 128 := Nat.mod_lt _ (by decide)
      have hpw := pow_small pre.length hi5
      have hml := small_mul (c % 128) (128 ^ pre.length) hc1 hpw
      have hnl := numL_lt pre
      have hsn := numL_snoc pre c
      have em : Int.tmod (c : Int) 128 = ((c % 128 : Nat) : Int) := rfl
      have emul : ((c % 128 : Nat) : Int) * ((128 ^ pre.length : Nat) : Int) = ((c % 128 * 128 ^ pre.length : Nat) : Int) := (Int.natCast_mul _ _).symm
      have emw : wrap64 ((c % 128 * 128 ^ pre.length : Nat) : Int) = ((c % 128 * 128 ^ pre.length : Nat) : Int) := nat_small _ hml
      have en : wrap64 ((numL pre : Nat) + ((c % 128 * 128 ^ pre.length : Nat) : Int)) = (numL (pre ++ [c]) : Nat) := add_small _ _ _ (Nat.le_trans (Nat.le_of_lt hnl) hpw) hml hsn
      clear hnl hml hpw hsn
      have e1 : wrap64 (((p + pre.length : Nat) : Int) + 1) = ((p + pre.length + 1 : Nat) : Int) := by rw [w64 (by omega) (by omega)]; omega
      rw [hbt, ecc, em, emul, emw, en, e1, rv]
      clear emul emw en em hbt ecc
      refine ev_pos rfl (ev_pos (by omega) (ev_pos (by omega) ?_))
      by_cases h : c < 128
      · rw [if_pos h]
        refine ev_pos (by omega) ?_
        by_cases hbig : numL (pre ++ [c]) ≤ 1000000000
        · refine ev_neg (by omega) (Ev.bind (by simpa [spec_l01Var.f] using spec_var (numL (pre ++ [c])) [] (by simp; omega)) (ev_pos (by omega) (ev_pos (by omega) (ev_pos (by omega) ?_))))
          have key : (strOfNums (varL (numL (pre ++ [c])))).toList = (s.extract ((p : Int)).toNat (((p + pre.length + 1 : Nat) : Int)).toNat).toList ↔ varN (numL (pre ++ [c])) = pre ++ [c] := by
            rw [nums_toList, extract_toList, bN_toList, Int.toNat_natCast, Int.toNat_natCast, ← List.map_drop, ← List.map_take, hr, varL_varN, List.map_map,
              show p + pre.length + 1 - p = pre.length + 1 by omega, show pre ++ c :: rest = (pre ++ [c]) ++ rest by simp, List.take_left' (by simp)]
            exact ofNat_inj (varN_lt _) (fun b hb' => by
              rcases List.mem_append.1 hb' with h1 | h1
              · exact (hb b h1).2
              · simp at h1; omega)
          by_cases hv : varN (numL (pre ++ [c])) = pre ++ [c]
          · refine ev_pos (key.2 hv) ?_
            rw [if_pos ⟨hbig, hv⟩]
            exact Ev.now _
          · refine ev_neg (fun h => hv (key.1 h)) ?_
            rw [if_neg (fun h => hv h.2)]
            exact Ev.now _
        · rw [if_neg (fun h => hbig h.1)]
          exact ev_pos (by omega) (Ev.now _)
      · rw [if_neg h]
        refine ev_neg (by omega) ?_
        have := ih (pre ++ [c]) rest (by simp; omega) (by rw [hr]; simp) (fun b hb' => by
          rcases List.mem_append.1 hb' with h1 | h1
          · exact hb b h1
          · simp at h1; omega)
        rw [List.length_append, List.length_singleton] at this
        have ep : wrap64 (((128 ^ pre.length : Nat) : Int) * 128) = ((128 ^ (pre.length + 1) : Nat) : Int) := mul_small _ pre.length rfl (pow_small pre.length (by omega))
        rw [ep]
        exact this
theorem spec_readvar (s : ByteArray) (hs : s.size ≤ 1048576) (i : Int) : Ev (fun k => spec_ReadVar.f k s i) (readV s i) := by
  simp only [spec_ReadVar.f, spec_l01In.f]
  unfold readV
  by_cases h0 : 0 ≤ i
  · by_cases h1 : i ≤ s.size
    · obtain ⟨p, rfl⟩ := Int.eq_ofNat_of_zero_le h0
      have := spec_rv s hs p (by omega) 5 [] ((bN s).drop p) (by simp) (by simp) (by simp)
      simp [h1]
      simpa [numL] using this
    · simp [h0, h1]; exact Ev.now _
  · simp [h0]; exact Ev.now _

theorem shl_pow (x i : Nat) (hx : x < 128) (hi : i < 5) : shl .i64 (x : Int) ((7 * i : Nat) : Int) = ((x * 128 ^ i : Nat) : Int) := by
  have hpw := pow_small i hi
  have hml := small_mul x (128 ^ i) hx hpw
  have e : ((2 : Int) ^ (7 * i)) = ((128 ^ i : Nat) : Int) := by rw [Int.pow_mul, Int.natCast_pow, show (2 : Int) ^ 7 = 128 by decide]; rfl
  have e2 : min (((7 * i : Nat) : Int)).toNat IntKind.i64.bits = 7 * i := by
    rw [Int.toNat_natCast]
    show min (7 * i) 64 = 7 * i
    omega
  have e3 : (x : Int) * ((128 ^ i : Nat) : Int) = ((x * 128 ^ i : Nat) : Int) := (Int.natCast_mul _ _).symm
  unfold shl
  rw [e2, e, e3, IntKind.wrap_i64]
  clear e e2 e3 hpw
  generalize x * 128 ^ i = q at hml
  omega
theorem impl_rv (s : ByteArray) (hs : s.size ≤ 1048576) (p : Nat) (hp : p ≤ s.size) : ∀ (d : Nat) (pre rest : List Nat), d + pre.length = 5 → (bN s).drop p = pre ++ rest → (∀ b ∈ pre, 128 ≤ b ∧ b < 256) →
    Ev (fun k => impl_ReadVar.l0 k s (p : Int) (numL pre : Nat) (pre.length : Int)) (rvE p (rv d pre rest)) := by
  intro d
  induction d with
  | zero =>
    intro pre rest hd hr hb
    rw [rv]
    refine Ev.step (fun k => by rw [impl_ReadVar.l0]) ?_
    refine ev_neg (by omega) ?_
    refine Ev.step (fun k => by rw [impl_ReadVar.j1]) ?_
    exact ev_neg Bool.false_ne_true (Ev.now _)
  | succ d ih =>
    intro pre rest hd hr hb
    have hlen := congrArg List.length hr
    rw [List.length_drop, bN_len, List.length_append] at hlen
    refine Ev.step (fun k => by rw [impl_ReadVar.l0]) ?_
    have ea : wrap64 ((p : Int) + (pre.length : Int)) = ((p + pre.length : Nat) : Int) := by rw [w64 (by omega) (by omega)]; omega
    rw [ea]
    refine ev_pos (by omega) ?_
    cases rest with
    | nil =>
      rw [rv, show decide (((p + pre.length : Nat) : Int) < (s.size : Int)) = false by simp at hlen; simp; omega]
      refine Ev.step (fun k => by rw [impl_ReadVar.j1]) ?_
      exact ev_neg Bool.false_ne_true (Ev.now _)
    | cons c rest =>
      have hc : c < 256 := bN_lt s c (List.mem_of_mem_drop (i := p) (by rw [hr]; simp))
      have hbt : bt s ((p + pre.length : Nat) : Int) = (c : Int) := by rw [bt_bN, drop_get _ _ _ _ _ hr]
      simp at hlen
      rw [show decide (((p + pre.length : Nat) : Int) < (s.size : Int)) = true by simp; omega]
      refine Ev.step (fun k => by rw [impl_ReadVar.j1]) ?_
      have q1 : (0 : Int) ≤ ((p + pre.length : Nat) : Int) := Int.natCast_nonneg _
      have q2 : ((p + pre.length : Nat) : Int) < (s.size : Int) := by omega
      have q3 : (0 : Int) ≤ ((7 * pre.length : Nat) : Int) := Int.natCast_nonneg _
      have ecc : wrap64 (c : Int) = (c : Int) := w64 (by omega) (by omega)
      have e7 : wrap64 (7 * (pre.length : Int)) = ((7 * pre.length : Nat) : Int) := by rw [w64 (by omega) (by omega)]; omega
      have hi5 : pre.length < 5 := by omega
      have hc1 : c % 128 < 128 := Nat.mod_lt _ (by decide)
      have hpw := pow_small pre.length hi5
      have hml := small_mul (c % 128) (128 ^ pre.length) hc1 hpw
      have hnl := numL_lt pre
      have hsn := numL_snoc pre c
      have em : Int.tmod (c : Int) 128 = ((c % 128 : Nat) : Int) := rfl
      have esh := shl_pow (c % 128) pre.length hc1 hi5
      have en : wrap64 ((numL pre : Nat) + ((c % 128 * 128 ^ pre.length : Nat) : Int)) = (numL (pre ++ [c]) : Nat) := add_small _ _ _ (Nat.le_trans (Nat.le_of_lt hnl) hpw) hml hsn
      clear hnl hml hpw hsn
      have e1 : wrap64 (((p + pre.length : Nat) : Int) + 1) = ((p + (pre.length + 1) : Nat) : Int) := by rw [w64 (by omega) (by omega)]; omega
      have e2 : wrap64 ((pre.length : Int) + 1) = ((pre.length + 1 : Nat) : Int) := by rw [w64 (by omega) (by omega)]; omega
      rw [ea, hbt, ecc, em, e7, esh, en, e1, e2, rv]
      clear esh en em hbt ecc e7 e1 e2
      refine ev_pos rfl (ev_pos q1 (ev_pos q2 (ev_pos q3 ?_)))
      clear q1 q2 q3
      by_cases h : c < 128
      · rw [if_pos h]
        have hv := impl_VarText_ev (numL (pre ++ [c]) : Nat)
        unfold varV at hv
        by_cases hbig : numL (pre ++ [c]) ≤ 1000000000
        · rw [if_pos (by omega)] at hv
          refine ev_pos (by omega) (Ev.bind hv (ev_pos rfl ?_))
          have key := one_way pre c hb h
          rw [Int.toNat_natCast, strOfNums_size, varL_varN, List.length_map]
          by_cases hw : varN (numL (pre ++ [c])) = pre ++ [c]
          · refine ev_pos (congrArg Nat.cast (key.2 hw)) ?_
            rw [if_pos ⟨hbig, hw⟩]
            exact Ev.now _
          · refine ev_neg (fun h => hw (key.1 (Int.ofNat.inj h))) ?_
            rw [if_neg (fun h => hw h.2)]
            exact Ev.now _
        · rw [if_neg (by omega)] at hv
          rw [if_neg (fun h => hbig h.1)]
          exact ev_pos (by omega) (Ev.bind hv (ev_neg Bool.false_ne_true (Ev.now _)))
      · rw [if_neg h]
        refine ev_neg (by omega) ?_
        have := ih (pre ++ [c]) rest (by simp; omega) (by rw [hr]; simp) (fun b hb' => by
          rcases List.mem_append.1 hb' with h1 | h1
          · exact hb b h1
          · simp at h1; omega)
        rw [List.length_append, List.length_singleton] at this
        exact this
theorem impl_readvar (s : ByteArray) (hs : s.size ≤ 1048576) (i : Int) : Ev (fun k => impl_ReadVar.f k s i) (readV s i) := by
  simp only [impl_ReadVar.f, impl_within.f]
  unfold readV
  by_cases h0 : 0 ≤ i
  · by_cases h1 : i ≤ s.size
    · obtain ⟨p, rfl⟩ := Int.eq_ofNat_of_zero_le h0
      have := impl_rv s hs p (by omega) 5 [] ((bN s).drop p) (by simp) (by simp) (by simp)
      simp [h1]
      simpa [numL] using this
    · simp [h0, h1]; exact Ev.now _
  · simp [h0]; exact Ev.now _

/-- What ReadShort answers. -/
def rsV (s : ByteArray) (r : Int × Int × Bool) : ByteArray × Int × Bool :=
  if r.2.2 = true then (if r.1 > 20000 then (⟨#[]⟩, 0, false) else if r.1 > (s.size : Int) - r.2.1 then (⟨#[]⟩, 0, false) else (s.extract r.2.1.toNat (r.2.1 + r.1).toNat, r.2.1 + r.1, true)) else (⟨#[]⟩, 0, false)
theorem readV_ok (s : ByteArray) (i : Int) : (readV s i).2.2 = true → 0 ≤ (readV s i).1 ∧ (readV s i).1 ≤ 1000000000 ∧ 0 ≤ (readV s i).2.1 ∧ (readV s i).2.1 ≤ s.size := by
  unfold readV
  split
  · rename_i h
    cases hr : rv 5 [] ((bN s).drop i.toNat) with
    | none => intro h'; simp [rvE] at h'
    | some q =>
      obtain ⟨n, l⟩ := q
      have := rv_ok 5 _ _ _ _ hr
      rw [List.length_drop, bN_len] at this
      intro _
      simp only [rvE]
      simp at this
      omega
  · intro h'; simp at h'

theorem spec_readshort (s : ByteArray) (hs : s.size ≤ 1048576) (i : Int) : Ev (fun k => spec_ReadShort.f k s i) (rsV s (readV s i)) := by
  simp only [spec_ReadShort.f]
  refine Ev.bind (spec_readvar s hs i) ?_
  have hk := readV_ok s i
  generalize readV s i = r at hk
  unfold rsV
  by_cases h : r.2.2 = true
  · have hk := hk h
    have e1 : wrap64 ((s.size : Int) - r.2.1) = (s.size : Int) - r.2.1 := w64 (by omega) (by omega)
    have e2 : wrap64 (r.2.1 + r.1) = r.2.1 + r.1 := w64 (by omega) (by omega)
    rw [e1, e2]
    refine ev_pos h ?_
    rw [if_pos h]
    by_cases h1 : r.1 > 20000
    · refine ev_pos h1 ?_; rw [if_pos h1]; exact Ev.now _
    refine ev_neg h1 ?_
    rw [if_neg h1]
    by_cases h2 : r.1 > (s.size : Int) - r.2.1
    · refine ev_pos h2 ?_; rw [if_pos h2]; exact Ev.now _
    refine ev_neg h2 ?_
    rw [if_neg h2]
    exact (ev_pos (by omega) (ev_pos (by omega) (ev_pos (by omega) (Ev.now _))))
  · refine ev_neg h ?_; rw [if_neg h]; exact Ev.now _

theorem impl_readshort (s : ByteArray) (hs : s.size ≤ 1048576) (i : Int) : Ev (fun k => impl_ReadShort.f k s i) (rsV s (readV s i)) := by
  simp only [impl_ReadShort.f]
  refine Ev.bind (impl_readvar s hs i) ?_
  have hk := readV_ok s i
  generalize readV s i = r at hk
  unfold rsV
  by_cases h : r.2.2 = true
  · have hk := hk h
    have e1 : wrap64 ((s.size : Int) - r.2.1) = (s.size : Int) - r.2.1 := w64 (by omega) (by omega)
    have e2 : wrap64 (r.2.1 + r.1) = r.2.1 + r.1 := w64 (by omega) (by omega)
    rw [e1, e2]
    refine ev_pos h ?_
    rw [if_pos h]
    by_cases h1 : r.1 > 20000
    · refine ev_pos h1 ?_; rw [if_pos h1]; exact Ev.now _
    refine ev_neg h1 ?_
    rw [if_neg h1]
    by_cases h2 : r.1 > (s.size : Int) - r.2.1
    · refine ev_pos h2 ?_; rw [if_pos h2]; exact Ev.now _
    refine ev_neg h2 ?_
    rw [if_neg h2]
    exact (ev_pos (by omega) (ev_pos (by omega) (ev_pos (by omega) (Ev.now _))))
  · refine ev_neg h ?_; rw [if_neg h]; exact Ev.now _

theorem FnExactReadShort : laws_FnExactReadShort.Pure := by
  intro a0 a1 _ _
  refine Ev.rounds (g := fun k => laws_FnExactReadShort.f k a0 a1) ?_
  simp only [laws_FnExactReadShort.f]
  by_cases hb : (a0.size : Int) > 1048576
  · exact ev_pos hb (Ev.now _)
  · refine ev_neg hb (Ev.bind (spec_readshort a0 (by omega) a1) (Ev.bind (impl_readshort a0 (by omega) a1) ?_))
    simp
    exact Ev.now _

end Go.Proofs.Ytgjmkljhllbanaa.Pure
