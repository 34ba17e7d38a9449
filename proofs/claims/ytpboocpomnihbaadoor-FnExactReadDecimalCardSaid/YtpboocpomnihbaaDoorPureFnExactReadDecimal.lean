/- The law FnExactReadDecimal answers true for every argument: the program's ReadDecimal and the reference's come to the same answer. -/
import Derived.Test.YtpboocpomnihbaaDoorGFnExactReadDecimalx1
set_option linter.unusedVariables false
set_option linter.unusedSimpArgs false
namespace Go.Proofs.YtpboocpomnihbaaDoor.Pure
open Go.RowKit Go.Proofs.YtpboocpomnihbaaDoor.GFnExactReadDecimal Go.Proofs.YtpboocpomnihbaaDoorW.PrintWords Go.Proofs.YtpboocpomnihbaaDoorW.PrintLast

theorem w64 {n : Int} (h0 : -9223372036854775808 ≤ n) (h1 : n ≤ 9223372036854775807) : wrap64 n = n := by unfold wrap64; omega
theorem ev_pos {α : Type} {c : Prop} [Decidable c] {f g : Nat → Option α} {r : α} (h : c) (k : Ev f r) : Ev (fun n => if c then f n else g n) r := by
  simpa only [if_pos h] using k
theorem ev_neg {α : Type} {c : Prop} [Decidable c] {f g : Nat → Option α} {r : α} (h : ¬ c) (k : Ev g r) : Ev (fun n => if c then f n else g n) r := by
  simpa only [if_neg h] using k
theorem tdivN (n m : Nat) : Int.tdiv (n : Int) (m : Int) = ((n / m : Nat) : Int) := rfl
theorem tmodN (n m : Nat) : Int.tmod (n : Int) (m : Int) = ((n % m : Nat) : Int) := rfl
theorem tdiv_pos' {n m : Int} (h : 0 ≤ n) : Int.tdiv n m = n / m := Int.tdiv_eq_ediv_of_nonneg h
theorem tmod_pos' {n m : Int} (h : 0 ≤ n) : Int.tmod n m = n % m := Int.tmod_eq_emod_of_nonneg h
theorem bt_rng (s : ByteArray) (i : Int) : 0 ≤ bt s i ∧ bt s i ≤ 255 := bt_range s i
theorem bt_bytes (s : ByteArray) (i : Nat) : bt s i = (bytesOf s).getD i 0 := (rd_bytesOf s i).symm
theorem drop_bytes (s : ByteArray) (i : Nat) (h : i < s.size) : (bytesOf s).drop i = bt s i :: (bytesOf s).drop (i + 1) := by
  have h' : i < (bytesOf s).length := by rw [bytesOf_length]; exact h
  rw [List.drop_eq_getElem_cons h', bt_bytes, List.getD_eq_getElem?_getD, List.getElem?_eq_getElem h']
  rfl

/-! ### Decimal numerals -/
def decL (u : Nat) : List UInt8 := if u = 0 then [] else Lib.decDigits u
theorem dec_step (u : Nat) (h : u ≠ 0) : Lib.decDigits u = decL (u / 10) ++ [UInt8.ofNat (48 + u % 10)] := by
  rw [Lib.decDigits]
  by_cases h1 : u < 10
  · rw [dif_pos h1]
    unfold decL
    rw [if_pos (by omega), Nat.mod_eq_of_lt h1]
    rfl
  · rw [dif_neg h1]
    unfold decL
    rw [if_neg (by omega)]
theorem decL_pos (u : Nat) (h : u ≠ 0) : decL u = decL (u / 10) ++ [UInt8.ofNat (48 + u % 10)] := by
  rw [← dec_step u h]
  unfold decL
  rw [if_neg h]
def valD (acc : Nat) (l : List UInt8) : Nat := l.foldl (fun a c => 10 * a + (c.toNat - 48)) acc
def isD (c : UInt8) : Prop := 48 ≤ c.toNat ∧ c.toNat ≤ 57
instance isD_dec (c : UInt8) : Decidable (isD c) := inferInstanceAs (Decidable (48 ≤ c.toNat ∧ c.toNat ≤ 57))
theorem dig_of (d : Nat) (h : d < 10) : (UInt8.ofNat (48 + d)).toNat = 48 + d := by rw [UInt8.toNat_ofNat', Nat.mod_eq_of_lt (by omega)]
theorem decL_all : ∀ (n u : Nat), u ≤ n → (∀ c ∈ decL u, isD c) ∧ valD 0 (decL u) = u := by
  intro n
  induction n with
  | zero => intro u hu; obtain rfl : u = 0 := by omega
            exact ⟨by simp [decL], rfl⟩
  | succ n ih =>
    intro u hu
    by_cases h0 : u = 0
    · subst h0; exact ⟨by simp [decL], rfl⟩
    obtain ⟨h1, h2⟩ := ih (u / 10) (by omega)
    have hd := dig_of (u % 10) (by omega)
    rw [decL_pos u h0]
    refine ⟨fun c hc => ?_, ?_⟩
    · rcases List.mem_append.1 hc with hc | hc
      · exact h1 c hc
      · obtain rfl := List.mem_singleton.1 hc
        unfold isD
        omega
    · unfold valD at h2 ⊢
      rw [List.foldl_append, h2]
      show 10 * (u / 10) + ((UInt8.ofNat (48 + u % 10)).toNat - 48) = u
      omega
theorem dec_digits (u : Nat) : (∀ c ∈ Lib.decDigits u, isD c) ∧ valD 0 (Lib.decDigits u) = u ∧ Lib.decDigits u ≠ [] := by
  by_cases h0 : u = 0
  · subst h0
    rw [Lib.decDigits, dif_pos (by omega)]
    refine ⟨fun c hc => ?_, rfl, by simp⟩
    obtain rfl := List.mem_singleton.1 hc
    unfold isD
    decide
  · have h := decL_all u u (Nat.le_refl _)
    unfold decL at h
    rw [if_neg h0] at h
    refine ⟨h.1, h.2, ?_⟩
    rw [dec_step u h0]
    simp
theorem valD_ge : ∀ (l : List UInt8) (acc : Nat), acc ≤ valD acc l
  | [], acc => Nat.le_refl _
  | c :: l, acc => by
    have h := valD_ge l (10 * acc + (c.toNat - 48))
    show acc ≤ valD (10 * acc + (c.toNat - 48)) l
    omega
theorem parse_ok : ∀ (l : List UInt8) (acc : Nat), (∀ c ∈ l, isD c) → valD acc l < 18446744073709551610 → Lib.parseUint10 acc l = .ok (valD acc l)
  | [], acc, _, _ => rfl
  | c :: l, acc, hd, hv => by
    have h1 := hd c (by simp)
    have h2 : valD acc (c :: l) = valD (10 * acc + (c.toNat - 48)) l := rfl
    have h3 := valD_ge l (10 * acc + (c.toNat - 48))
    rw [h2] at hv ⊢
    unfold isD at h1
    rw [Lib.parseUint10, if_pos h1, if_neg (by omega), if_neg (by omega), Nat.mul_comm acc 10]
    exact parse_ok l _ (fun d hd' => hd d (List.mem_cons_of_mem _ hd')) hv
theorem atoi_ok (l : List UInt8) (h0 : l ≠ []) (hd : ∀ c ∈ l, isD c) (hv : valD 0 l < 9223372036854775808) : Lib.atoiAll l = .ok ((valD 0 l : Nat) : Int) := by
  cases l with
  | nil => exact absurd rfl h0
  | cons c r =>
    have h1 := hd c (by simp)
    unfold isD at h1
    unfold Lib.atoiAll
    have e : Lib.parseMag (if c.toNat = 43 ∨ c.toNat = 45 then r else c :: r) = .ok (valD 0 (c :: r)) := by
      rw [if_neg (by omega)]
      unfold Lib.parseMag
      rw [if_neg (by simp)]
      exact parse_ok _ 0 hd (by omega)
    simp only [e]
    rw [if_neg (by omega), if_neg (by omega), if_neg (by omega)]
open Go.Proofs.YtpboocpomnihbaaDoor.Sha (decV)
theorem decV_list (n : Int) : (decV n).data.toList = Lib.itoa n := rfl
theorem len_valD : ∀ (l : List UInt8) (acc : Nat), (∀ c ∈ l, isD c) → valD acc l < 10 ^ l.length * (acc + 1)
  | [], acc, _ => by show acc < _; simp
  | c :: l, acc, hd => by
    have h1 := hd c (by simp)
    unfold isD at h1
    have h2 := len_valD l (10 * acc + (c.toNat - 48)) (fun d hd' => hd d (List.mem_cons_of_mem _ hd'))
    show valD (10 * acc + (c.toNat - 48)) l < _
    refine Nat.lt_of_lt_of_le h2 ?_
    rw [List.length_cons, Nat.pow_succ, Nat.mul_assoc]
    exact Nat.mul_le_mul_left _ (by omega)

theorem bytes_cat (l m : List UInt8) : (⟨l.toArray⟩ ++ ⟨m.toArray⟩ : ByteArray) = ⟨(l ++ m).toArray⟩ := by
  apply ByteArray.ext
  rw [ByteArray.data_append]
  simp
theorem nums_one (x : Int) : strOfNums [x] = ⟨[UInt8.ofNat x.toNat].toArray⟩ := rfl
theorem bytes_size (l : List UInt8) : (⟨l.toArray⟩ : ByteArray).size = l.length := by simp [ByteArray.size]
theorem decL_len : ∀ (d u : Nat), u < 10 ^ d → (decL u).length ≤ d
  | 0, u, h => by obtain rfl : u = 0 := by simpa using h
                  simp [decL]
  | d + 1, u, h => by
    by_cases h0 : u = 0
    · subst h0; simp [decL]
    · rw [decL_pos u h0, List.length_append]
      have := decL_len d (u / 10) (by rw [Nat.pow_succ] at h; omega)
      simp; omega
theorem figure_ok (d : Nat) (h : d < 10) : spec_l01Figure.f (d : Int) = some ((48 + d : Nat) : Int) := by
  unfold spec_l01Figure.f
  rw [if_pos (by omega), w64 (by omega) (by omega)]
  congr 1
  omega
theorem dec_pos : ∀ (n u : Nat), u ≤ n → u ≤ 9223372036854775808 → ∀ l : List UInt8, l.length + (decL u).length ≤ 1000 → Ev (fun k => spec_Decimal.l0 k (u : Int) false ⟨l.toArray⟩) ⟨(decL u ++ l).toArray⟩ := by
  intro n
  induction n with
  | zero =>
    intro u hu _ l hl
    obtain rfl : u = 0 := by omega
    have e0 : decL 0 ++ l = l := by simp [decL]
    rw [e0]
    exact Ev.step (fun k => by rw [spec_Decimal.l0]) (ev_pos (show ((0 : Nat) : Int) = 0 from rfl) (ev_neg Bool.false_ne_true (Ev.now _)))
  | succ n ih =>
    intro u hu hb l hl
    by_cases h0 : u = 0
    · subst h0
      have e0 : decL 0 ++ l = l := by simp [decL]
      rw [e0]
      exact Ev.step (fun k => by rw [spec_Decimal.l0]) (ev_pos (show ((0 : Nat) : Int) = 0 from rfl) (ev_neg Bool.false_ne_true (Ev.now _)))
    have ht : Int.tmod (u : Int) 10 = ((u % 10 : Nat) : Int) := tmodN u 10
    have hd : Int.tdiv (u : Int) 10 = ((u / 10 : Nat) : Int) := tdivN u 10
    have hw : wrap64 (Int.tdiv (u : Int) 10) = ((u / 10 : Nat) : Int) := by rw [hd]; exact w64 (by omega) (by omega)
    have e1 : spec_l01Figure.f (Int.tmod (u : Int) 10) = some ((48 + u % 10 : Nat) : Int) := by rw [ht]; exact figure_ok _ (by omega)
    have hle : l.length + (decL (u / 10)).length + 1 ≤ 1000 := by rw [decL_pos u h0, List.length_append] at hl; simp at hl; omega
    have hnz : ¬ (u : Int) = 0 := by omega
    have hnn : ¬ Int.tmod (u : Int) 10 < 0 := by omega
    have r := ih (u / 10) (by omega) (by omega) (UInt8.ofNat (48 + u % 10) :: l) (by rw [List.length_cons]; omega)
    refine Ev.step (fun k => by rw [spec_Decimal.l0]) (ev_neg hnz (ev_neg hnn (Ev.bind (g := fun _ => spec_l01Figure.f (Int.tmod (u : Int) 10)) (by rw [e1]; exact Ev.now _) (Ev.bind (g := fun _ => some ([((48 + u % 10 : Nat) : Int)] : List Int)) (Ev.now _) ?_))))
    have hs : (strOfNums ([((48 + u % 10 : Nat) : Int)] : List Int)).size + (⟨l.toArray⟩ : ByteArray).size ≤ 9223372036854775807 := by rw [strOfNums_size, bytes_size]; simp; omega
    refine ev_pos hs ?_
    rw [nums_one, bytes_cat, hw, Int.toNat_natCast]
    rw [decL_pos u h0, List.append_assoc]
    exact r
theorem dec_neg : ∀ (n u : Nat), u ≤ n → u ≤ 9223372036854775808 → ∀ l : List UInt8, l.length + (decL u).length ≤ 1000 → Ev (fun k => spec_Decimal.l0 k (-(u : Int)) true ⟨l.toArray⟩) ⟨(45 :: (decL u ++ l)).toArray⟩ := by
  intro n
  have fin : ∀ l : List UInt8, l.length ≤ 1000 → Ev (fun k => spec_Decimal.l0 k (-((0 : Nat) : Int)) true ⟨l.toArray⟩) ⟨(45 :: (decL 0 ++ l)).toArray⟩ := by
    intro l hl
    have hs : 1 + (⟨l.toArray⟩ : ByteArray).size ≤ 9223372036854775807 := by rw [bytes_size]; omega
    have e0 : decL 0 ++ l = l := by simp [decL]
    rw [e0]
    refine Ev.step (fun k => by rw [spec_Decimal.l0]) (ev_pos (show -((0 : Nat) : Int) = 0 from rfl) (ev_pos (show true = true from rfl) (ev_pos hs ?_)))
    rw [show (⟨#[45]⟩ : ByteArray) = ⟨[(45 : UInt8)].toArray⟩ from rfl, bytes_cat]
    exact Ev.now _
  induction n with
  | zero =>
    intro u hu _ l hl
    obtain rfl : u = 0 := by omega
    exact fin l (by omega)
  | succ n ih =>
    intro u hu hb l hl
    by_cases h0 : u = 0
    · subst h0
      exact fin l (by omega)
    have ht : Int.tmod (-(u : Int)) 10 = -((u % 10 : Nat) : Int) := by rw [Int.neg_tmod]; exact congrArg Neg.neg (tmodN u 10)
    have hd : Int.tdiv (-(u : Int)) 10 = -((u / 10 : Nat) : Int) := by rw [Int.neg_tdiv]; exact congrArg Neg.neg (tdivN u 10)
    have hw : wrap64 (Int.tdiv (-(u : Int)) 10) = -((u / 10 : Nat) : Int) := by rw [hd]; exact w64 (by omega) (by omega)
    have hle : l.length + (decL (u / 10)).length + 1 ≤ 1000 := by rw [decL_pos u h0, List.length_append] at hl; simp at hl; omega
    have hnz : ¬ -(u : Int) = 0 := by omega
    have r := ih (u / 10) (by omega) (by omega) (UInt8.ofNat (48 + u % 10) :: l) (by rw [List.length_cons]; omega)
    have hs : (strOfNums ([((48 + u % 10 : Nat) : Int)] : List Int)).size + (⟨l.toArray⟩ : ByteArray).size ≤ 9223372036854775807 := by rw [strOfNums_size, bytes_size]; simp; omega
    have r' : Ev (fun k => if (strOfNums ([((48 + u % 10 : Nat) : Int)] : List Int)).size + (⟨l.toArray⟩ : ByteArray).size ≤ 9223372036854775807 then spec_Decimal.l0 k (wrap64 (Int.tdiv (-(u : Int)) 10)) true (strOfNums ([((48 + u % 10 : Nat) : Int)] : List Int) ++ (⟨l.toArray⟩ : ByteArray)) else none) ⟨(45 :: (decL u ++ l)).toArray⟩ := by
      refine ev_pos hs ?_
      rw [nums_one, bytes_cat, hw, Int.toNat_natCast, decL_pos u h0, List.append_assoc]
      exact r
    refine Ev.step (fun k => by rw [spec_Decimal.l0]) (ev_neg hnz ?_)
    by_cases hm : Int.tmod (-(u : Int)) 10 < 0
    · have e1 : spec_l01Figure.f (wrap64 (-(Int.tmod (-(u : Int)) 10))) = some ((48 + u % 10 : Nat) : Int) := by
        rw [ht, Int.neg_neg, w64 (by omega) (by omega)]; exact figure_ok _ (by omega)
      exact ev_pos hm (Ev.bind (g := fun _ => spec_l01Figure.f (wrap64 (-(Int.tmod (-(u : Int)) 10)))) (by rw [e1]; exact Ev.now _) (Ev.bind (g := fun _ => some ([((48 + u % 10 : Nat) : Int)] : List Int)) (Ev.now _) r'))
    · have e1 : spec_l01Figure.f (Int.tmod (-(u : Int)) 10) = some ((48 + u % 10 : Nat) : Int) := by
        have hz : u % 10 = 0 := by omega
        rw [ht, hz]; exact figure_ok 0 (by omega)
      exact ev_neg hm (Ev.bind (g := fun _ => spec_l01Figure.f (Int.tmod (-(u : Int)) 10)) (by rw [e1]; exact Ev.now _) (Ev.bind (g := fun _ => some ([((48 + u % 10 : Nat) : Int)] : List Int)) (Ev.now _) r'))
theorem spec_dec (n : Int) (h0 : -9223372036854775808 ≤ n) (h1 : n ≤ 9223372036854775807) : Ev (fun k => spec_Decimal.f k n) (decV n) := by
  simp only [spec_Decimal.f]
  unfold decV Lib.itoa
  by_cases hz : n = 0
  · subst hz
    refine ev_pos rfl ?_
    rw [if_neg (by omega), show (0 : Int).toNat = 0 from rfl, Lib.decDigits, dif_pos (by omega)]
    exact Ev.now _
  refine ev_neg hz ?_
  have hlen : (decL n.natAbs).length ≤ 20 := decL_len 20 _ (by omega)
  by_cases hn : n < 0
  · rw [if_pos hn, decide_eq_true hn]
    have r := dec_neg n.natAbs n.natAbs (Nat.le_refl _) (by omega) [] (by simp; omega)
    rw [show -(n.natAbs : Int) = n by omega, List.append_nil] at r
    unfold decL at r
    rw [if_neg (by omega)] at r
    exact r
  · rw [if_neg hn, decide_eq_false hn]
    have r := dec_pos n.natAbs n.natAbs (Nat.le_refl _) (by omega) [] (by simp; omega)
    rw [show (n.natAbs : Int) = n by omega, List.append_nil, show n.natAbs = n.toNat by omega] at r
    unfold decL at r
    rw [if_neg (by omega)] at r
    exact r

theorem pow_step (n i c : Nat) (h : n < 10 ^ i) (hc : c < 10) : 10 * n + c < 10 ^ (i + 1) := by
  rw [Nat.pow_succ]
  generalize 10 ^ i = P at h ⊢
  omega
theorem pow_le10 (n i m : Nat) (h : n < 10 ^ i) (hi : i ≤ m) : n < 10 ^ m := Nat.lt_of_lt_of_le h (Nat.pow_le_pow_right (by decide) hi)
theorem dig_lt (c : UInt8) (x : Int) (h : x = (c.toNat : Int)) (h1 : ¬ x < 48) (h2 : ¬ x > 57) : isD c ∧ c.toNat - 48 < 10 := by unfold isD; omega
theorem step_num (n c : Nat) (x : Int) (hn : n < 1000000000) (h : x = (c : Int)) (h1 : ¬ x < 48) (h2 : ¬ x > 57) : wrap64 ((wrap64 ((wrap64 (10 * (n : Int))) + (wrap64 x))) - 48) = ((10 * n + (c - 48) : Nat) : Int) := by
  rw [w64 (n := 10 * (n : Int)) (by omega) (by omega), w64 (n := x) (by omega) (by omega), w64 (n := 10 * (n : Int) + x) (by omega) (by omega), w64 (by omega) (by omega)]
  omega
theorem spec_read_loop (s : ByteArray) (hs : s.size ≤ 10) : ∀ (d i n : Nat), i + d = s.size → n < 10 ^ i → (∀ c ∈ s.data.toList.take i, isD c) → n = valD 0 (s.data.toList.take i) →
    Ev (fun k => spec_ReadDecimal.l0 k s (n : Int) (i : Int)) (if (∀ c ∈ s.data.toList, isD c) then (if valD 0 s.data.toList ≤ 1000000000 ∧ (decV (valD 0 s.data.toList : Nat)).toList = s.toList then (((valD 0 s.data.toList : Nat) : Int), true) else (0, false)) else (0, false)) := by
  intro d
  induction d with
  | zero =>
    intro i n hi hn hd hv
    have hi' : s.data.toList.length = i := by rw [Array.length_toList]; exact hi.symm
    rw [List.take_of_length_le (by omega)] at hd hv
    have hni : ¬ (i : Int) < (s.size : Int) := by omega
    rw [if_pos hd]
    refine Ev.step (fun k => by rw [spec_ReadDecimal.l0]) (ev_neg hni ?_)
    have hn10 : n < 10000000000 := pow_le10 n i 10 hn (by omega)
    clear hn
    rw [← hv]
    by_cases hb : (n : Int) > 1000000000
    · rw [if_neg (fun h => by omega)]
      exact ev_pos hb (Ev.now _)
    · refine ev_neg hb (Ev.bind (spec_dec (n : Int) (by omega) (by omega)) ?_)
      by_cases hc : (decV (n : Int)).toList = s.toList
      · have e : (if n ≤ 1000000000 ∧ (decV (n : Int)).toList = s.toList then ((n : Int), true) else (0, false)) = ((n : Int), true) := if_pos ⟨by omega, hc⟩
        rw [e]
        exact ev_pos hc (Ev.now _)
      · have e : (if n ≤ 1000000000 ∧ (decV (n : Int)).toList = s.toList then ((n : Int), true) else (0, false)) = ((0 : Int), false) := if_neg (fun h => hc h.2)
        rw [e]
        exact ev_neg hc (Ev.now _)
  | succ d ih =>
    intro i n hi hn hd hv
    have hlt : (i : Int) < (s.size : Int) := by omega
    have hil : i < s.data.toList.length := by rw [Array.length_toList]; show i < s.size; omega
    have hbt : bt s (i : Int) = ((s.data.toList[i]'hil).toNat : Int) := by
      unfold bt
      rw [dif_pos (show (i : Int).toNat < s.size by omega)]
      simp
      rfl
    have hmem : s.data.toList[i]'hil ∈ s.data.toList := List.getElem_mem hil
    have h0 : 0 ≤ (i : Int) := by omega
    refine Ev.step (fun k => by rw [spec_ReadDecimal.l0]) (ev_pos hlt (ev_pos h0 ?_))
    by_cases h48 : bt s (i : Int) < 48
    · rw [if_neg (fun h => by have := h _ hmem; unfold isD at this; omega)]
      exact ev_pos h48 (Ev.now _)
    by_cases h57 : bt s (i : Int) > 57
    · rw [if_neg (fun h => by have := h _ hmem; unfold isD at this; omega)]
      exact ev_neg h48 (ev_pos h57 (Ev.now _))
    refine ev_neg h48 (ev_neg h57 ?_)
    have hn10 : n < 1000000000 := pow_le10 n i 9 hn (by omega)
    obtain ⟨c, hc⟩ : ∃ c, s.data.toList[i]'hil = c := ⟨_, rfl⟩
    rw [hc] at hbt
    have htk : s.data.toList.take (i + 1) = s.data.toList.take i ++ [c] := by rw [List.take_succ_eq_append_getElem hil, hc]
    have hval : valD 0 (s.data.toList.take (i + 1)) = 10 * n + (c.toNat - 48) := by
      rw [htk]
      unfold valD
      rw [List.foldl_append]
      show 10 * (valD 0 (s.data.toList.take i)) + (c.toNat - 48) = _
      rw [← hv]
    have hw := step_num n c.toNat (bt s (i : Int)) hn10 hbt h48 h57
    obtain ⟨hcd, hcl⟩ := dig_lt c (bt s (i : Int)) hbt h48 h57
    have hw2 : wrap64 ((i : Int) + 1) = ((i + 1 : Nat) : Int) := by rw [w64 (by omega) (by omega)]; omega
    rw [hw, hw2]
    refine ih (i + 1) (10 * n + (c.toNat - 48)) (by omega) ?_ ?_ hval.symm
    · exact pow_step n i _ hn hcl
    · intro x hx
      rw [htk] at hx
      rcases List.mem_append.1 hx with hx | hx
      · exact hd x hx
      · obtain rfl := List.mem_singleton.1 hx
        exact hcd
theorem itoa_nat (u : Nat) : Lib.itoa (u : Int) = Lib.decDigits u := by
  unfold Lib.itoa
  rw [if_neg (by omega), Int.toNat_natCast]
theorem toList_data (s : ByteArray) : s.toList = s.data.toList := ByteArray.toList_eq s
/-- What both make of a text. -/
theorem read_both (s : ByteArray) (hs : s.size ≤ 10) :
    (if (∀ c ∈ s.data.toList, isD c) then (if valD 0 s.data.toList ≤ 1000000000 ∧ (decV (valD 0 s.data.toList : Nat)).toList = s.toList then (((valD 0 s.data.toList : Nat) : Int), true) else (0, false)) else (0, false)) = Sha.readV s := by
  have good : ∀ v : Int, 0 ≤ v → v ≤ 1000000000 → (decV v).toList = s.toList → (∀ c ∈ s.data.toList, isD c) ∧ ((valD 0 s.data.toList : Nat) : Int) = v ∧ Lib.atoiAll s.data.toList = .ok v := by
    intro v h0 h1 h2
    obtain ⟨u, rfl⟩ : ∃ u : Nat, v = (u : Int) := ⟨v.toNat, by omega⟩
    rw [toList_data, toList_data] at h2
    have h3 : s.data.toList = Lib.decDigits u := by rw [← itoa_nat u]; exact h2.symm
    obtain ⟨d1, d2, d3⟩ := dec_digits u
    rw [h3]
    refine ⟨d1, by rw [d2], ?_⟩
    rw [atoi_ok _ d3 d1 (by rw [d2]; omega), d2]
  unfold Sha.readV
  by_cases hd : ∀ c ∈ s.data.toList, isD c
  · rw [if_pos hd]
    by_cases hc : valD 0 s.data.toList ≤ 1000000000 ∧ (decV (valD 0 s.data.toList : Nat)).toList = s.toList
    · rw [if_pos hc]
      obtain ⟨_, _, ha⟩ := good ((valD 0 s.data.toList : Nat) : Int) (by omega) (by omega) hc.2
      simp only [ha]
      rw [if_pos hc.2, if_pos ⟨by omega, by omega⟩]
    · rw [if_neg hc]
      rcases ha : Lib.atoiAll s.data.toList with v | _ | _
      · simp only
        by_cases h2 : (decV v).toList = s.toList
        · rw [if_pos h2]
          by_cases h3 : 0 ≤ v ∧ v ≤ 1000000000
          · obtain ⟨_, hv, _⟩ := good v h3.1 h3.2 h2
            exact absurd ⟨by omega, by rw [hv]; exact h2⟩ hc
          · rw [if_neg h3]
        · rw [if_neg h2]
      · rfl
      · rfl
  · rw [if_neg hd]
    rcases ha : Lib.atoiAll s.data.toList with v | _ | _
    · simp only
      by_cases h2 : (decV v).toList = s.toList
      · rw [if_pos h2]
        by_cases h3 : 0 ≤ v ∧ v ≤ 1000000000
        · exact absurd (good v h3.1 h3.2 h2).1 hd
        · rw [if_neg h3]
      · rw [if_neg h2]
    · rfl
    · rfl
theorem read_long (s : ByteArray) (hs : 10 < s.size) : Sha.readV s = (0, false) := by
  unfold Sha.readV
  rcases ha : Lib.atoiAll s.data.toList with v | _ | _
  · simp only
    by_cases h2 : (decV v).toList = s.toList
    · rw [if_pos h2]
      by_cases h3 : 0 ≤ v ∧ v ≤ 1000000000
      · exfalso
        obtain ⟨u, rfl⟩ : ∃ u : Nat, v = (u : Int) := ⟨v.toNat, by omega⟩
        rw [toList_data, toList_data] at h2
        have h4 : s.data.toList = Lib.decDigits u := by rw [← itoa_nat u]; exact h2.symm
        have h5 : s.data.toList.length = s.size := Array.length_toList
        rw [h4] at h5
        by_cases h0 : u = 0
        · subst h0
          rw [Lib.decDigits, dif_pos (by omega)] at h5
          simp at h5
          omega
        · have h6 := decL_len 10 u (by omega)
          unfold decL at h6
          rw [if_neg h0] at h6
          omega
      · rw [if_neg h3]
    · rw [if_neg h2]
  · rfl
  · rfl
theorem spec_read (s : ByteArray) (hs : s.size ≤ 140737488351232) : Ev (fun k => spec_ReadDecimal.f k s) (Sha.readV s) := by
  simp only [spec_ReadDecimal.f]
  by_cases h : (s.size : Int) > 10
  · rw [read_long s (by omega)]
    exact ev_pos h (Ev.now _)
  · refine ev_neg h ?_
    rw [← read_both s (by omega)]
    exact spec_read_loop s (by omega) s.size 0 0 (by omega) (by simp) (by simp) rfl

theorem FnExactReadDecimal : laws_FnExactReadDecimal.Pure := by
  intro s hs
  refine Ev.rounds (g := fun k => laws_FnExactReadDecimal.f k s) ?_
  simp only [laws_FnExactReadDecimal.f]
  by_cases hb : (s.size : Int) > 1048576
  · exact ev_pos hb (Ev.now _)
  have e : impl_ReadDecimal.f s = some (Sha.readV s) := if_pos (by omega)
  refine ev_neg hb (Ev.bind (spec_read s hs) (Ev.bind (g := fun _ => impl_ReadDecimal.f s) (by rw [e]; exact Ev.now _) (ev_pos rfl ?_)))
  exact ev_neg (by simp) (Ev.now _)

end Go.Proofs.YtpboocpomnihbaaDoor.Pure
