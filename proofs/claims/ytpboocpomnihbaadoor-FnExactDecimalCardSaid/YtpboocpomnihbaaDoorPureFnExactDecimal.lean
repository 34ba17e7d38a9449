/- The law FnExactDecimal answers true for every argument: the program's Decimal and the reference's come to the same answer. -/
import Derived.Test.YtpboocpomnihbaaDoorGFnExactDecimalx1
set_option linter.unusedVariables false
set_option linter.unusedSimpArgs false
namespace Go.Proofs.YtpboocpomnihbaaDoor.Pure
open Go.RowKit Go.Proofs.YtpboocpomnihbaaDoor.GFnExactDecimal Go.Proofs.YtpboocpomnihbaaDoorW.PrintWords Go.Proofs.YtpboocpomnihbaaDoorW.PrintLast

theorem w64 {n : Int} (h0 : -9223372036854775808 ≤ n) (h1 : n ≤ 9223372036854775807) : wrap64 n = n := by unfold wrap64; omega
theorem ev_pos {α : Type} {c : Prop} [Decidable c] {f g : Nat → Option α} {r : α} (h : c) (k : Ev f r) : Ev (fun n => if c then f n else g n) r := by
  simpa only [if_pos h] using k
theorem ev_neg {α : Type} {c : Prop} [Decidable c] {f g : Nat → Option α} {r : α} (h : ¬ c) (k : Ev g r) : Ev (fun n => if c then f n else g n) r := by
  simpa only [if_neg h] using k
theorem tdivN (n m : Nat) : Int.tdiv (n : Int) (m : Int) = ((n / m : Nat) : Int) := rfl
theorem tmodN (n m : Nat) : Int.tmod (n : Int) (m : Int) = ((n % m : Nat) : Int) := rfl
theorem tdiv_pos' {n m : Int} (h : 0 ≤ n) : Int.tdiv n m = n / m := Int.tdiv_eq_ediv_of_nonneg h
theorem tmod_pos' {n m : Int} (h : 0 ≤ n) : Int.tmod n m = n % m := Int.tmod_eq_emod_of_nonneg h
theorem bt_rng (s : ByteArray) (i : Int) : 0 ≤ bt s i ∧ bt s i ≤ 255 := bt_range s i
theorem bt_bytes (s : ByteArray) (i : Nat) : bt s i = (bytesOf s).getD i 0 := (rd_bytesOf s i).symm
theorem drop_bytes (s : ByteArray) (i : Nat) (h : i < s.size) : (bytesOf s).drop i = bt s i :: (bytesOf s).drop (i + 1) := by
  have h' : i < (bytesOf s).length := by rw [bytesOf_length]; exact h
  rw [List.drop_eq_getElem_cons h', bt_bytes, List.getD_eq_getElem?_getD, List.getElem?_eq_getElem h']
  rfl

/-! ### Decimal numerals -/
def decL (u : Nat) : List UInt8 := if u = 0 then [] else Lib.decDigits u
theorem dec_step (u : Nat) (h : u ≠ 0) : Lib.decDigits u = decL (u / 10) ++ [UInt8.ofNat (48 + u % 10)] := by
  rw [Lib.decDigits]
  by_cases h1 : u < 10
  · rw [dif_pos h1]
    unfold decL
    rw [if_pos (by omega), Nat.mod_eq_of_lt h1]
    rfl
  · rw [dif_neg h1]
    unfold decL
    rw [if_neg (by omega)]
theorem decL_pos (u : Nat) (h : u ≠ 0) : decL u = decL (u / 10) ++ [UInt8.ofNat (48 + u % 10)] := by
  rw [← dec_step u h]
  unfold decL
  rw [if_neg h]
def valD (acc : Nat) (l : List UInt8) : Nat := l.foldl (fun a c => 10 * a + (c.toNat - 48)) acc
def isD (c : UInt8) : Prop := 48 ≤ c.toNat ∧ c.toNat ≤ 57
theorem dig_of (d : Nat) (h : d < 10) : (UInt8.ofNat (48 + d)).toNat = 48 + d := by rw [UInt8.toNat_ofNat', Nat.mod_eq_of_lt (by omega)]
theorem decL_all : ∀ (n u : Nat), u ≤ n → (∀ c ∈ decL u, isD c) ∧ valD 0 (decL u) = u := by
  intro n
  induction n with
  | zero => intro u hu; obtain rfl : u = 0 := by omega
            exact ⟨by simp [decL], rfl⟩
  | succ n ih =>
    intro u hu
    by_cases h0 : u = 0
    · subst h0; exact ⟨by simp [decL], rfl⟩
    obtain ⟨h1, h2⟩ := ih (u / 10) (by omega)
    have hd := dig_of (u % 10) (by omega)
    rw [decL_pos u h0]
    refine ⟨fun c hc => ?_, ?_⟩
    · rcases List.mem_append.1 hc with hc | hc
      · exact h1 c hc
      · obtain rfl := List.mem_singleton.1 hc
        unfold isD
        omega
    · unfold valD at h2 ⊢
      rw [List.foldl_append, h2]
      show 10 * (u / 10) + ((UInt8.ofNat (48 + u % 10)).toNat - 48) = u
      omega
theorem dec_digits (u : Nat) : (∀ c ∈ Lib.decDigits u, isD c) ∧ valD 0 (Lib.decDigits u) = u ∧ Lib.decDigits u ≠ [] := by
  by_cases h0 : u = 0
  · subst h0
    rw [Lib.decDigits, dif_pos (by omega)]
    refine ⟨fun c hc => ?_, rfl, by simp⟩
    obtain rfl := List.mem_singleton.1 hc
    unfold isD
    decide
  · have h := decL_all u u (Nat.le_refl _)
    unfold decL at h
    rw [if_neg h0] at h
    refine ⟨h.1, h.2, ?_⟩
    rw [dec_step u h0]
    simp
theorem valD_ge : ∀ (l : List UInt8) (acc : Nat), acc ≤ valD acc l
  | [], acc => Nat.le_refl _
  | c :: l, acc => by
    have h := valD_ge l (10 * acc + (c.toNat - 48))
    show acc ≤ valD (10 * acc + (c.toNat - 48)) l
    omega
theorem parse_ok : ∀ (l : List UInt8) (acc : Nat), (∀ c ∈ l, isD c) → valD acc l < 18446744073709551610 → Lib.parseUint10 acc l = .ok (valD acc l)
  | [], acc, _, _ => rfl
  | c :: l, acc, hd, hv => by
    have h1 := hd c (by simp)
    have h2 : valD acc (c :: l) = valD (10 * acc + (c.toNat - 48)) l := rfl
    have h3 := valD_ge l (10 * acc + (c.toNat - 48))
    rw [h2] at hv ⊢
    unfold isD at h1
    rw [Lib.parseUint10, if_pos h1, if_neg (by omega), if_neg (by omega), Nat.mul_comm acc 10]
    exact parse_ok l _ (fun d hd' => hd d (List.mem_cons_of_mem _ hd')) hv
theorem atoi_ok (l : List UInt8) (h0 : l ≠ []) (hd : ∀ c ∈ l, isD c) (hv : valD 0 l < 9223372036854775808) : Lib.atoiAll l = .ok ((valD 0 l : Nat) : Int) := by
  cases l with
  | nil => exact absurd rfl h0
  | cons c r =>
    have h1 := hd c (by simp)
    unfold isD at h1
    unfold Lib.atoiAll
    have e : Lib.parseMag (if c.toNat = 43 ∨ c.toNat = 45 then r else c :: r) = .ok (valD 0 (c :: r)) := by
      rw [if_neg (by omega)]
      unfold Lib.parseMag
      rw [if_neg (by simp)]
      exact parse_ok _ 0 hd (by omega)
    simp only [e]
    rw [if_neg (by omega), if_neg (by omega), if_neg (by omega)]
open Go.Proofs.YtpboocpomnihbaaDoor.Sha (decV)
theorem decV_list (n : Int) : (decV n).data.toList = Lib.itoa n := rfl
theorem len_valD : ∀ (l : List UInt8) (acc : Nat), (∀ c ∈ l, isD c) → valD acc l < 10 ^ l.length * (acc + 1)
  | [], acc, _ => by show acc < _; simp
  | c :: l, acc, hd => by
    have h1 := hd c (by simp)
    unfold isD at h1
    have h2 := len_valD l (10 * acc + (c.toNat - 48)) (fun d hd' => hd d (List.mem_cons_of_mem _ hd'))
    show valD (10 * acc + (c.toNat - 48)) l < _
    refine Nat.lt_of_lt_of_le h2 ?_
    rw [List.length_cons, Nat.pow_succ, Nat.mul_assoc]
    exact Nat.mul_le_mul_left _ (by omega)

theorem bytes_cat (l m : List UInt8) : (⟨l.toArray⟩ ++ ⟨m.toArray⟩ : ByteArray) = ⟨(l ++ m).toArray⟩ := by
  apply ByteArray.ext
  rw [ByteArray.data_append]
  simp
theorem nums_one (x : Int) : strOfNums [x] = ⟨[UInt8.ofNat x.toNat].toArray⟩ := rfl
theorem bytes_size (l : List UInt8) : (⟨l.toArray⟩ : ByteArray).size = l.length := by simp [ByteArray.size]
theorem decL_len : ∀ (d u : Nat), u < 10 ^ d → (decL u).length ≤ d
  | 0, u, h => by obtain rfl : u = 0 := by simpa using h
                  simp [decL]
  | d + 1, u, h => by
    by_cases h0 : u = 0
    · subst h0; simp [decL]
    · rw [decL_pos u h0, List.length_append]
      have := decL_len d (u / 10) (by rw [Nat.pow_succ] at h; omega)
      simp; omega
theorem figure_ok (d : Nat) (h : d < 10) : spec_l01Figure.f (d : Int) = some ((48 + d : Nat) : Int) := by
  unfold spec_l01Figure.f
  rw [if_pos (by omega), w64 (by omega) (by omega)]
  congr 1
  omega
theorem dec_pos : ∀ (n u : Nat), u ≤ n → u ≤ 9223372036854775808 → ∀ l : List UInt8, l.length + (decL u).length ≤ 1000 → Ev (fun k => spec_Decimal.l0 k (u : Int) false ⟨l.toArray⟩) ⟨(decL u ++ l).toArray⟩ := by
  intro n
  induction n with
  | zero =>
    intro u hu _ l hl
    obtain rfl : u = 0 := by omega
    have e0 : decL 0 ++ l = l := by simp [decL]
    rw [e0]
    exact Ev.step (fun k => by rw [spec_Decimal.l0]) (ev_pos (show ((0 : Nat) : Int) = 0 from rfl) (ev_neg Bool.false_ne_true (Ev.now _)))
  | succ n ih =>
    intro u hu hb l hl
    by_cases h0 : u = 0
    · subst h0
      have e0 : decL 0 ++ l = l := by simp [decL]
      rw [e0]
      exact Ev.step (fun k => by rw [spec_Decimal.l0]) (ev_pos (show ((0 : Nat) : Int) = 0 from rfl) (ev_neg Bool.false_ne_true (Ev.now _)))
    have ht : Int.tmod (u : Int) 10 = ((u % 10 : Nat) : Int) := tmodN u 10
    have hd : Int.tdiv (u : Int) 10 = ((u / 10 : Nat) : Int) := tdivN u 10
    have hw : wrap64 (Int.tdiv (u : Int) 10) = ((u / 10 : Nat) : Int) := by rw [hd]; exact w64 (by omega) (by omega)
    have e1 : spec_l01Figure.f (Int.tmod (u : Int) 10) = some ((48 + u % 10 : Nat) : Int) := by rw [ht]; exact figure_ok _ (by omega)
    have hle : l.length + (decL (u / 10)).length + 1 ≤ 1000 := by rw [decL_pos u h0, List.length_append] at hl; simp at hl; omega
    have hnz : ¬ (u : Int) = 0 := by omega
    have hnn : ¬ Int.tmod (u : Int) 10 < 0 := by omega
    have r := ih (u / 10) (by omega) (by omega) (UInt8.ofNat (48 + u % 10) :: l) (by rw [List.length_cons]; omega)
    refine Ev.step (fun k => by rw [spec_Decimal.l0]) (ev_neg hnz (ev_neg hnn (Ev.bind (g := fun _ => spec_l01Figure.f (Int.tmod (u : Int) 10)) (by rw [e1]; exact Ev.now _) (Ev.bind (g := fun _ => some ([((48 + u % 10 : Nat) : Int)] : List Int)) (Ev.now _) ?_))))
    have hs : (strOfNums ([((48 + u % 10 : Nat) : Int)] : List Int)).size + (⟨l.toArray⟩ : ByteArray).size ≤ 9223372036854775807 := by rw [strOfNums_size, bytes_size]; simp; omega
    refine ev_pos hs ?_
    rw [nums_one, bytes_cat, hw, Int.toNat_natCast]
    rw [decL_pos u h0, List.append_assoc]
    exact r
theorem dec_neg : ∀ (n u : Nat), u ≤ n → u ≤ 9223372036854775808 → ∀ l : List UInt8, l.length + (decL u).length ≤ 1000 → Ev (fun k => spec_Decimal.l0 k (-(u : Int)) true ⟨l.toArray⟩) ⟨(45 :: (decL u ++ l)).toArray⟩ := by
  intro n
  have fin : ∀ l : List UInt8, l.length ≤ 1000 → Ev (fun k => spec_Decimal.l0 k (-((0 : Nat) : Int)) true ⟨l.toArray⟩) ⟨(45 :: (decL 0 ++ l)).toArray⟩ := by
    intro l hl
    have hs : 1 + (⟨l.toArray⟩ : ByteArray).size ≤ 9223372036854775807 := by rw [bytes_size]; omega
    have e0 : decL 0 ++ l = l := by simp [decL]
    rw [e0]
    refine Ev.step (fun k => by rw [spec_Decimal.l0]) (ev_pos (show -((0 : Nat) : Int) = 0 from rfl) (ev_pos (show true = true from rfl) (ev_pos hs ?_)))
    rw [show (⟨#[45]⟩ : ByteArray) = ⟨[(45 : UInt8)].toArray⟩ from rfl, bytes_cat]
    exact Ev.now _
  induction n with
  | zero =>
    intro u hu _ l hl
    obtain rfl : u = 0 := by omega
    exact fin l (by omega)
  | succ n ih =>
    intro u hu hb l hl
    by_cases h0 : u = 0
    · subst h0
      exact fin l (by omega)
    have ht : Int.tmod (-(u : Int)) 10 = -((u % 10 : Nat) : Int) := by rw [Int.neg_tmod]; exact congrArg Neg.neg (tmodN u 10)
    have hd : Int.tdiv (-(u : Int)) 10 = -((u / 10 : Nat) : Int) := by rw [Int.neg_tdiv]; exact congrArg Neg.neg (tdivN u 10)
    have hw : wrap64 (Int.tdiv (-(u : Int)) 10) = -((u / 10 : Nat) : Int) := by rw [hd]; exact w64 (by omega) (by omega)
    have hle : l.length + (decL (u / 10)).length + 1 ≤ 1000 := by rw [decL_pos u h0, List.length_append] at hl; simp at hl; omega
    have hnz : ¬ -(u : Int) = 0 := by omega
    have r := ih (u / 10) (by omega) (by omega) (UInt8.ofNat (48 + u % 10) :: l) (by rw [List.length_cons]; omega)
    have hs : (strOfNums ([((48 + u % 10 : Nat) : Int)] : List Int)).size + (⟨l.toArray⟩ : ByteArray).size ≤ 9223372036854775807 := by rw [strOfNums_size, bytes_size]; simp; omega
    have r' : Ev (fun k => if (strOfNums ([((48 + u % 10 : Nat) : Int)] : List Int)).size + (⟨l.toArray⟩ : ByteArray).size ≤ 9223372036854775807 then spec_Decimal.l0 k (wrap64 (Int.tdiv (-(u : Int)) 10)) true (strOfNums ([((48 + u % 10 : Nat) : Int)] : List Int) ++ (⟨l.toArray⟩ : ByteArray)) else none) ⟨(45 :: (decL u ++ l)).toArray⟩ := by
      refine ev_pos hs ?_
      rw [nums_one, bytes_cat, hw, Int.toNat_natCast, decL_pos u h0, List.append_assoc]
      exact r
    refine Ev.step (fun k => by rw [spec_Decimal.l0]) (ev_neg hnz ?_)
    by_cases hm : Int.tmod (-(u : Int)) 10 < 0
    · have e1 : spec_l01Figure.f (wrap64 (-(Int.tmod (-(u : Int)) 10))) = some ((48 + u % 10 : Nat) : Int) := by
        rw [ht, Int.neg_neg, w64 (by omega) (by omega)]; exact figure_ok _ (by omega)
      exact ev_pos hm (Ev.bind (g := fun _ => spec_l01Figure.f (wrap64 (-(Int.tmod (-(u : Int)) 10)))) (by rw [e1]; exact Ev.now _) (Ev.bind (g := fun _ => some ([((48 + u % 10 : Nat) : Int)] : List Int)) (Ev.now _) r'))
    · have e1 : spec_l01Figure.f (Int.tmod (-(u : Int)) 10) = some ((48 + u % 10 : Nat) : Int) := by
        have hz : u % 10 = 0 := by omega
        rw [ht, hz]; exact figure_ok 0 (by omega)
      exact ev_neg hm (Ev.bind (g := fun _ => spec_l01Figure.f (Int.tmod (-(u : Int)) 10)) (by rw [e1]; exact Ev.now _) (Ev.bind (g := fun _ => some ([((48 + u % 10 : Nat) : Int)] : List Int)) (Ev.now _) r'))
theorem spec_dec (n : Int) (h0 : -9223372036854775808 ≤ n) (h1 : n ≤ 9223372036854775807) : Ev (fun k => spec_Decimal.f k n) (decV n) := by
  simp only [spec_Decimal.f]
  unfold decV Lib.itoa
  by_cases hz : n = 0
  · subst hz
    refine ev_pos rfl ?_
    rw [if_neg (by omega), show (0 : Int).toNat = 0 from rfl, Lib.decDigits, dif_pos (by omega)]
    exact Ev.now _
  refine ev_neg hz ?_
  have hlen : (decL n.natAbs).length ≤ 20 := decL_len 20 _ (by omega)
  by_cases hn : n < 0
  · rw [if_pos hn, decide_eq_true hn]
    have r := dec_neg n.natAbs n.natAbs (Nat.le_refl _) (by omega) [] (by simp; omega)
    rw [show -(n.natAbs : Int) = n by omega, List.append_nil] at r
    unfold decL at r
    rw [if_neg (by omega)] at r
    exact r
  · rw [if_neg hn, decide_eq_false hn]
    have r := dec_pos n.natAbs n.natAbs (Nat.le_refl _) (by omega) [] (by simp; omega)
    rw [show (n.natAbs : Int) = n by omega, List.append_nil, show n.natAbs = n.toNat by omega] at r
    unfold decL at r
    rw [if_neg (by omega)] at r
    exact r

theorem FnExactDecimal : laws_FnExactDecimal.Pure := by
  intro n hn
  have hb : -9223372036854775808 ≤ n ∧ n ≤ 9223372036854775807 := by
    simp only [Lit.wf] at hn
    simpa [show IntKind.i64.min = -9223372036854775808 by decide] using hn
  refine Ev.rounds (g := fun k => laws_FnExactDecimal.f k n) ?_
  simp only [laws_FnExactDecimal.f]
  have e : impl_Decimal.f n = some (decV n) := if_pos hb
  refine Ev.bind (spec_dec n hb.1 hb.2) (Ev.bind (g := fun _ => impl_Decimal.f n) (by rw [e]; exact Ev.now _) (ev_pos rfl (Ev.now _)))

end Go.Proofs.YtpboocpomnihbaaDoor.Pure
