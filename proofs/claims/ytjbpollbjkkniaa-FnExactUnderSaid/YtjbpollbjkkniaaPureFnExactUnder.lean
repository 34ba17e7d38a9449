/- The law FnExactUnder answers true for every argument: the program's Under and the reference's come to the same answer. -/
import Derived.Test.YtjbpollbjkkniaaPFnExactUnderx1
set_option linter.unusedVariables false
set_option linter.unusedSimpArgs false
namespace Go.Proofs.Ytjbpollbjkkniaa.Pure
open Go.RowKit Go.Proofs.Ytjbpollbjkkniaa.PFnExactUnder Go.Proofs.YtjbpollbjkkniaaW.PrintWords Go.Proofs.YtjbpollbjkkniaaW.PrintLast

theorem w64 {n : Int} (h0 : -9223372036854775808 ≤ n) (h1 : n ≤ 9223372036854775807) : wrap64 n = n := by unfold wrap64; omega
theorem ev_pos {α : Type} {c : Prop} [Decidable c] {f g : Nat → Option α} {r : α} (h : c) (k : Ev f r) : Ev (fun n => if c then f n else g n) r := by
  simpa only [if_pos h] using k
theorem ev_neg {α : Type} {c : Prop} [Decidable c] {f g : Nat → Option α} {r : α} (h : ¬ c) (k : Ev g r) : Ev (fun n => if c then f n else g n) r := by
  simpa only [if_neg h] using k
theorem tdivN (n m : Nat) : Int.tdiv (n : Int) (m : Int) = ((n / m : Nat) : Int) := rfl
theorem tmodN (n m : Nat) : Int.tmod (n : Int) (m : Int) = ((n % m : Nat) : Int) := rfl
theorem tdiv_pos' {n m : Int} (h : 0 ≤ n) : Int.tdiv n m = n / m := Int.tdiv_eq_ediv_of_nonneg h
theorem tmod_pos' {n m : Int} (h : 0 ≤ n) : Int.tmod n m = n % m := Int.tmod_eq_emod_of_nonneg h
theorem bt_rng (s : ByteArray) (i : Int) : 0 ≤ bt s i ∧ bt s i ≤ 255 := bt_range s i
theorem bt_bytes (s : ByteArray) (i : Nat) : bt s i = (bytesOf s).getD i 0 := (rd_bytesOf s i).symm
theorem drop_bytes (s : ByteArray) (i : Nat) (h : i < s.size) : (bytesOf s).drop i = bt s i :: (bytesOf s).drop (i + 1) := by
  have h' : i < (bytesOf s).length := by rw [bytesOf_length]; exact h
  rw [List.drop_eq_getElem_cons h', bt_bytes, List.getD_eq_getElem?_getD, List.getElem?_eq_getElem h']
  rfl

theorem toList_size (s : ByteArray) : s.toList.length = s.size := by rw [ByteArray.toList_eq, Array.length_toList]; rfl
theorem extract_toList (s : ByteArray) (i j : Nat) : (s.extract i j).toList = (s.toList.drop i).take (j - i) := by
  rw [ByteArray.toList_eq, ByteArray.toList_eq]; simp [ByteArray.data_extract, List.extract_eq_take_drop]
theorem FnExactUnder : laws_FnExactUnder.Pure := by
  intro a b ha hb
  simp only [laws_FnExactUnder.f]
  by_cases h1 : (a.size : Int) > 1048576
  · rw [if_pos h1]
  rw [if_neg h1]
  by_cases h2 : (b.size : Int) > 1048576
  · rw [if_pos h2]
  rw [if_neg h2]
  suffices h : ∃ r, spec_Under.f a b = some r ∧ impl_Under.f a b = some r by
    obtain ⟨r, e1, e2⟩ := h
    rw [e1, e2]; simp
  unfold spec_Under.f impl_Under.f strings_HasSuffix.f stringslite_HasSuffix.f
  by_cases h3 : b.toList = []
  · rw [if_pos h3, if_pos h3]; exact ⟨_, rfl, rfl⟩
  rw [if_neg h3, if_neg h3]
  by_cases h4 : a.toList = b.toList
  · rw [if_pos h4, if_pos h4]; exact ⟨_, rfl, rfl⟩
  rw [if_neg h4, if_neg h4, if_pos (show 1 + b.size ≤ 9223372036854775807 by omega)]
  have hsz : ((⟨#[46]⟩ : ByteArray) ++ b).size = 1 + b.size := by simp [ByteArray.size_append]; rfl
  rw [hsz]
  have e1 : wrap64 ((a.size : Int) - b.size) = (a.size : Int) - b.size := w64 (by omega) (by omega)
  have e2 : wrap64 ((a.size : Int) - ((1 + b.size : Nat) : Int)) = (a.size : Int) - (1 + b.size : Nat) := w64 (by omega) (by omega)
  have e3 : wrap64 ((a.size : Int) - b.size - 1) = (a.size : Int) - b.size - 1 := w64 (by omega) (by omega)
  rw [e1, e2, e3]
  by_cases h5 : (a.size : Int) - b.size > 0
  · rw [if_pos h5, if_pos (show (0 : Int) ≤ (a.size : Int) - b.size by omega), if_pos (show (a.size : Int) - b.size ≤ a.size by omega), if_pos (show (0 : Int) ≤ (a.size : Int) - b.size - 1 by omega), if_pos (show (a.size : Int) - b.size - 1 < a.size by omega),
      if_pos (show (a.size : Int) ≥ (1 + b.size : Nat) by omega), if_pos (show (0 : Int) ≤ (a.size : Int) - (1 + b.size : Nat) by omega), if_pos (show (a.size : Int) - (1 + b.size : Nat) ≤ a.size by omega)]
    simp only [Option.bind_some]
    have n1 : ((a.size : Int) - b.size).toNat = a.size - b.size := by omega
    have n2 : ((a.size : Int) - (1 + b.size : Nat)).toNat = a.size - b.size - 1 := by omega
    have n3 : ((a.size : Int) - b.size - 1).toNat = a.size - b.size - 1 := by omega
    have hlt : a.size - b.size - 1 < a.toList.length := by rw [toList_size]; omega
    have hbt : bt a ((a.size : Int) - b.size - 1) = (a.toList[a.size - b.size - 1]).toNat := by
      unfold bt
      rw [dif_pos (by omega)]
      simp only [n3, ByteArray.toList_eq]
      rfl
    have key : (a.extract (a.size - b.size - 1) a.size).toList = a.toList[a.size - b.size - 1] :: (a.extract (a.size - b.size) a.size).toList := by
      rw [extract_toList, extract_toList, List.drop_eq_getElem_cons hlt, show a.size - b.size - 1 + 1 = a.size - b.size by omega, show a.size - (a.size - b.size - 1) = (a.size - (a.size - b.size)) + 1 by omega, List.take_succ_cons]
    have hap : ((⟨#[46]⟩ : ByteArray) ++ b).toList = 46 :: b.toList := by rw [ByteArray.toList_eq, ByteArray.toList_eq]; simp [ByteArray.data_append]
    rw [n1, n2, key, hap, hbt]
    by_cases h6 : (a.extract (a.size - b.size) a.size).toList = b.toList
    · rw [if_pos h6, h6]
      refine ⟨_, rfl, ?_⟩
      congr 1
      generalize a.toList[a.size - b.size - 1] = c
      rw [Bool.eq_iff_iff]
      simp only [beq_iff_eq, List.cons.injEq, and_true]
      constructor
      · rintro rfl; rfl
      · intro h
        apply UInt8.toNat_inj.1
        have : (c.toNat : Int) = 46 := h
        have h' : c.toNat = 46 := by omega
        rw [h']; rfl
    · rw [if_neg h6]
      refine ⟨_, rfl, ?_⟩
      congr 1
      simp only [beq_eq_false_iff_ne, ne_eq, List.cons.injEq, not_and]
      exact fun _ => h6
  · rw [if_neg h5, if_neg (show ¬ (a.size : Int) ≥ (1 + b.size : Nat) by omega)]
    exact ⟨_, rfl, rfl⟩

end Go.Proofs.Ytjbpollbjkkniaa.Pure
