/- The law FnExactShortText answers true for every argument: the program's ShortText and the reference's come to the same answer. -/
import Derived.Test.YtjbpollbjkkniaaPFnExactShortTextx1
set_option linter.unusedVariables false
set_option linter.unusedSimpArgs false
namespace Go.Proofs.Ytjbpollbjkkniaa.Pure
open Go.RowKit Go.Proofs.Ytjbpollbjkkniaa.PFnExactShortText Go.Proofs.YtjbpollbjkkniaaW.PrintWords Go.Proofs.YtjbpollbjkkniaaW.PrintLast

theorem w64 {n : Int} (h0 : -9223372036854775808 ≤ n) (h1 : n ≤ 9223372036854775807) : wrap64 n = n := by unfold wrap64; omega
theorem ev_pos {α : Type} {c : Prop} [Decidable c] {f g : Nat → Option α} {r : α} (h : c) (k : Ev f r) : Ev (fun n => if c then f n else g n) r := by
  simpa only [if_pos h] using k
theorem ev_neg {α : Type} {c : Prop} [Decidable c] {f g : Nat → Option α} {r : α} (h : ¬ c) (k : Ev g r) : Ev (fun n => if c then f n else g n) r := by
  simpa only [if_neg h] using k
theorem tdivN (n m : Nat) : Int.tdiv (n : Int) (m : Int) = ((n / m : Nat) : Int) := rfl
theorem tmodN (n m : Nat) : Int.tmod (n : Int) (m : Int) = ((n % m : Nat) : Int) := rfl
theorem tdiv_pos' {n m : Int} (h : 0 ≤ n) : Int.tdiv n m = n / m := Int.tdiv_eq_ediv_of_nonneg h
theorem tmod_pos' {n m : Int} (h : 0 ≤ n) : Int.tmod n m = n % m := Int.tmod_eq_emod_of_nonneg h
theorem bt_rng (s : ByteArray) (i : Int) : 0 ≤ bt s i ∧ bt s i ≤ 255 := bt_range s i
theorem bt_bytes (s : ByteArray) (i : Nat) : bt s i = (bytesOf s).getD i 0 := (rd_bytesOf s i).symm
theorem drop_bytes (s : ByteArray) (i : Nat) (h : i < s.size) : (bytesOf s).drop i = bt s i :: (bytesOf s).drop (i + 1) := by
  have h' : i < (bytesOf s).length := by rw [bytesOf_length]; exact h
  rw [List.drop_eq_getElem_cons h', bt_bytes, List.getD_eq_getElem?_getD, List.getElem?_eq_getElem h']
  rfl

def varL (n : Nat) : List Int := if 127 < n then ((n % 128 + 128 : Nat) : Int) :: varL (n / 128) else [(n : Int)]
termination_by n
decreasing_by omega

theorem spec_var (n : Nat) : ∀ acc : List Int, acc.length + n ≤ 2000000000 → Ev (fun k => spec_l01Var.l0 k (n : Int) acc) (strOfNums (acc ++ varL n)) := by
  induction n using Nat.strongRecOn with
  | _ n ih =>
    intro acc hl
    refine Ev.step (fun k => by rw [spec_l01Var.l0]) ?_
    have e1 : wrap64 (Int.tdiv (n : Int) 128) = ((n / 128 : Nat) : Int) := by rw [show (128 : Int) = ((128 : Nat) : Int) from rfl, tdivN]; exact w64 (by omega) (by omega)
    have e2 : wrap64 (Int.tmod (n : Int) 128 + 128) % 256 = ((n % 128 + 128 : Nat) : Int) := by
      rw [show (128 : Int) = ((128 : Nat) : Int) from rfl, tmodN, w64 (by omega) (by omega)]; omega
    have e3 : (n : Int) % 256 = ((n % 256 : Nat) : Int) := by omega
    by_cases h : 127 < n
    · refine ev_pos (by omega) (ev_pos (by omega) ?_)
      rw [e1, e2, varL, if_pos h]
      have := ih (n / 128) (by omega) (acc ++ [((n % 128 + 128 : Nat) : Int)]) (by simp; omega)
      simpa using this
    · refine ev_neg (by omega) (ev_pos (by omega) ?_)
      rw [e3, varL, if_neg h, Nat.mod_eq_of_lt (by omega)]
      exact Ev.now _

theorem impl_var (n : Nat) : ∀ acc : List Int, acc.length + n ≤ 2000000000 → Ev (fun k => impl_VarText.l0 k (n : Int) acc) (strOfNums (acc ++ varL n), true) := by
  induction n using Nat.strongRecOn with
  | _ n ih =>
    intro acc hl
    refine Ev.step (fun k => by rw [impl_VarText.l0]) ?_
    have e1 : wrap64 (Int.tdiv (n : Int) 128) = ((n / 128 : Nat) : Int) := by rw [show (128 : Int) = ((128 : Nat) : Int) from rfl, tdivN]; exact w64 (by omega) (by omega)
    have e2 : wrap64 (Int.tmod (n : Int) 128 + 128) % 256 = ((n % 128 + 128 : Nat) : Int) := by
      rw [show (128 : Int) = ((128 : Nat) : Int) from rfl, tmodN, w64 (by omega) (by omega)]; omega
    have e3 : (n : Int) % 256 = ((n % 256 : Nat) : Int) := by omega
    by_cases h : 127 < n
    · refine ev_pos (by omega) (ev_pos (by omega) ?_)
      rw [e1, e2, varL, if_pos h]
      have := ih (n / 128) (by omega) (acc ++ [((n % 128 + 128 : Nat) : Int)]) (by simp; omega)
      simpa using this
    · refine ev_neg (by omega) (ev_pos (by omega) ?_)
      rw [e3, varL, if_neg h, Nat.mod_eq_of_lt (by omega)]
      exact Ev.now _

/-- What VarText answers. -/
def varV (n : Int) : ByteArray × Bool := if 0 ≤ n ∧ n ≤ 1000000000 then (strOfNums (varL n.toNat), true) else (⟨#[]⟩, false)

theorem impl_VarText_ev (n : Int) : Ev (fun k => impl_VarText.f k n) (varV n) := by
  simp only [impl_VarText.f, impl_within.f]
  unfold varV
  by_cases h0 : 0 ≤ n
  · by_cases h1 : n ≤ 1000000000
    · obtain ⟨m, rfl⟩ := Int.eq_ofNat_of_zero_le h0
      have := impl_var m [] (by simp; omega)
      simp [h1, Option.bind_some]
      exact this
    · simp [h0, h1]; exact Ev.now _
  · simp [h0]; exact Ev.now _

/-- What ShortText answers. -/
def shortV (s : ByteArray) : ByteArray × Bool := if (s.size : Int) > 20000 then (⟨#[]⟩, false) else (strOfNums (varL s.size) ++ s, true)
theorem varL_len (n : Nat) : (varL n).length ≤ n + 1 := by
  induction n using Nat.strongRecOn with
  | _ n ih =>
    rw [varL]
    split
    · have := ih (n / 128) (by omega)
      simp; omega
    · simp
theorem spec_ShortText_ev (s : ByteArray) : Ev (fun k => spec_ShortText.f k s) (shortV s) := by
  simp only [spec_ShortText.f, spec_l01Var.f]
  unfold shortV
  by_cases hb : (s.size : Int) > 20000
  · rw [if_pos hb]; exact ev_pos hb (Ev.now _)
  · rw [if_neg hb]
    have := varL_len s.size
    refine ev_neg hb (Ev.bind (spec_var s.size [] (by simp; omega)) (ev_pos ?_ (Ev.now _)))
    rw [strOfNums_size]; simp; omega
theorem impl_ShortText_ev (s : ByteArray) : Ev (fun k => impl_ShortText.f k s) (shortV s) := by
  simp only [impl_ShortText.f]
  unfold shortV
  by_cases hb : (s.size : Int) > 20000
  · rw [if_pos hb]; exact ev_pos hb (Ev.now _)
  · rw [if_neg hb]
    have := varL_len s.size
    have hv := impl_VarText_ev s.size
    unfold varV at hv
    rw [if_pos (by omega)] at hv
    refine ev_neg hb (Ev.bind hv (ev_pos ?_ (Ev.now _)))
    rw [strOfNums_size]; simp; omega
theorem FnExactShortText : laws_FnExactShortText.Pure := by
  intro a0 h1
  refine Ev.rounds (g := fun k => laws_FnExactShortText.f k a0) ?_
  simp only [laws_FnExactShortText.f]
  by_cases hb : (a0.size : Int) > 1048576
  · exact ev_pos hb (Ev.now _)
  · refine ev_neg hb (Ev.bind (spec_ShortText_ev a0) (Ev.bind (impl_ShortText_ev a0) ?_))
    simp
    exact Ev.now _

end Go.Proofs.Ytjbpollbjkkniaa.Pure
