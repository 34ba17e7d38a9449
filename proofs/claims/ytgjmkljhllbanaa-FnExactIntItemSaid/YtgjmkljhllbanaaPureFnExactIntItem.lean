/- The law FnExactIntItem answers true for every argument: the program's IntItem and the reference's come to the same answer. -/
import Derived.Test.YtgjmkljhllbanaaGFnExactIntItemx3
set_option linter.unusedVariables false
set_option linter.unusedSimpArgs false
namespace Go.Proofs.Ytgjmkljhllbanaa.Pure
open Go.RowKit Go.Proofs.Ytgjmkljhllbanaa.GFnExactIntItem Go.Proofs.YtgjmkljhllbanaaW.PrintWords Go.Proofs.YtgjmkljhllbanaaW.PrintLast

theorem w64 {n : Int} (h0 : -9223372036854775808 ≤ n) (h1 : n ≤ 9223372036854775807) : wrap64 n = n := by unfold wrap64; omega
theorem ev_pos {α : Type} {c : Prop} [Decidable c] {f g : Nat → Option α} {r : α} (h : c) (k : Ev f r) : Ev (fun n => if c then f n else g n) r := by
  simpa only [if_pos h] using k
theorem ev_neg {α : Type} {c : Prop} [Decidable c] {f g : Nat → Option α} {r : α} (h : ¬ c) (k : Ev g r) : Ev (fun n => if c then f n else g n) r := by
  simpa only [if_neg h] using k
theorem tdivN (n m : Nat) : Int.tdiv (n : Int) (m : Int) = ((n / m : Nat) : Int) := rfl
theorem tmodN (n m : Nat) : Int.tmod (n : Int) (m : Int) = ((n % m : Nat) : Int) := rfl
theorem tdiv_pos' {n m : Int} (h : 0 ≤ n) : Int.tdiv n m = n / m := Int.tdiv_eq_ediv_of_nonneg h
theorem tmod_pos' {n m : Int} (h : 0 ≤ n) : Int.tmod n m = n % m := Int.tmod_eq_emod_of_nonneg h
theorem bt_rng (s : ByteArray) (i : Int) : 0 ≤ bt s i ∧ bt s i ≤ 255 := bt_range s i
theorem bt_bytes (s : ByteArray) (i : Nat) : bt s i = (bytesOf s).getD i 0 := (rd_bytesOf s i).symm
theorem drop_bytes (s : ByteArray) (i : Nat) (h : i < s.size) : (bytesOf s).drop i = bt s i :: (bytesOf s).drop (i + 1) := by
  have h' : i < (bytesOf s).length := by rw [bytesOf_length]; exact h
  rw [List.drop_eq_getElem_cons h', bt_bytes, List.getD_eq_getElem?_getD, List.getElem?_eq_getElem h']
  rfl

theorem toList_size (s : ByteArray) : s.toList.length = s.size := by rw [ByteArray.toList_eq, Array.length_toList]; rfl
theorem extract_toList (s : ByteArray) (i j : Nat) : (s.extract i j).toList = (s.toList.drop i).take (j - i) := by
  rw [ByteArray.toList_eq, ByteArray.toList_eq]; simp [ByteArray.data_extract, List.extract_eq_take_drop]
theorem append_toList (s t : ByteArray) : (s ++ t).toList = s.toList ++ t.toList := by
  rw [ByteArray.toList_eq, ByteArray.toList_eq, ByteArray.toList_eq]; simp [ByteArray.data_append]
theorem nums_toList (l : List Int) : (strOfNums l).toList = l.map fun n => UInt8.ofNat n.toNat := by rw [ByteArray.toList_eq, strOfNums_data]

def bN (s : ByteArray) : List Nat := s.data.toList.map UInt8.toNat
theorem bN_len (s : ByteArray) : (bN s).length = s.size := by rw [bN, List.length_map, Array.length_toList]; rfl
theorem bN_lt (s : ByteArray) : ∀ b ∈ bN s, b < 256 := by
  intro b hb
  obtain ⟨c, _, rfl⟩ := List.mem_map.1 hb
  exact c.toNat_lt
theorem bt_bN (s : ByteArray) (i : Nat) : bt s i = ((bN s).getD i 0 : Nat) := by
  unfold bt bN
  split
  · rename_i h
    have h' : i < s.data.toList.length := by rw [Array.length_toList]; exact h
    simp [List.getD_eq_getElem?_getD, List.getElem?_eq_getElem h']
    rfl
  · rename_i h
    have h' : s.data.toList.length ≤ i := by rw [Array.length_toList]; simpa using h
    simp [List.getD_eq_getElem?_getD, List.getElem?_eq_none h']
theorem bN_toList (s : ByteArray) : s.toList = (bN s).map UInt8.ofNat := by
  rw [ByteArray.toList_eq, bN, List.map_map]
  symm
  exact (List.map_congr_left (fun b _ => by simp)).trans (List.map_id _)
theorem drop_get (l : List Nat) (i : Nat) (pre : List Nat) (c : Nat) (rest : List Nat) (h : l.drop i = pre ++ c :: rest) : l.getD (i + pre.length) 0 = c := by
  have h2 : (l.drop i)[pre.length]? = some c := by rw [h, List.getElem?_append_right (Nat.le_refl _)]; simp
  rw [List.getElem?_drop] at h2
  rw [List.getD_eq_getElem?_getD, h2]; rfl

theorem eq_nil_ev : Ev (fun k => laws_eqItemS.f k [] []) true := by
  refine Ev.step (fun k => by rw [laws_eqItemS.f]) ?_
  refine ev_pos rfl (Ev.step (fun k => by rw [laws_eqItemS.l0]) ?_)
  exact ev_neg (by simp) (Ev.now _)
theorem eq_item (a : Int) (b : ByteArray) : Ev (fun k => laws_eqItem.f k a b [] a b []) true := by
  simp only [laws_eqItem.f]
  refine ev_pos trivial (ev_pos trivial (Ev.bind eq_nil_ev (ev_pos rfl (Ev.now _))))
theorem held_nil_ev (n : Int) : Ev (fun k => laws_heldItemS.f k [] n) n := by
  refine Ev.step (fun k => by rw [laws_heldItemS.f]) ?_
  refine Ev.step (fun k => by rw [laws_heldItemS.l0]) ?_
  exact ev_neg (by simp) (Ev.now _)
theorem held_item (a : Int) (b : ByteArray) : Ev (fun k => laws_heldItem.f k a b [] 1) 1 := by
  simp only [laws_heldItem.f]
  exact Ev.bind (held_nil_ev 1) (ev_neg (by omega) (Ev.now _))
theorem mark_item (a : Int) (b : ByteArray) : laws_markItem.f a b [] 1 = some 1 := rfl

theorem str_append (l m : List Int) : strOfNums l ++ strOfNums m = strOfNums (l ++ m) := by
  apply ByteArray.ext
  rw [ByteArray.data_append]
  unfold strOfNums
  simp
theorem str_toList_nil (l : List Int) : (strOfNums l).toList = [] ↔ l = [] := by rw [nums_toList]; simp
theorem bt_str (l : List Int) (h : ∀ x ∈ l, 0 ≤ x ∧ x < 256) : bt (strOfNums l) 0 = l.getD 0 0 := by
  cases l with
  | nil => simp [bt, strOfNums, ByteArray.size]
  | cons x l =>
    have hx := h x (by simp)
    have e : bt (strOfNums (x :: l)) ((0 : Nat) : Int) = ((bN (strOfNums (x :: l))).getD 0 0 : Nat) := bt_bN _ 0
    have e2 : bN (strOfNums (x :: l)) = (x :: l).map fun n => (UInt8.ofNat n.toNat).toNat := by
      unfold bN
      rw [strOfNums_data, List.map_map]
      rfl
    rw [show bt (strOfNums (x :: l)) 0 = bt (strOfNums (x :: l)) ((0 : Nat) : Int) from rfl, e, e2]
    simp
    omega
def be (n : Nat) : List Int := if 0 < n then be (n / 256) ++ [((n % 256 : Nat) : Int)] else []
termination_by n
decreasing_by omega
theorem be_rng (n : Nat) : ∀ x ∈ be n, 0 ≤ x ∧ x < 256 := by
  induction n using Nat.strongRecOn with
  | _ n ih =>
    intro x hx
    rw [be] at hx
    split at hx
    · rcases List.mem_append.1 hx with h | h
      · exact ih (n / 256) (by omega) x h
      · simp at h; omega
    · simp at hx
theorem be_len (n : Nat) : (be n).length ≤ n := by
  induction n using Nat.strongRecOn with
  | _ n ih =>
    rw [be]
    split
    · have := ih (n / 256) (by omega)
      simp; omega
    · simp
theorem be_pos (n : Nat) (h : 0 < n) : be n ≠ [] := by rw [be, if_pos h]; simp
/-- The bytes of IntItem. -/
def intB (n : Nat) : List Int := if n = 0 then [0] else be n
def intL (n : Nat) : List Int := if 128 ≤ (intB n).getD 0 0 then 0 :: intB n else intB n
def intN (a : Int) : Nat := if 0 ≤ a ∧ a ≤ 1000000000 then a.toNat else 0
def intV (a : Int) : Int × ByteArray × List S40 := (2, strOfNums (intL (intN a)), [])

theorem spec_int (n : Nat) : ∀ acc : List Int, n + acc.length ≤ 2000000000 → Ev (fun k => spec_IntItem.l0 k (n : Int) (strOfNums acc)) (2, (if be n ++ acc = [] then strOfNums [0] else if 128 ≤ bt (strOfNums (be n ++ acc)) 0 then strOfNums (0 :: (be n ++ acc)) else strOfNums (be n ++ acc)), []) := by
  induction n using Nat.strongRecOn with
  | _ n ih =>
    intro acc hl
    refine Ev.step (fun k => by rw [spec_IntItem.l0]) ?_
    by_cases h : 0 < n
    · refine ev_pos (by omega) ?_
      have e1 : wrap64 (Int.tdiv (n : Int) 256) = ((n / 256 : Nat) : Int) := by rw [show (256 : Int) = ((256 : Nat) : Int) from rfl, tdivN]; exact w64 (by omega) (by omega)
      have e2 : Int.tmod (n : Int) 256 % 256 = ((n % 256 : Nat) : Int) := by
        rw [show (256 : Int) = ((256 : Nat) : Int) from rfl, tmodN]; omega
      rw [e1, e2]
      refine Ev.bind (g := fun _ => some [((n % 256 : Nat) : Int)]) (Ev.now _) ?_
      rw [str_append]
      have hz : (strOfNums [((n % 256 : Nat) : Int)]).size + (strOfNums acc).size ≤ 9223372036854775807 := by rw [strOfNums_size, strOfNums_size]; simp; omega
      refine ev_pos hz ?_
      have := ih (n / 256) (by omega) ([((n % 256 : Nat) : Int)] ++ acc) (by simp; omega)
      rw [be, if_pos h, List.append_assoc]
      exact this
    · refine ev_neg (by omega) ?_
      have e0 : be n = [] := by rw [be, if_neg h]
      rw [e0, List.nil_append]
      have hz : 1 + (strOfNums acc).size ≤ 9223372036854775807 := by rw [strOfNums_size]; omega
      have ez : (⟨#[0]⟩ : ByteArray) ++ strOfNums acc = strOfNums (0 :: acc) := str_append [0] acc
      by_cases ha : acc = []
      · subst ha
        refine ev_pos ((str_toList_nil []).2 rfl) (ev_pos hz ?_)
        rw [if_pos rfl, ez]
        exact Ev.now _
      · refine ev_neg (fun h => ha ((str_toList_nil acc).1 h)) (ev_pos ?_ ?_)
        · rw [strOfNums_size]
          cases acc with
          | nil => exact absurd rfl ha
          | cons x l => simp
        · by_cases hb : bt (strOfNums acc) 0 ≥ 128
          · refine ev_pos hb (ev_pos hz ?_)
            rw [if_neg ha, if_pos hb, ez]
            exact Ev.now _
          · refine ev_neg hb ?_
            rw [if_neg ha, if_neg hb]
            exact Ev.now _
theorem spec_int_ev (a : Int) : Ev (fun k => spec_IntItem.f k a) (intV a) := by
  have key : ∀ n : Nat, n ≤ 1000000000 → Ev (fun k => spec_IntItem.j0 k (n : Int)) (2, strOfNums (intL n), []) := by
    intro n hn
    refine Ev.step (fun k => by rw [spec_IntItem.j0]) ?_
    have := spec_int n [] (by simp; omega)
    rw [List.append_nil] at this
    have hv : (if be n = [] then strOfNums [0] else if 128 ≤ bt (strOfNums (be n)) 0 then strOfNums (0 :: be n) else strOfNums (be n)) = strOfNums (intL n) := by
      unfold intL intB
      by_cases h : n = 0
      · subst h
        have e0 : be 0 = [] := by rw [be, if_neg (by omega)]
        rw [if_pos e0, if_pos rfl, if_neg (by simp)]
      · have hp := be_pos n (by omega)
        rw [if_neg hp, if_neg h, bt_str _ (be_rng n)]
        split <;> rfl
    rw [hv] at this
    exact this
  simp only [spec_IntItem.f, spec_l01In.f]
  unfold intV intN
  by_cases h0 : 0 ≤ a
  · by_cases h1 : a ≤ 1000000000
    · obtain ⟨m, rfl⟩ := Int.eq_ofNat_of_zero_le h0
      rw [if_pos (by omega), if_pos ⟨h0, h1⟩]
      exact Ev.bind (g := fun _ => some (decide ((m : Int) ≤ 1000000000))) (a := true) (by rw [decide_eq_true h1]; exact Ev.now _) (ev_pos rfl (key m (by omega)))
    · rw [if_pos (by omega), if_neg (fun h => h1 h.2)]
      exact Ev.bind (g := fun _ => some (decide (a ≤ 1000000000))) (a := false) (by rw [decide_eq_false h1]; exact Ev.now _) (ev_neg Bool.false_ne_true (key 0 (by omega)))
  · rw [if_neg (by omega), if_neg (fun h => h0 h.1)]
    exact Ev.bind (g := fun _ => some false) (Ev.now _) (ev_neg Bool.false_ne_true (key 0 (by omega)))

theorem impl_int (n : Nat) : ∀ acc : List Int, n + acc.length ≤ 2000000000 → acc ≠ [] → Ev (fun k => impl_IntItem.l0 k (n : Int) acc) (2, strOfNums (if 128 ≤ (be n ++ acc).getD 0 0 then 0 :: (be n ++ acc) else be n ++ acc), []) := by
  induction n using Nat.strongRecOn with
  | _ n ih =>
    intro acc hl ha
    refine Ev.step (fun k => by rw [impl_IntItem.l0]) ?_
    by_cases h : 0 < n
    · refine ev_pos (by omega) ?_
      have e1 : (n : Int) / 256 = ((n / 256 : Nat) : Int) := by omega
      have e2 : (n : Int) % 256 = ((n % 256 : Nat) : Int) := by omega
      rw [e1, e2]
      refine Ev.bind (g := fun _ => some [((n % 256 : Nat) : Int)]) (Ev.now _) (ev_pos (by simp; omega) ?_)
      have := ih (n / 256) (by omega) ([((n % 256 : Nat) : Int)] ++ acc) (by simp; omega) (by simp)
      rw [be, if_pos h, List.append_assoc]
      exact this
    · refine ev_neg (by omega) ?_
      have e0 : be n = [] := by rw [be, if_neg h]
      rw [e0, List.nil_append]
      refine ev_pos ?_ ?_
      · cases acc with
        | nil => exact absurd rfl ha
        | cons x l => simp
      · have er : rd acc 0 = acc.getD 0 0 := rfl
        rw [er]
        by_cases hb : acc.getD 0 0 ≥ 128
        · refine ev_pos hb (Ev.bind (g := fun _ => some [(0 : Int)]) (Ev.now _) (ev_pos (by simp; omega) ?_))
          rw [if_pos hb]
          exact Ev.now _
        · refine ev_neg hb ?_
          rw [if_neg hb]
          exact Ev.now _
theorem impl_int_ev (a : Int) : Ev (fun k => impl_IntItem.f k a) (intV a) := by
  have key : ∀ n : Nat, n ≤ 1000000000 → Ev (fun k => impl_IntItem.j0 k (n : Int)) (2, strOfNums (intL n), []) := by
    intro n hn
    refine Ev.step (fun k => by rw [impl_IntItem.j0]) ?_
    have e1 : (n : Int) / 256 = ((n / 256 : Nat) : Int) := by omega
    have e2 : (n : Int) % 256 = ((n % 256 : Nat) : Int) := by omega
    rw [e1, e2]
    have := impl_int (n / 256) [((n % 256 : Nat) : Int)] (by simp; omega) (by simp)
    have hv : be (n / 256) ++ [((n % 256 : Nat) : Int)] = intB n := by
      unfold intB
      by_cases h : n = 0
      · subst h
        rw [if_pos rfl, be, if_neg (by omega)]; rfl
      · rw [if_neg h, be.eq_1 n, if_pos (by omega)]
    rw [hv] at this
    exact this
  simp only [impl_IntItem.f, impl_within.f]
  unfold intV intN
  by_cases h0 : 0 ≤ a
  · by_cases h1 : a ≤ 1000000000
    · obtain ⟨m, rfl⟩ := Int.eq_ofNat_of_zero_le h0
      rw [if_pos (by omega), if_pos ⟨h0, h1⟩]
      exact Ev.bind (g := fun _ => some (decide ((m : Int) ≤ 1000000000))) (a := true) (by rw [decide_eq_true h1]; exact Ev.now _) (ev_pos rfl (key m (by omega)))
    · rw [if_pos (by omega), if_neg (fun h => h1 h.2)]
      exact Ev.bind (g := fun _ => some (decide (a ≤ 1000000000))) (a := false) (by rw [decide_eq_false h1]; exact Ev.now _) (ev_neg Bool.false_ne_true (key 0 (by omega)))
  · rw [if_neg (by omega), if_neg (fun h => h0 h.1)]
    exact Ev.bind (g := fun _ => some false) (Ev.now _) (ev_neg Bool.false_ne_true (key 0 (by omega)))

theorem FnExactIntItem : laws_FnExactIntItem.Pure := by
  intro a h1
  refine Ev.rounds (g := fun k => laws_FnExactIntItem.f k a) ?_
  simp only [laws_FnExactIntItem.f]
  have hs := spec_int_ev a
  have hi := impl_int_ev a
  unfold intV at hs hi
  generalize strOfNums (intL (intN a)) = s at hs hi
  refine Ev.bind hs (Ev.bind hi (Ev.bind (eq_item 2 s) (ev_pos rfl ?_)))
  refine Ev.bind (g := fun _ => laws_markItem.f 2 s [] 1) (a := 1) (Ev.now _) (Ev.bind (held_item 2 s) (ev_neg (by omega) (ev_pos rfl ?_)))
  exact Ev.bind hi (Ev.bind (eq_item 2 s) (ev_pos rfl (Ev.bind (held_item 2 s) (ev_neg (by omega) (ev_pos rfl (Ev.now _))))))

end Go.Proofs.Ytgjmkljhllbanaa.Pure
