/- The law FnInts answers true for every input: numbers come back from their items, in one way alone. -/
import Derived.Test.YtkhmcioeceiepaaVGFnIntsx9
import Derived.Test.YtkhmcioeceiepaaVWSized
set_option linter.unusedVariables false
set_option linter.unusedSimpArgs false
namespace Go.Proofs.Ytkhmcioeceiepaa.Pure
open Go.RowKit Go.Proofs.Ytkhmcioeceiepaa.GFnInts Go.Proofs.YtkhmcioeceiepaaW.PrintWords Go.Proofs.YtkhmcioeceiepaaW.PrintLast

theorem w64 {n : Int} (h0 : -9223372036854775808 ≤ n) (h1 : n ≤ 9223372036854775807) : wrap64 n = n := by unfold wrap64; omega
theorem ev_pos {α : Type} {c : Prop} [Decidable c] {f g : Nat → Option α} {r : α} (h : c) (k : Ev f r) : Ev (fun n => if c then f n else g n) r := by
  simpa only [if_pos h] using k
theorem ev_neg {α : Type} {c : Prop} [Decidable c] {f g : Nat → Option α} {r : α} (h : ¬ c) (k : Ev g r) : Ev (fun n => if c then f n else g n) r := by
  simpa only [if_neg h] using k
theorem tdivN (n m : Nat) : Int.tdiv (n : Int) (m : Int) = ((n / m : Nat) : Int) := rfl
theorem tmodN (n m : Nat) : Int.tmod (n : Int) (m : Int) = ((n % m : Nat) : Int) := rfl
theorem tmod_pos' {n m : Int} (h : 0 ≤ n) : Int.tmod n m = n % m := Int.tmod_eq_emod_of_nonneg h
theorem extract_toList (s : ByteArray) (i j : Nat) : (s.extract i j).toList = (s.toList.drop i).take (j - i) := by
  rw [ByteArray.toList_eq, ByteArray.toList_eq]; simp [ByteArray.data_extract, List.extract_eq_take_drop]
theorem nums_toList (l : List Int) : (strOfNums l).toList = l.map fun n => UInt8.ofNat n.toNat := by rw [ByteArray.toList_eq, strOfNums_data]

def bN (s : ByteArray) : List Nat := s.data.toList.map UInt8.toNat
theorem bN_len (s : ByteArray) : (bN s).length = s.size := by rw [bN, List.length_map, Array.length_toList]; rfl
theorem bN_lt (s : ByteArray) : ∀ b ∈ bN s, b < 256 := by
  intro b hb
  obtain ⟨c, _, rfl⟩ := List.mem_map.1 hb
  exact c.toNat_lt
theorem bt_bN (s : ByteArray) (i : Nat) : bt s i = ((bN s).getD i 0 : Nat) := by
  unfold bt bN
  split
  · rename_i h
    have h' : i < s.data.toList.length := by rw [Array.length_toList]; exact h
    simp [List.getD_eq_getElem?_getD, List.getElem?_eq_getElem h']
    rfl
  · rename_i h
    have h' : s.data.toList.length ≤ i := by rw [Array.length_toList]; simpa using h
    simp [List.getD_eq_getElem?_getD, List.getElem?_eq_none h']
theorem str_append (l m : List Int) : strOfNums l ++ strOfNums m = strOfNums (l ++ m) := by
  apply ByteArray.ext
  rw [ByteArray.data_append]
  unfold strOfNums
  simp
theorem str_toList_nil (l : List Int) : (strOfNums l).toList = [] ↔ l = [] := by rw [nums_toList]; simp
theorem bt_str (l : List Int) (h : ∀ x ∈ l, 0 ≤ x ∧ x < 256) : bt (strOfNums l) 0 = l.getD 0 0 := by
  cases l with
  | nil => simp [bt, strOfNums, ByteArray.size]
  | cons x l =>
    have hx := h x (by simp)
    have e : bt (strOfNums (x :: l)) ((0 : Nat) : Int) = ((bN (strOfNums (x :: l))).getD 0 0 : Nat) := bt_bN _ 0
    have e2 : bN (strOfNums (x :: l)) = (x :: l).map fun n => (UInt8.ofNat n.toNat).toNat := by
      unfold bN
      rw [strOfNums_data, List.map_map]
      rfl
    rw [show bt (strOfNums (x :: l)) 0 = bt (strOfNums (x :: l)) ((0 : Nat) : Int) from rfl, e, e2]
    simp
    omega
def be (n : Nat) : List Int := if 0 < n then be (n / 256) ++ [((n % 256 : Nat) : Int)] else []
termination_by n
decreasing_by omega
theorem be_rng (n : Nat) : ∀ x ∈ be n, 0 ≤ x ∧ x < 256 := by
  induction n using Nat.strongRecOn with
  | _ n ih =>
    intro x hx
    rw [be] at hx
    split at hx
    · rcases List.mem_append.1 hx with h | h
      · exact ih (n / 256) (by omega) x h
      · simp at h; omega
    · simp at hx
theorem be_pos (n : Nat) (h : 0 < n) : be n ≠ [] := by rw [be, if_pos h]; simp
/-- The bytes of IntItem. -/
def intB (n : Nat) : List Int := if n = 0 then [0] else be n
def intL (n : Nat) : List Int := if 128 ≤ (intB n).getD 0 0 then 0 :: intB n else intB n
def intN (a : Int) : Nat := if 0 ≤ a ∧ a ≤ 1000000000 then a.toNat else 0
def intV (a : Int) : Int × ByteArray × List S39 := (2, strOfNums (intL (intN a)), [])

theorem spec_int (n : Nat) : ∀ acc : List Int, n + acc.length ≤ 2000000000 → Ev (fun k => spec_IntItem.l0 k (n : Int) (strOfNums acc)) (2, (if be n ++ acc = [] then strOfNums [0] else if 128 ≤ bt (strOfNums (be n ++ acc)) 0 then strOfNums (0 :: (be n ++ acc)) else strOfNums (be n ++ acc)), []) := by
  induction n using Nat.strongRecOn with
  | _ n ih =>
    intro acc hl
    refine Ev.step (fun k => by rw [spec_IntItem.l0]) ?_
    by_cases h : 0 < n
    · refine ev_pos (by omega) ?_
      have e1 : wrap64 (Int.tdiv (n : Int) 256) = ((n / 256 : Nat) : Int) := by rw [show (256 : Int) = ((256 : Nat) : Int) from rfl, tdivN]; exact w64 (by omega) (by omega)
      have e2 : Int.tmod (n : Int) 256 % 256 = ((n % 256 : Nat) : Int) := by
        rw [show (256 : Int) = ((256 : Nat) : Int) from rfl, tmodN]; omega
      rw [e1, e2]
      refine Ev.bind (g := fun _ => some [((n % 256 : Nat) : Int)]) (Ev.now _) ?_
      rw [str_append]
      have hz : (strOfNums [((n % 256 : Nat) : Int)]).size + (strOfNums acc).size ≤ 9223372036854775807 := by rw [strOfNums_size, strOfNums_size]; simp; omega
      refine ev_pos hz ?_
      have := ih (n / 256) (by omega) ([((n % 256 : Nat) : Int)] ++ acc) (by simp; omega)
      rw [be, if_pos h, List.append_assoc]
      exact this
    · refine ev_neg (by omega) ?_
      have e0 : be n = [] := by rw [be, if_neg h]
      rw [e0, List.nil_append]
      have hz : 1 + (strOfNums acc).size ≤ 9223372036854775807 := by rw [strOfNums_size]; omega
      have ez : (⟨#[0]⟩ : ByteArray) ++ strOfNums acc = strOfNums (0 :: acc) := str_append [0] acc
      by_cases ha : acc = []
      · subst ha
        refine ev_pos ((str_toList_nil []).2 rfl) (ev_pos hz ?_)
        rw [if_pos rfl, ez]
        exact Ev.now _
      · refine ev_neg (fun h => ha ((str_toList_nil acc).1 h)) (ev_pos ?_ ?_)
        · rw [strOfNums_size]
          cases acc with
          | nil => exact absurd rfl ha
          | cons x l => simp
        · by_cases hb : bt (strOfNums acc) 0 ≥ 128
          · refine ev_pos hb (ev_pos hz ?_)
            rw [if_neg ha, if_pos hb, ez]
            exact Ev.now _
          · refine ev_neg hb ?_
            rw [if_neg ha, if_neg hb]
            exact Ev.now _
theorem spec_int_ev (a : Int) : Ev (fun k => spec_IntItem.f k a) (intV a) := by
  have key : ∀ n : Nat, n ≤ 1000000000 → Ev (fun k => spec_IntItem.j0 k (n : Int)) (2, strOfNums (intL n), []) := by
    intro n hn
    refine Ev.step (fun k => by rw [spec_IntItem.j0]) ?_
    have := spec_int n [] (by simp; omega)
    rw [List.append_nil] at this
    have hv : (if be n = [] then strOfNums [0] else if 128 ≤ bt (strOfNums (be n)) 0 then strOfNums (0 :: be n) else strOfNums (be n)) = strOfNums (intL n) := by
      unfold intL intB
      by_cases h : n = 0
      · subst h
        have e0 : be 0 = [] := by rw [be, if_neg (by omega)]
        rw [if_pos e0, if_pos rfl, if_neg (by simp)]
      · have hp := be_pos n (by omega)
        rw [if_neg hp, if_neg h, bt_str _ (be_rng n)]
        split <;> rfl
    rw [hv] at this
    exact this
  simp only [spec_IntItem.f, spec_l01In.f]
  unfold intV intN
  by_cases h0 : 0 ≤ a
  · by_cases h1 : a ≤ 1000000000
    · obtain ⟨m, rfl⟩ := Int.eq_ofNat_of_zero_le h0
      rw [if_pos (by omega), if_pos ⟨h0, h1⟩]
      exact Ev.bind (g := fun _ => some (decide ((m : Int) ≤ 1000000000))) (a := true) (by rw [decide_eq_true h1]; exact Ev.now _) (ev_pos rfl (key m (by omega)))
    · rw [if_pos (by omega), if_neg (fun h => h1 h.2)]
      exact Ev.bind (g := fun _ => some (decide (a ≤ 1000000000))) (a := false) (by rw [decide_eq_false h1]; exact Ev.now _) (ev_neg Bool.false_ne_true (key 0 (by omega)))
  · rw [if_neg (by omega), if_neg (fun h => h0 h.1)]
    exact Ev.bind (g := fun _ => some false) (Ev.now _) (ev_neg Bool.false_ne_true (key 0 (by omega)))

theorem impl_int (n : Nat) : ∀ acc : List Int, n + acc.length ≤ 2000000000 → acc ≠ [] → Ev (fun k => impl_IntItem.l0 k (n : Int) acc) (2, strOfNums (if 128 ≤ (be n ++ acc).getD 0 0 then 0 :: (be n ++ acc) else be n ++ acc), []) := by
  induction n using Nat.strongRecOn with
  | _ n ih =>
    intro acc hl ha
    refine Ev.step (fun k => by rw [impl_IntItem.l0]) ?_
    by_cases h : 0 < n
    · refine ev_pos (by omega) ?_
      have e1 : (n : Int) / 256 = ((n / 256 : Nat) : Int) := by omega
      have e2 : (n : Int) % 256 = ((n % 256 : Nat) : Int) := by omega
      rw [e1, e2]
      refine Ev.bind (g := fun _ => some [((n % 256 : Nat) : Int)]) (Ev.now _) (ev_pos (by simp; omega) ?_)
      have := ih (n / 256) (by omega) ([((n % 256 : Nat) : Int)] ++ acc) (by simp; omega) (by simp)
      rw [be, if_pos h, List.append_assoc]
      exact this
    · refine ev_neg (by omega) ?_
      have e0 : be n = [] := by rw [be, if_neg h]
      rw [e0, List.nil_append]
      refine ev_pos ?_ ?_
      · cases acc with
        | nil => exact absurd rfl ha
        | cons x l => simp
      · have er : rd acc 0 = acc.getD 0 0 := rfl
        rw [er]
        by_cases hb : acc.getD 0 0 ≥ 128
        · refine ev_pos hb (Ev.bind (g := fun _ => some [(0 : Int)]) (Ev.now _) (ev_pos (by simp; omega) ?_))
          rw [if_pos hb]
          exact Ev.now _
        · refine ev_neg hb ?_
          rw [if_neg hb]
          exact Ev.now _
theorem impl_int_ev (a : Int) : Ev (fun k => impl_IntItem.f k a) (intV a) := by
  have key : ∀ n : Nat, n ≤ 1000000000 → Ev (fun k => impl_IntItem.j0 k (n : Int)) (2, strOfNums (intL n), []) := by
    intro n hn
    refine Ev.step (fun k => by rw [impl_IntItem.j0]) ?_
    have e1 : (n : Int) / 256 = ((n / 256 : Nat) : Int) := by omega
    have e2 : (n : Int) % 256 = ((n % 256 : Nat) : Int) := by omega
    rw [e1, e2]
    have := impl_int (n / 256) [((n % 256 : Nat) : Int)] (by simp; omega) (by simp)
    have hv : be (n / 256) ++ [((n % 256 : Nat) : Int)] = intB n := by
      unfold intB
      by_cases h : n = 0
      · subst h
        rw [if_pos rfl, be, if_neg (by omega)]; rfl
      · rw [if_neg h, be.eq_1 n, if_pos (by omega)]
    rw [hv] at this
    exact this
  simp only [impl_IntItem.f, impl_within.f]
  unfold intV intN
  by_cases h0 : 0 ≤ a
  · by_cases h1 : a ≤ 1000000000
    · obtain ⟨m, rfl⟩ := Int.eq_ofNat_of_zero_le h0
      rw [if_pos (by omega), if_pos ⟨h0, h1⟩]
      exact Ev.bind (g := fun _ => some (decide ((m : Int) ≤ 1000000000))) (a := true) (by rw [decide_eq_true h1]; exact Ev.now _) (ev_pos rfl (key m (by omega)))
    · rw [if_pos (by omega), if_neg (fun h => h1 h.2)]
      exact Ev.bind (g := fun _ => some (decide (a ≤ 1000000000))) (a := false) (by rw [decide_eq_false h1]; exact Ev.now _) (ev_neg Bool.false_ne_true (key 0 (by omega)))
  · rw [if_neg (by omega), if_neg (fun h => h0 h.1)]
    exact Ev.bind (g := fun _ => some false) (Ev.now _) (ev_neg Bool.false_ne_true (key 0 (by omega)))

theorem rdL (xs : List S39) (i : Nat) (h : i < xs.length) : rd_T39 xs (i : Int) = xs[i] := by
  simp [rd_T39, List.getD_eq_getElem?_getD, List.getElem?_eq_getElem h]
theorem etaL (x : S39) : (⟨x.f0, x.f1, x.f2⟩ : S39) = x := by cases x; rfl
def WL : Nat → S39 → Prop
  | 0, _ => False
  | n + 1, x => x.f1.size ≤ 1048576 ∧ x.f2.length ≤ 1048576 ∧ ∀ y ∈ x.f2, WL n y
theorem WL_up1 : ∀ (n : Nat) (x : S39), WL n x → WL (n + 1) x
  | 0, _, h => h.elim
  | n + 1, _, ⟨h1, h2, h3⟩ => ⟨h1, h2, fun y hy => WL_up1 n y (h3 y hy)⟩
theorem WL_up2 (n : Nat) (x : S39) (h : WL n x) : ∀ d, WL (n + d) x
  | 0 => h
  | d + 1 => WL_up1 (n + d) x (WL_up2 n x h d)
theorem WL_flat (n : Nat) (a : Int) (s : ByteArray) (h : s.size ≤ 1048576) : WL (n + 1) (⟨a, s, []⟩ : S39) := ⟨h, by simp, fun y hy => by simp at hy⟩
theorem same_refl : ∀ (n : Nat) (x : S39), WL n x → Ev (fun k => spec_SameItem.f k x.f0 x.f1 x.f2 x.f0 x.f1 x.f2) true
  | 0, _, h => h.elim
  | n + 1, x, ⟨_, hl, hk⟩ => by
    have loop : ∀ (d i : Nat), i + d = x.f2.length → Ev (fun k => spec_SameItem.l0 k (i : Int) x.f0 x.f1 x.f2 x.f0 x.f1 x.f2) true := by
      intro d
      induction d with
      | zero =>
        intro i hi
        exact Ev.step (fun k => by rw [spec_SameItem.l0]) (ev_neg (by omega) (Ev.now _))
      | succ d ih =>
        intro i hi
        have hlt : i < x.f2.length := by omega
        refine Ev.step (fun k => by rw [spec_SameItem.l0]) (ev_pos (by omega) (ev_pos (by omega) (ev_pos (by omega) ?_)))
        rw [rdL x.f2 i hlt, show wrap64 ((i : Int) + 1) = ((i + 1 : Nat) : Int) by rw [w64 (by omega) (by omega)]; omega]
        exact Ev.bind (same_refl n x.f2[i] (hk _ (List.getElem_mem hlt))) (ev_pos rfl (ih (i + 1) (by omega)))
    refine Ev.step (fun k => by rw [spec_SameItem.f]) (ev_pos rfl (ev_pos rfl ?_))
    rw [show ((x.f2.length : Int) != (x.f2.length : Int)) = false by simp]
    refine Ev.step (fun k => by rw [spec_SameItem.j0]) ?_
    exact ev_neg Bool.false_ne_true (loop x.f2.length 0 (by omega))

/-! What is a right item: both sides answer by the same word. -/
def plainV (x : S39) : Bool :=
  if x.f0 = 1 then (if x.f1.toList = ([0] : List UInt8) then true else x.f1.toList == ([255] : List UInt8))
  else if x.f0 = 2 then (decide (1 ≤ x.f1.size ∧ x.f1.size ≤ 5 ∧ bt x.f1 0 < 128) && (decide (bt x.f1 0 ≠ 0 ∨ x.f1.size = 1) || decide (bt x.f1 1 ≥ 128)))
  else if x.f0 = 12 then (bN x.f1).all (fun b => decide (32 ≤ b ∧ b ≤ 126))
  else x.f0 == 4
def okV : Nat → S39 → Int → Bool
  | 0, _, _ => false
  | n + 1, x, d => if x.f0 = 48 then (if x.f1.toList = ([] : List UInt8) ∧ x.f2.length ≤ 40 ∧ d < 6 then x.f2.all (fun y => okV n y (d + 1)) else false) else (if x.f2.length = 0 then plainV x else false)
theorem three_no (s : ByteArray) (h : ¬ bt s 0 < 128) : decide (1 ≤ s.size ∧ s.size ≤ 5 ∧ bt s 0 < 128) = false := decide_eq_false (fun q => h q.2.2)
theorem three_yes (s : ByteArray) (h1 : 1 ≤ s.size) (h2 : s.size ≤ 5) (h : bt s 0 < 128) : decide (1 ≤ s.size ∧ s.size ≤ 5 ∧ bt s 0 < 128) = true := decide_eq_true ⟨h1, h2, h⟩
theorem or_no (s : ByteArray) (h1 : bt s 0 = 0) (h : s.size ≠ 1) : decide (bt s 0 ≠ 0 ∨ s.size = 1) = false := decide_eq_false (fun q => q.elim (fun x => x h1) h)
theorem two_ev {g : Nat → Option Bool} (s : ByteArray) (yes : 1 ≤ s.size → s.size ≤ 5 → Ev g (decide (1 ≤ s.size ∧ s.size ≤ 5 ∧ bt s 0 < 128) && (decide (bt s 0 ≠ 0 ∨ s.size = 1) || decide (bt s 1 ≥ 128)))) :
    Ev (fun k => (if (s.size : Int) ≥ 1 then some (decide ((s.size : Int) ≤ 5)) else some false).bind fun t => if t = true then g k else some false) (decide (1 ≤ s.size ∧ s.size ≤ 5 ∧ bt s 0 < 128) && (decide (bt s 0 ≠ 0 ∨ s.size = 1) || decide (bt s 1 ≥ 128))) := by
  by_cases h1 : 1 ≤ s.size
  · by_cases h5 : s.size ≤ 5
    · refine Ev.bind (g := fun _ => if (s.size : Int) ≥ 1 then some (decide ((s.size : Int) ≤ 5)) else some false) (a := true) (by rw [if_pos (by omega), decide_eq_true (by omega)]; exact Ev.now _) (ev_pos rfl (yes h1 h5))
    · refine Ev.bind (g := fun _ => if (s.size : Int) ≥ 1 then some (decide ((s.size : Int) ≤ 5)) else some false) (a := false) (by rw [if_pos (by omega), decide_eq_false (by omega)]; exact Ev.now _) (ev_neg Bool.false_ne_true ?_)
      rw [decide_eq_false (fun h => h5 h.2.1), Bool.false_and]
      exact Ev.now _
  · refine Ev.bind (g := fun _ => if (s.size : Int) ≥ 1 then some (decide ((s.size : Int) ≤ 5)) else some false) (a := false) (by rw [if_neg (by omega)]; exact Ev.now _) (ev_neg Bool.false_ne_true ?_)
    rw [decide_eq_false (fun h => h1 h.1), Bool.false_and]
    exact Ev.now _
theorem drop_b (s : ByteArray) (i : Nat) (h : i < s.size) : ∃ b : Nat, b < 256 ∧ bt s i = (b : Int) ∧ (bN s).drop i = b :: (bN s).drop (i + 1) := by
  have h' : i < (bN s).length := by rw [bN_len]; exact h
  refine ⟨(bN s)[i], bN_lt s _ (List.getElem_mem h'), ?_, List.drop_eq_getElem_cons h'⟩
  rw [bt_bN, List.getD_eq_getElem?_getD, List.getElem?_eq_getElem h']
  rfl

theorem spec_plain (x : S39) (hs : x.f1.size ≤ 1048576) : Ev (fun k => spec_l07Plain.f k x.f0 x.f1 x.f2) (plainV x) := by
  have loop : ∀ (d i : Nat), i + d = x.f1.size → Ev (fun k => spec_l07Plain.l0 k (i : Int) x.f0 x.f1 x.f2) (((bN x.f1).drop i).all (fun b => decide (32 ≤ b ∧ b ≤ 126))) := by
    intro d
    induction d with
    | zero =>
      intro i hi
      refine Ev.step (fun k => by rw [spec_l07Plain.l0]) (ev_neg (by omega) ?_)
      rw [List.drop_eq_nil_of_le (by rw [bN_len]; omega)]
      exact Ev.now _
    | succ d ih =>
      intro i hi
      obtain ⟨b, _, e, ed⟩ := drop_b x.f1 i (by omega)
      refine Ev.step (fun k => by rw [spec_l07Plain.l0]) (ev_pos (by omega) (ev_pos (by omega) ?_))
      rw [e, ed, List.all_cons]
      by_cases h0 : b < 32
      · rw [decide_eq_false (by omega), Bool.false_and]
        exact ev_pos (by omega) (Ev.now _)
      refine ev_neg (by omega) ?_
      by_cases h1 : 126 < b
      · rw [decide_eq_false (by omega), Bool.false_and]
        exact ev_pos (by omega) (Ev.now _)
      refine ev_neg (by omega) ?_
      rw [decide_eq_true (by omega), Bool.true_and]
      rw [show wrap64 ((i : Int) + 1) = ((i + 1 : Nat) : Int) by rw [w64 (by omega) (by omega)]; omega]
      exact ih (i + 1) (by omega)
  simp only [spec_l07Plain.f, spec_l01In.f]
  unfold plainV
  by_cases c1 : x.f0 = 1
  · refine ev_pos c1 ?_
    rw [if_pos c1]
    by_cases e : x.f1.toList = ([0] : List UInt8)
    · refine ev_pos e ?_
      rw [if_pos e]
      exact Ev.now _
    · refine ev_neg e ?_
      rw [if_neg e]
      exact Ev.now _
  refine ev_neg c1 ?_
  rw [if_neg c1]
  by_cases c2 : x.f0 = 2
  · refine ev_pos c2 ?_
    rw [if_pos c2]
    refine two_ev x.f1 (fun h1 h5 => ?_)
    refine ev_pos (by omega) ?_
    by_cases ha : bt x.f1 0 ≥ 128
    · rw [three_no _ (by omega), Bool.false_and]
      exact ev_pos ha (Ev.now _)
    refine ev_neg ha ?_
    rw [three_yes _ h1 h5 (by omega), Bool.true_and]
    by_cases hz : bt x.f1 0 = 0
    · refine ev_pos hz ?_
      by_cases hn : x.f1.size = 1
      · rw [decide_eq_true (Or.inr hn), Bool.true_or]
        exact ev_pos (by omega) (Ev.now _)
      · rw [or_no _ hz hn, Bool.false_or]
        exact ev_neg (by omega) (ev_pos (by omega) (Ev.now _))
    · rw [decide_eq_true (Or.inl hz), Bool.true_or]
      exact ev_neg hz (Ev.now _)
  refine ev_neg c2 ?_
  rw [if_neg c2]
  by_cases c3 : x.f0 = 12
  · refine ev_pos c3 ?_
    rw [if_pos c3]
    have := loop x.f1.size 0 (by omega)
    rwa [List.drop_zero] at this
  refine ev_neg c3 ?_
  rw [if_neg c3]
  exact Ev.now _
theorem spec_ok : ∀ (n : Nat) (x : S39) (d : Int), WL n x → 0 ≤ d → d ≤ 6 → Ev (fun k => spec_l07Right.f k x.f0 x.f1 x.f2 d) (okV n x d)
  | 0, _, _, h, _, _ => h.elim
  | n + 1, x, d, ⟨hs, hl, hk⟩, d0, d1 => by
    have loop : d < 6 → ∀ (m i : Nat), i + m = x.f2.length → Ev (fun k => spec_l07Right.l0 k d (i : Int) x.f0 x.f1 x.f2) ((x.f2.drop i).all (fun y => okV n y (d + 1))) := by
      intro hd m
      induction m with
      | zero =>
        intro i hi
        refine Ev.step (fun k => by rw [spec_l07Right.l0]) (ev_neg (by omega) ?_)
        rw [List.drop_eq_nil_of_le (by omega)]
        exact Ev.now _
      | succ m ih =>
        intro i hi
        have hlt : i < x.f2.length := by omega
        refine Ev.step (fun k => by rw [spec_l07Right.l0]) (ev_pos (by omega) (ev_pos (by omega) ?_))
        rw [rdL x.f2 i hlt, w64 (n := d + 1) (by omega) (by omega)]
        refine Ev.bind (spec_ok n x.f2[i] (d + 1) (hk _ (List.getElem_mem hlt)) (by omega) (by omega)) ?_
        rw [List.drop_eq_getElem_cons hlt, List.all_cons]
        cases he : okV n x.f2[i] (d + 1) with
        | true =>
          rw [Bool.true_and]
          refine ev_pos rfl ?_
          rw [show wrap64 ((i : Int) + 1) = ((i + 1 : Nat) : Int) by rw [w64 (by omega) (by omega)]; omega]
          exact ih (i + 1) (by omega)
        | false =>
          rw [Bool.false_and]
          exact ev_neg Bool.false_ne_true (Ev.now _)
    have no : Ev (fun k => spec_l07Right.j0 k d true x.f0 x.f1 x.f2) false := by
      refine Ev.step (fun k => by rw [spec_l07Right.j0]) ?_
      exact ev_pos rfl (Ev.now _)
    refine Ev.step (fun k => by rw [spec_l07Right.f]) ?_
    show Ev _ (if x.f0 = 48 then (if x.f1.toList = ([] : List UInt8) ∧ x.f2.length ≤ 40 ∧ d < 6 then x.f2.all (fun y => okV n y (d + 1)) else false) else (if x.f2.length = 0 then plainV x else false))
    by_cases c : x.f0 = 48
    · refine ev_pos c ?_
      rw [if_pos c]
      by_cases c1 : x.f1.toList = ([] : List UInt8)
      · refine ev_pos c1 ?_
        by_cases c2 : x.f2.length ≤ 40
        · refine ev_neg (by omega) ?_
          by_cases c3 : d < 6
          · rw [if_pos ⟨c1, c2, c3⟩, decide_eq_false (by omega)]
            refine Ev.step (fun k => by rw [spec_l07Right.j0]) ?_
            refine ev_neg Bool.false_ne_true ?_
            have := loop c3 x.f2.length 0 (by omega)
            rwa [List.drop_zero] at this
          · rw [if_neg (fun h => c3 h.2.2), decide_eq_true (by omega)]
            exact no
        · rw [if_neg (fun h => c2 h.2.1)]
          exact ev_pos (by omega) no
      · rw [if_neg (fun h => c1 h.1)]
        exact ev_neg c1 no
    · refine ev_neg c ?_
      rw [if_neg c]
      by_cases c1 : x.f2.length = 0
      · rw [if_pos c1]
        exact ev_pos (by omega) (Ev.bind (spec_plain x hs) (Ev.now _))
      · rw [if_neg c1]
        exact ev_neg (by omega) (Ev.now _)

/-! A number out of bytes, and back. -/
theorem rev_ind {P : List Nat → Prop} (h0 : P []) (h1 : ∀ l b, P l → P (l ++ [b])) (l : List Nat) : P l := by
  have : ∀ r : List Nat, P r.reverse := by
    intro r
    induction r with
    | nil => exact h0
    | cons b r ih => rw [List.reverse_cons]; exact h1 _ _ ih
  have h := this l.reverse
  rwa [List.reverse_reverse] at h
def val (l : List Nat) : Nat := l.foldl (fun n b => 256 * n + b) 0
theorem val_snoc (l : List Nat) (b : Nat) : val (l ++ [b]) = 256 * val l + b := by unfold val; rw [List.foldl_append]; rfl
def ints (l : List Nat) : List Int := l.map fun (b : Nat) => (b : Int)
theorem val_pos : ∀ (l : List Nat), l.headD 0 ≠ 0 → 0 < val l := by
  intro l
  induction l using rev_ind with
  | h0 => intro h; exact absurd rfl h
  | h1 l b ih =>
    intro h
    rw [val_snoc]
    cases l with
    | nil => simp at h; omega
    | cons a l => have := ih (by simpa using h); omega
theorem be_val : ∀ (l : List Nat), (∀ b ∈ l, b < 256) → l.headD 0 ≠ 0 → be (val l) = ints l := by
  intro l
  induction l using rev_ind with
  | h0 => intro _ h; exact absurd rfl h
  | h1 l b ih =>
    intro hb h
    have hb0 : b < 256 := hb b (by simp)
    rw [val_snoc]
    cases l with
    | nil =>
      have h' : b ≠ 0 := by simpa using h
      rw [be, if_pos (by show 0 < 256 * 0 + b; omega)]
      have e : (256 * val [] + b) / 256 = 0 := by show (256 * 0 + b) / 256 = 0; omega
      have e2 : (256 * val [] + b) % 256 = b := by show (256 * 0 + b) % 256 = b; omega
      rw [e, e2, be, if_neg (by omega)]
      rfl
    | cons a l =>
      have hp : 0 < val (a :: l) := val_pos _ (by simpa using h)
      rw [be, if_pos (by omega)]
      have e : (256 * val (a :: l) + b) / 256 = val (a :: l) := by omega
      have e2 : (256 * val (a :: l) + b) % 256 = b := by omega
      rw [e, e2, ih (fun c hc => hb c (by simp at hc ⊢; exact hc.elim (fun h => Or.inl h) (fun h => Or.inr (Or.inl h)))) (by simpa using h)]
      simp [ints]
theorem same_flat (x : S39) (a1 : Int) (s : ByteArray) : Ev (fun k => impl_SameItem.f k x.f0 x.f1 x.f2 a1 s []) (decide (x.f0 = a1 ∧ x.f1.toList = s.toList ∧ x.f2.length = 0)) := by
  simp only [impl_SameItem.f]
  by_cases c0 : x.f0 = a1
  · by_cases c1 : x.f1.toList = s.toList
    · by_cases c2 : x.f2.length = 0
      · rw [decide_eq_true ⟨c0, c1, c2⟩]
        refine ev_pos c0 (ev_pos c1 (Ev.bind (a := true) ?_ (Ev.now _)))
        refine Ev.step (fun k => by rw [impl_Item.f]) ?_
        refine ev_pos (by simp [c2]) ?_
        refine Ev.step (fun k => impl_Item.l0_eq k _ _ _ _) ?_
        exact ev_neg (by omega) (Ev.now _)
      · rw [show decide (x.f0 = a1 ∧ x.f1.toList = s.toList ∧ x.f2.length = 0) = false from decide_eq_false (fun h => c2 h.2.2)]
        refine ev_pos c0 (ev_pos c1 (Ev.bind (a := false) ?_ (Ev.now _)))
        refine Ev.step (fun k => by rw [impl_Item.f]) ?_
        exact ev_neg (by simp; intro h; exact c2 (by rw [h]; rfl)) (Ev.now _)
    · rw [show decide (x.f0 = a1 ∧ x.f1.toList = s.toList ∧ x.f2.length = 0) = false from decide_eq_false (fun h => c1 h.2.1)]
      exact ev_pos c0 (ev_neg c1 (Ev.now _))
  · rw [show decide (x.f0 = a1 ∧ x.f1.toList = s.toList ∧ x.f2.length = 0) = false from decide_eq_false (fun h => c0 h.1)]
    exact ev_neg c0 (Ev.now _)
theorem val_lt : ∀ l : List Nat, (∀ b ∈ l, b < 256) → val l < 256 ^ l.length := by
  intro l
  induction l using rev_ind with
  | h0 => intro _; decide
  | h1 l b ih =>
    intro h
    have h1 := ih (fun c hc => h c (by simp [hc]))
    have h2 := h b (by simp)
    rw [val_snoc, List.length_append, List.length_singleton, Nat.pow_succ]
    omega
theorem val_take (l : List Nat) (i : Nat) (h : i < l.length) : val (l.take (i + 1)) = 256 * val (l.take i) + l[i] := by
  rw [List.take_succ_eq_append_getElem h, val_snoc]
theorem or_256 (v b : Nat) (hv : v < 1099511627776) (hb : b < 256) : Go.bits .or .i64 (wrap64 ((v : Int) * 256)) (wrap64 (b : Int)) = ((256 * v + b : Nat) : Int) := by
  rw [w64 (n := (v : Int) * 256) (by omega) (by omega), w64 (n := (b : Int)) (by omega) (by omega)]
  have e : Go.bits .or .i64 ((v : Int) * 256) (b : Int) = IntKind.i64.wrap ((BitVec.ofInt 64 ((v : Int) * 256) ||| BitVec.ofInt 64 (b : Int)).toNat : Int) := rfl
  have e1 : (BitVec.ofInt 64 ((v : Int) * 256)).toNat = v * 256 := by
    rw [BitVec.toNat_ofInt]; omega
  have e2 : (BitVec.ofInt 64 (b : Int)).toNat = b := by
    rw [BitVec.toNat_ofInt]; omega
  rw [e, BitVec.toNat_or, e1, e2]
  have e3 : v * 256 ||| b = v * 256 + b := by
    have := Nat.two_pow_add_eq_or_of_lt (i := 8) (b := b) (by omega) v
    rw [show (2 : Nat) ^ 8 * v = v * 256 by omega] at this
    exact this.symm
  rw [e3]
  rw [i64_w, w64 (by omega) (by omega)]
  omega
theorem be_ex (n : Nat) : ∃ l : List Nat, be n = ints l ∧ (∀ b ∈ l, b < 256) ∧ val l = n ∧ (0 < n → l.headD 0 ≠ 0) := by
  induction n using Nat.strongRecOn with
  | _ n ih =>
    rw [be]
    by_cases h : 0 < n
    · rw [if_pos h]
      obtain ⟨l, h1, h2, h3, h4⟩ := ih (n / 256) (by omega)
      refine ⟨l ++ [n % 256], ?_, ?_, ?_, fun _ => ?_⟩
      · rw [h1]; simp [ints]
      · intro b hb
        rcases List.mem_append.1 hb with hb | hb
        · exact h2 b hb
        · have : b = n % 256 := by simpa using hb
          omega
      · rw [val_snoc, h3]; omega
      · cases l with
        | nil =>
          have : n / 256 = 0 := by rw [← h3]; rfl
          simp; omega
        | cons a l =>
          have hp : 0 < n / 256 := by
            rcases Nat.eq_zero_or_pos (n / 256) with h0 | h0
            · rw [h0, be, if_neg (by omega)] at h1
              simp [ints] at h1
            · exact h0
          simpa using h4 hp
    · rw [if_neg h]
      exact ⟨[], rfl, by simp, by show 0 = n; omega, fun h' => absurd h' h⟩
def canon (l : List Nat) : Prop := 1 ≤ l.length ∧ l.getD 0 0 < 128 ∧ (l.getD 0 0 ≠ 0 ∨ l.length = 1 ∨ 128 ≤ l.getD 1 0)
theorem ints_get (l : List Nat) (i : Nat) : (ints l).getD i 0 = ((l.getD i 0 : Nat) : Int) := by
  unfold ints
  rw [List.getD_eq_getElem?_getD, List.getD_eq_getElem?_getD, List.getElem?_map]
  cases l[i]? <;> rfl
theorem head_get (l : List Nat) : l.headD 0 = l.getD 0 0 := by cases l <;> rfl
theorem intL_ex (n : Nat) : ∃ l : List Nat, intL n = ints l ∧ (∀ b ∈ l, b < 256) ∧ val l = n ∧ canon l := by
  obtain ⟨l, h1, h2, h3, h4⟩ := be_ex n
  unfold intL intB
  by_cases h0 : n = 0
  · subst h0
    rw [if_pos rfl, if_neg (by decide)]
    exact ⟨[0], rfl, by simp, rfl, by unfold canon; simp⟩
  · rw [if_neg h0, h1, ints_get]
    have hh := h4 (by omega)
    rw [head_get] at hh
    have hl : 1 ≤ l.length := by
      cases l with
      | nil => exact absurd rfl hh
      | cons a l => simp
    by_cases hc : 128 ≤ l.getD 0 0
    · rw [if_pos (by omega)]
      refine ⟨0 :: l, rfl, fun b hb => ?_, ?_, by simp, by simp, Or.inr (Or.inr (by simpa using hc))⟩
      · rcases List.mem_cons.1 hb with rfl | hb
        · omega
        · exact h2 b hb
      · rw [← h3]; rfl
    · rw [if_neg (by omega)]
      exact ⟨l, rfl, h2, h3, hl, by omega, Or.inl hh⟩
theorem intL_val (l : List Nat) (hb : ∀ b ∈ l, b < 256) (hc : canon l) : intL (val l) = ints l := by
  obtain ⟨hl, h1, h2⟩ := hc
  unfold intL intB
  by_cases h0 : l.getD 0 0 = 0
  · rcases h2 with h2 | h2 | h2
    · exact absurd h0 h2
    · match l, h2 with
      | [a], _ =>
        have : a = 0 := by simpa using h0
        subst this
        rfl
    · match l, hl with
      | a :: r, _ =>
        have : a = 0 := by simpa using h0
        subst this
        have hr : 128 ≤ r.getD 0 0 := by simpa using h2
        have e : val (0 :: r) = val r := rfl
        have hp : r.headD 0 ≠ 0 := by rw [head_get]; omega
        have hv := val_pos r hp
        have hI : (if val r = 0 then ([0] : List Int) else be (val r)) = ints r := by rw [if_neg (by omega), be_val r (fun b h => hb b (List.mem_cons_of_mem _ h)) hp]
        rw [e, hI, ints_get, if_pos (by omega)]
        rfl
  · have hp : l.headD 0 ≠ 0 := by rw [head_get]; exact h0
    have hv := val_pos l hp
    have hI : (if val l = 0 then ([0] : List Int) else be (val l)) = ints l := by rw [if_neg (by omega), be_val l hb hp]
    rw [hI, ints_get, if_neg (by omega)]
theorem bytes_ints (s : ByteArray) : bytesOf s = ints (bN s) := by unfold bytesOf ints bN; rw [List.map_map]; rfl
theorem str_ints (s : ByteArray) : strOfNums (ints (bN s)) = s := by
  rw [← bytes_ints]
  apply ByteArray.ext
  unfold strOfNums bytesOf
  rw [List.map_map]
  have : (fun n : Int => UInt8.ofNat n.toNat) ∘ (fun b : UInt8 => (b.toNat : Int)) = id := by
    funext b; simp
  rw [this]; simp
theorem bN_of (s : ByteArray) (l : List Nat) (hl : ∀ b ∈ l, b < 256) (h : s.toList = (strOfNums (ints l)).toList) : bN s = l := by
  rw [nums_toList, ByteArray.toList_eq] at h
  unfold bN
  rw [h]
  unfold ints
  rw [List.map_map, List.map_map]
  refine (List.map_congr_left (fun b hb => ?_)).trans (List.map_id l)
  have := hl b hb
  show (UInt8.ofNat ((b : Int)).toNat).toNat = b
  rw [Int.toNat_natCast, UInt8.toNat_ofNat']
  omega
theorem bN_extract (s : ByteArray) (m : Nat) : bN (s.extract 0 m) = (bN s).take m := by
  have h := extract_toList s 0 m
  rw [ByteArray.toList_eq, ByteArray.toList_eq] at h
  unfold bN
  rw [h, List.drop_zero, Nat.sub_zero, List.map_take]
theorem val_small (l : List Nat) (hb : ∀ b ∈ l, b < 256) (h : l.length ≤ 5) : val l < 1099511627776 := by
  have h1 := val_lt l hb
  have h2 : 256 ^ l.length ≤ 256 ^ 5 := Nat.pow_le_pow_right (by decide) h
  have h3 : (256 : Nat) ^ 5 = 1099511627776 := by decide
  omega
theorem take_rng (s : ByteArray) (i : Nat) : ∀ b ∈ (bN s).take i, b < 256 := fun b h => bN_lt s b (List.mem_of_mem_take h)
theorem get_bt (s : ByteArray) (i : Nat) (h : i < s.size) : ∃ h' : i < (bN s).length, bt s i = ((bN s)[i] : Nat) := by
  have h' : i < (bN s).length := by rw [bN_len]; exact h
  refine ⟨h', ?_⟩
  rw [bt_bN, List.getD_eq_getElem?_getD, List.getElem?_eq_getElem h']
  rfl
def outV (v : Nat) : Int × Bool := if v ≤ 1000000000 then ((v : Int), true) else (0, false)
theorem spec_in_loop (x : S39) (hs : x.f1.size ≤ 5) : ∀ (d i : Nat), i + d = x.f1.size → Ev (fun k => spec_IntIn.l0 k ((val ((bN x.f1).take i) : Nat) : Int) (i : Int) x.f0 x.f1 x.f2) (outV (val (bN x.f1))) := by
  intro d
  induction d with
  | zero =>
    intro i hi
    refine Ev.step (fun k => by rw [spec_IntIn.l0]) (ev_neg (by omega) ?_)
    rw [List.take_of_length_le (by rw [bN_len]; omega)]
    by_cases h : val (bN x.f1) ≤ 1000000000
    · refine ev_neg (by omega) ?_
      unfold outV
      rw [if_pos h]
      exact Ev.now _
    · refine ev_pos (by omega) ?_
      unfold outV
      rw [if_neg h]
      exact Ev.now _
  | succ d ih =>
    intro i hi
    obtain ⟨h', hb⟩ := get_bt x.f1 i (by omega)
    have hv := val_small _ (take_rng x.f1 i) (by rw [List.length_take]; omega)
    have hl := bN_lt x.f1 _ (List.getElem_mem h')
    refine Ev.step (fun k => by rw [spec_IntIn.l0]) (ev_pos (by omega) (ev_pos (by omega) ?_))
    rw [hb]
    have e := val_take _ i h'
    have n := ih (i + 1) (by omega)
    rw [e] at n
    rw [w64 (n := 256 * ((val ((bN x.f1).take i) : Nat) : Int)) (by omega) (by omega), w64 (n := (((bN x.f1)[i] : Nat) : Int)) (by omega) (by omega), w64 (n := 256 * ((val ((bN x.f1).take i) : Nat) : Int) + _) (by omega) (by omega), w64 (n := (i : Int) + 1) (by omega) (by omega)]
    have e2 : (256 * ((val ((bN x.f1).take i) : Nat) : Int) + (((bN x.f1)[i] : Nat) : Int)) = ((256 * val ((bN x.f1).take i) + (bN x.f1)[i] : Nat) : Int) := by omega
    rw [e2]
    exact n
theorem impl_in_loop (x : S39) (s : ByteArray) (hs : s.size ≤ 5) (r : Int × Bool)
    (hr : Ev (fun k => (impl_within.f ((val (bN s) : Nat) : Int) 0 1000000000).bind fun t164 => (if t164 = true then ((impl_IntItem.f k ((val (bN s) : Nat) : Int)).bind fun bt165 => ((impl_SameItem.f k x.f0 x.f1 x.f2 bt165.1 bt165.2.1 bt165.2.2).bind fun t170 => (if t170 = true then (some (((val (bN s) : Nat) : Int), true)) else (some (0, false))))) else (some (0, false)))) r) :
    ∀ (d i : Nat), i + d = s.size → Ev (fun k => impl_IntIn.l0 k ((val ((bN s).take i) : Nat) : Int) s (s.size : Int) (i : Int) x.f0 x.f1 x.f2) r := by
  intro d
  induction d with
  | zero =>
    intro i hi
    refine Ev.step (fun k => by rw [impl_IntIn.l0]) (ev_neg (by omega) ?_)
    rw [List.take_of_length_le (by rw [bN_len]; omega)]
    exact hr
  | succ d ih =>
    intro i hi
    obtain ⟨h', hb⟩ := get_bt s i (by omega)
    have hv := val_small _ (take_rng s i) (by rw [List.length_take]; omega)
    have hl := bN_lt s _ (List.getElem_mem h')
    refine Ev.step (fun k => by rw [impl_IntIn.l0]) (ev_pos (by omega) (ev_pos (by omega) (ev_pos (by omega) ?_)))
    have n := ih (i + 1) (by omega)
    rw [val_take _ i h'] at n
    rw [hb, or_256 _ _ hv hl, w64 (n := (i : Int) + 1) (by omega) (by omega)]
    exact n

theorem be_short : ∀ (k n : Nat), n < 256 ^ k → (be n).length ≤ k
  | 0, n, h => by
    have : n = 0 := by simpa using h
    subst this
    rw [be, if_neg (by omega)]
    simp
  | k + 1, n, h => by
    rw [be]
    by_cases h0 : 0 < n
    · rw [if_pos h0, List.length_append]
      have := be_short k (n / 256) (by rw [Nat.pow_succ] at h; omega)
      simp
      exact this
    · rw [if_neg h0]
      simp
theorem intL_len (n : Nat) (h : n ≤ 1000000000) : (intL n).length ≤ 5 := by
  have e4 : (256 : Nat) ^ 4 = 4294967296 := by decide
  have := be_short 4 n (by rw [e4]; omega)
  unfold intL intB
  by_cases h0 : n = 0
  · rw [if_pos h0]
    decide
  · rw [if_neg h0]
    by_cases hc : 128 ≤ (be n).getD 0 0
    · rw [if_pos hc, List.length_cons]
      omega
    · rw [if_neg hc]
      omega
theorem ok2 (n : Nat) (x : S39) (h2 : x.f0 = 2) : okV (n + 1) x 0 = true ↔ x.f2.length = 0 ∧ x.f1.size ≤ 5 ∧ canon (bN x.f1) := by
  have b0 : bt x.f1 0 = (((bN x.f1).getD 0 0 : Nat) : Int) := bt_bN x.f1 0
  have b1 : bt x.f1 1 = (((bN x.f1).getD 1 0 : Nat) : Int) := bt_bN x.f1 1
  rw [okV, if_neg (by omega)]
  by_cases hl : x.f2.length = 0
  · rw [if_pos hl]
    unfold plainV canon
    rw [if_neg (by omega), if_pos h2, b0, b1, bN_len]
    simp only [Bool.and_eq_true, Bool.or_eq_true, decide_eq_true_eq]
    omega
  · rw [if_neg hl]
    exact ⟨fun h => absurd h Bool.false_ne_true, fun h => absurd h.1 hl⟩
def inV (n : Nat) (x : S39) : Int × Bool := if x.f0 = 2 ∧ okV n x 0 = true then outV (val (bN x.f1)) else (0, false)
theorem spec_intin_ev (n : Nat) (x : S39) (wl : WL (n + 1) x) : Ev (fun k => spec_IntIn.f k x.f0 x.f1 x.f2) (inV (n + 1) x) := by
  have no : Ev (fun k => spec_IntIn.j0 k true x.f0 x.f1 x.f2) (0, false) := Ev.step (fun k => by rw [spec_IntIn.j0]) (ev_pos rfl (Ev.now _))
  simp only [spec_IntIn.f, spec_ItemOk.f]
  unfold inV
  by_cases h2 : x.f0 = 2
  · refine ev_pos h2 (Ev.bind (Ev.bind (spec_ok (n + 1) _ 0 wl (by omega) (by omega)) (Ev.now _)) ?_)
    by_cases hk : okV (n + 1) x 0 = true
    · rw [if_pos ⟨h2, hk⟩, hk]
      obtain ⟨_, hs, _⟩ := (ok2 n x h2).1 hk
      show Ev (fun k => spec_IntIn.j0 k false x.f0 x.f1 x.f2) _
      refine Ev.step (fun k => by rw [spec_IntIn.j0]) (ev_neg Bool.false_ne_true ?_)
      exact spec_in_loop x hs x.f1.size 0 (by omega)
    · rw [if_neg (fun h => hk h.2), Bool.eq_false_iff.2 hk]
      exact no
  · rw [if_neg (fun h => h2 h.1)]
    exact ev_neg h2 no
theorem impl_intin_ev (n : Nat) (x : S39) (wl : WL (n + 1) x) : Ev (fun k => impl_IntIn.f k x.f0 x.f1 x.f2) (inV (n + 1) x) := by
  obtain ⟨m, hm⟩ : ∃ m : Nat, m = min x.f1.size 5 := ⟨_, rfl⟩
  have em : mn (x.f1.size : Int) 5 = (m : Int) := by unfold mn; omega
  have hz : (x.f1.extract 0 m).size = m := by rw [ByteArray.size_extract]; omega
  simp only [impl_IntIn.f]
  rw [em, Int.toNat_natCast]
  refine ev_pos (by omega) (ev_pos (by omega) ?_)
  have hb : bN (x.f1.extract 0 m) = (bN x.f1).take m := bN_extract x.f1 m
  have full : x.f1.size ≤ 5 → bN (x.f1.extract 0 m) = bN x.f1 := fun h => by rw [hb, List.take_of_length_le (by rw [bN_len]; omega)]
  have h0 := impl_in_loop x (x.f1.extract 0 m) (by omega) (inV (n + 1) x) ?_ (x.f1.extract 0 m).size 0 (by omega)
  · exact h0
  have hv := val_small (bN (x.f1.extract 0 m)) (bN_lt _) (by rw [bN_len]; omega)
  generalize hw : val (bN (x.f1.extract 0 m)) = v at hv ⊢
  have inV_of : x.f0 = 2 → okV (n + 1) x 0 = true → inV (n + 1) x = outV v := fun h2 hk => by
    unfold inV
    rw [if_pos ⟨h2, hk⟩, ← hw, full ((ok2 n x h2).1 hk).2.1]
  by_cases hc : v ≤ 1000000000
  · refine Ev.bind (g := fun _ => impl_within.f (v : Int) 0 1000000000) (a := true) (by unfold impl_within.f; rw [if_pos (by omega), decide_eq_true (by omega)]; exact Ev.now _) (ev_pos rfl (Ev.bind (impl_int_ev (v : Int)) ?_))
    have ei : intV (v : Int) = (2, strOfNums (intL v), []) := by unfold intV intN; rw [if_pos (by omega), Int.toNat_natCast]
    rw [ei]
    refine Ev.bind (same_flat x 2 (strOfNums (intL v))) ?_
    by_cases hs : x.f0 = 2 ∧ x.f1.toList = (strOfNums (intL v)).toList ∧ x.f2.length = 0
    · rw [decide_eq_true hs]
      refine ev_pos rfl ?_
      obtain ⟨h2, ht, hl⟩ := hs
      obtain ⟨l, e1, e2, e3, e4⟩ := intL_ex v
      have hln := intL_len v hc
      rw [e1] at ht hln
      have hbl : bN x.f1 = l := bN_of x.f1 l e2 ht
      have hll : l.length ≤ 5 := by unfold ints at hln; rwa [List.length_map] at hln
      have hk : okV (n + 1) x 0 = true := (ok2 n x h2).2 ⟨hl, by rw [← bN_len, hbl]; exact hll, by rw [hbl]; exact e4⟩
      rw [inV_of h2 hk]
      unfold outV
      rw [if_pos hc]
      exact Ev.now _
    · rw [decide_eq_false hs]
      refine ev_neg Bool.false_ne_true ?_
      have hn : ¬ (x.f0 = 2 ∧ okV (n + 1) x 0 = true) := by
        rintro ⟨h2, hk⟩
        obtain ⟨hl, h5, hcan⟩ := (ok2 n x h2).1 hk
        refine hs ⟨h2, ?_, hl⟩
        have e : v = val (bN x.f1) := by rw [← hw, full h5]
        rw [e, intL_val _ (bN_lt _) hcan, str_ints]
      unfold inV
      rw [if_neg hn]
      exact Ev.now _
  · refine Ev.bind (g := fun _ => impl_within.f (v : Int) 0 1000000000) (a := false) (by unfold impl_within.f; rw [if_pos (by omega), decide_eq_false (by omega)]; exact Ev.now _) (ev_neg Bool.false_ne_true ?_)
    have e : inV (n + 1) x = (0, false) := by
      by_cases h2 : x.f0 = 2 ∧ okV (n + 1) x 0 = true
      · rw [inV_of h2.1 h2.2]
        unfold outV
        rw [if_neg hc]
      · unfold inV
        rw [if_neg h2]
    rw [e]
    exact Ev.now _

theorem and255 (x : Int) : 0 ≤ Go.bits .and .i64 x 255 ∧ Go.bits .and .i64 x 255 ≤ 255 := by
  have h : (BitVec.ofInt 64 x &&& BitVec.ofInt 64 255).toNat ≤ 255 := by
    rw [BitVec.toNat_and]
    exact Nat.le_trans Nat.and_le_right (by decide)
  have e : Go.bits .and .i64 x 255 = IntKind.i64.wrap ((BitVec.ofInt 64 x &&& BitVec.ofInt 64 255).toNat : Int) := rfl
  rw [e, IntKind.wrap_i64]
  omega
/-- The cursor's place lies in its bytes. -/
def In (l : List Int) (i : Int) : Prop := 0 ≤ i ∧ i ≤ l.length
theorem byte_ok (l : List Int) (i h : Int) (hl : l.length ≤ 1048576) (hi : In l i) : ∃ b i' h', spec_l01Byte.f l i h = some (b, i', h') ∧ In l i' ∧ 0 ≤ b ∧ b ≤ 255 := by
  unfold spec_l01Byte.f
  obtain ⟨h0, h1⟩ := hi
  by_cases hc : i < (l.length : Int)
  · rw [if_pos hc, if_pos h0]
    have e : wrap64 (i + 1) = i + 1 := w64 (by omega) (by omega)
    exact ⟨_, _, _, rfl, by rw [e]; exact ⟨by omega, by omega⟩, (and255 _).1, (and255 _).2⟩
  · rw [if_neg hc]
    exact ⟨_, _, _, rfl, ⟨h0, h1⟩, (and255 _).1, (and255 _).2⟩
theorem below_ok (l : List Int) (i h n : Int) (hl : l.length ≤ 1048576) (hi : In l i) : ∃ b i' h', spec_l01Below.f l i h n = some (b, i', h') ∧ In l i' ∧ (n ≤ 0 → b = 0) ∧ (0 < n → 0 ≤ b ∧ b < n) := by
  unfold spec_l01Below.f
  by_cases h0 : n ≤ 0
  · rw [if_pos h0]
    exact ⟨_, _, _, rfl, hi, fun _ => rfl, fun h => by omega⟩
  rw [if_neg h0]
  by_cases h1 : n ≤ 256
  · rw [if_pos h1]
    obtain ⟨b, i', h', e, hi', hb0, hb1⟩ := byte_ok l i h hl hi
    rw [e, Option.bind_some, if_neg (by omega)]
    refine ⟨_, _, _, rfl, hi', fun h => absurd h h0, fun _ => ?_⟩
    show 0 ≤ Int.tmod b n ∧ Int.tmod b n < n
    rw [tmod_pos' hb0]
    exact ⟨Int.emod_nonneg _ (by omega), Int.emod_lt_of_pos _ (by omega)⟩
  · rw [if_neg h1]
    obtain ⟨b1, i1, h1', e1, hi1, p1, q1⟩ := byte_ok l i h hl hi
    obtain ⟨b2, i2, h2', e2, hi2, p2, q2⟩ := byte_ok l i1 h1' hl hi1
    obtain ⟨b3, i3, h3', e3, hi3, p3, q3⟩ := byte_ok l i2 h2' hl hi2
    obtain ⟨b4, i4, h4', e4, hi4, p4, q4⟩ := byte_ok l i3 h3' hl hi3
    simp only [e1, e2, e3, e4, Option.bind_some]
    rw [if_neg (by omega)]
    refine ⟨_, _, _, rfl, hi4, fun h => absurd h h0, fun _ => ?_⟩
    have w1 : wrap64 (b1 * 16777216) = b1 * 16777216 := w64 (by omega) (by omega)
    have w2 : wrap64 (b2 * 65536) = b2 * 65536 := w64 (by omega) (by omega)
    have w3 : wrap64 (b3 * 256) = b3 * 256 := w64 (by omega) (by omega)
    rw [w1, w2, w3, w64 (n := b1 * 16777216 + b2 * 65536) (by omega) (by omega), w64 (n := b1 * 16777216 + b2 * 65536 + b3 * 256) (by omega) (by omega), w64 (n := b1 * 16777216 + b2 * 65536 + b3 * 256 + b4) (by omega) (by omega), tmod_pos' (by omega)]
    exact ⟨Int.emod_nonneg _ (by omega), Int.emod_lt_of_pos _ (by omega)⟩
theorem new_loop (l : List Int) (hl : l.length ≤ 1048576) : ∀ (d i : Nat), i + d = l.length → ∀ h : Int, ∃ h', Ev (fun k => spec_l01New.l0 k l h (i : Int)) (l, 0, h') := by
  intro d
  induction d with
  | zero =>
    intro i hi h
    exact ⟨h, Ev.step (fun k => by rw [spec_l01New.l0]) (ev_neg (by omega) (Ev.now _))⟩
  | succ d ih =>
    intro i hi h
    by_cases hc : (i : Int) < 4000
    · obtain ⟨h', e⟩ := ih (i + 1) (by omega) (Go.bits .and .i64 (wrap64 ((wrap64 ((wrap64 (h * 131)) + (wrap64 (rd l i)))) + 7)) 1073741823)
      refine ⟨h', Ev.step (fun k => by rw [spec_l01New.l0]) (ev_pos (by omega) (ev_pos hc (ev_pos (by omega) ?_)))⟩
      rw [show wrap64 ((i : Int) + 1) = ((i + 1 : Nat) : Int) by rw [w64 (by omega) (by omega)]; omega]
      exact e
    · exact ⟨h, Ev.step (fun k => by rw [spec_l01New.l0]) (ev_pos (by omega) (ev_neg hc (Ev.now _)))⟩
theorem new_ok (l : List Int) (hl : l.length ≤ 1048576) : ∃ h', Ev (fun k => spec_l01New.f k l) (l, 0, h') := by
  simp only [spec_l01New.f]
  exact new_loop l hl l.length 0 (by omega) _
theorem in_zero (l : List Int) : In l 0 := ⟨by omega, by omega⟩

theorem text_loop (l : List Int) (hl : l.length ≤ 1048576) : ∀ (d : Nat) (n : Int) (acc : List Int) (j i h : Int), In l i → 0 ≤ j → n ≤ 5000 → (n - j).toNat = d → acc.length ≤ 5000 → (acc.length : Int) = j → ∃ r i' h', Ev (fun k => spec_l01Text.l0 k n acc j l i h) (r, i', h') ∧ In l i' ∧ r.size ≤ 5000 := by
  intro d
  induction d with
  | zero =>
    intro n acc j i h hi hj hn hd ha hz
    exact ⟨_, _, _, Ev.step (fun k => by rw [spec_l01Text.l0]) (ev_neg (by omega) (Ev.now _)), hi, by rw [strOfNums_size]; exact ha⟩
  | succ d ih =>
    intro n acc j i h hi hj hn hd ha hz
    obtain ⟨b, i1, h1, e1, hi1, _, _⟩ := byte_ok l i h hl hi
    have ew : wrap64 (j + 1) = j + 1 := w64 (by omega) (by omega)
    obtain ⟨r, i', h', e, hi', hr⟩ := ih n (acc ++ [b % 256]) (j + 1) i1 h1 hi1 (by omega) hn (by omega) (by rw [List.length_append]; show acc.length + 1 ≤ 5000; omega) (by rw [List.length_append]; show ((acc.length + 1 : Nat) : Int) = j + 1; omega)
    refine ⟨r, i', h', Ev.step (fun k => by rw [spec_l01Text.l0]) (ev_pos (by omega) (Ev.bind (g := fun _ => spec_l01Byte.f l i h) (by rw [e1]; exact Ev.now _) ?_)), hi', hr⟩
    rw [ew]
    have hal : acc.length < 140737488355328 := by omega
    exact ev_pos hal e
theorem text_ok (l : List Int) (hl : l.length ≤ 1048576) (i h n : Int) (hi : In l i) (hn : n ≤ 5000) : ∃ r i' h', Ev (fun k => spec_l01Text.f k l i h n) (r, i', h') ∧ In l i' ∧ r.size ≤ 5000 := by
  simp only [spec_l01Text.f]
  obtain ⟨r, i', h', e, hi', hr⟩ := text_loop l hl (n - 0).toNat n [] 0 i h hi (by omega) hn rfl (by simp) rfl
  exact ⟨r, i', h', ev_neg (by omega) (Ev.step (fun k => by rw [spec_l01Text.j0]) e), hi', hr⟩

theorem places_loop (l : List Int) (hl : l.length ≤ 1048576) : ∀ (d : Nat) (acc : List Int) (j i h : Int), In l i → 0 ≤ j → (12 - j).toNat = d → j ≤ 12 → (acc.length : Int) = j → (∀ x ∈ acc, 0 ≤ x ∧ x < 10000) → ∃ r, Ev (fun k => spec_DrawPlaces.l0 k acc j l i h) r ∧ r.length = 12 ∧ ∀ x ∈ r, 0 ≤ x ∧ x < 10000 := by
  intro d
  induction d with
  | zero =>
    intro acc j i h hi hj hd hj2 hz ha
    exact ⟨acc, Ev.step (fun k => by rw [spec_DrawPlaces.l0]) (ev_neg (by omega) (Ev.now _)), by omega, ha⟩
  | succ d ih =>
    intro acc j i h hi hj hd hj2 hz ha
    obtain ⟨b, i1, h1, e1, hi1, _, hb⟩ := below_ok l i h 10000 hl hi
    have ew : wrap64 (j + 1) = j + 1 := w64 (by omega) (by omega)
    obtain ⟨r, e, hr, hx⟩ := ih (acc ++ [b]) (j + 1) i1 h1 hi1 (by omega) (by omega) (by omega) (by rw [List.length_append]; show ((acc.length + 1 : Nat) : Int) = j + 1; omega) (fun x hx => by
      rcases List.mem_append.1 hx with hx | hx
      · exact ha x hx
      · obtain rfl := List.mem_singleton.1 hx
        exact hb (by omega))
    refine ⟨r, Ev.step (fun k => by rw [spec_DrawPlaces.l0]) (ev_pos (by omega) (Ev.bind (g := fun _ => spec_l01Below.f l i h 10000) (by rw [e1]; exact Ev.now _) ?_)), hr, hx⟩
    rw [ew]
    have hal : acc.length < 17592186044416 := by omega
    exact ev_pos hal e
theorem places_ok (l : List Int) (hl : l.length ≤ 1048576) : ∃ r, Ev (fun k => spec_DrawPlaces.f k l) r ∧ r.length = 12 ∧ ∀ x ∈ r, 0 ≤ x ∧ x < 10000 := by
  simp only [spec_DrawPlaces.f]
  obtain ⟨h0, e0⟩ := new_ok l hl
  obtain ⟨b1, i1, h1, e1, hi1, _, _⟩ := byte_ok l 0 h0 hl (in_zero l)
  obtain ⟨r, e, hr⟩ := places_loop l hl 12 [] 0 i1 h1 hi1 (by omega) (by omega) (by omega) rfl (by simp)
  exact ⟨r, Ev.bind e0 (Ev.bind (g := fun _ => spec_l01Byte.f l 0 h0) (by rw [e1]; exact Ev.now _) e), hr⟩

/-! Drawn items: l07Item and l07Any answer, and the tree is small. -/
theorem pick_ok (l : List Int) (i h : Int) (ss : List ByteArray) (hl : l.length ≤ 1048576) (hi : In l i) (hn : 0 < ss.length) : ∃ s i' h', spec_l01Pick.f l i h ss = some (s, i', h') ∧ In l i' ∧ s ∈ ss := by
  unfold spec_l01Pick.f
  obtain ⟨b, i', h', e, hi', _, hb⟩ := below_ok l i h (ss.length : Int) hl hi
  have hb := hb (by omega)
  rw [e, Option.bind_some]
  show ∃ s i'' h'', (if 0 ≤ b then (if b < (ss.length : Int) then some (rdOf ByteArray.empty ss b, i', h') else none) else none) = some (s, i'', h'') ∧ In l i'' ∧ s ∈ ss
  rw [if_pos hb.1, if_pos hb.2]
  refine ⟨_, _, _, rfl, hi', ?_⟩
  unfold rdOf
  rw [List.getD_eq_getElem?_getD, List.getElem?_eq_getElem (by omega)]
  exact List.getElem_mem _
theorem pickint_ok (l : List Int) (i h : Int) (ss : List Int) (hl : l.length ≤ 1048576) (hi : In l i) (hn : 0 < ss.length) : ∃ s i' h', spec_l01PickInt.f l i h ss = some (s, i', h') ∧ In l i' ∧ s ∈ ss := by
  unfold spec_l01PickInt.f
  obtain ⟨b, i', h', e, hi', _, hb⟩ := below_ok l i h (ss.length : Int) hl hi
  have hb := hb (by omega)
  rw [e, Option.bind_some]
  show ∃ s i'' h'', (if 0 ≤ b then (if b < (ss.length : Int) then some (rd ss b, i', h') else none) else none) = some (s, i'', h'') ∧ In l i'' ∧ s ∈ ss
  rw [if_pos hb.1, if_pos hb.2]
  refine ⟨_, _, _, rfl, hi', ?_⟩
  unfold rd
  rw [List.getD_eq_getElem?_getD, List.getElem?_eq_getElem (by omega)]
  exact List.getElem_mem _
theorem intV_size (a : Int) : (strOfNums (intL (intN a))).size ≤ 5 := by
  rw [strOfNums_size]
  refine intL_len _ ?_
  unfold intN
  split
  · omega
  · omega
theorem leaf_ok (l : List Int) (hl : l.length ≤ 1048576) (d c i h : Int) (hi : In l i) (h0 : 0 ≤ c) (h3 : c ≤ 3) : ∃ (x : S39) (i' h' : Int), Ev (fun k => spec_l07Item.j1 k d c l i h) (x.f0, x.f1, x.f2, i', h') ∧ In l i' ∧ (∀ n, WL (n + 1) x) ∧ x.f1.size ≤ 5000 := by
  by_cases c0 : c = 0
  · obtain ⟨s, i', h', e, hi', hs⟩ := pick_ok l i h [(⟨#[0]⟩ : ByteArray), (⟨#[255]⟩ : ByteArray)] hl hi (by simp)
    have hz : s.size ≤ 5000 := by
      simp only [List.mem_cons, List.not_mem_nil, or_false] at hs
      rcases hs with rfl | rfl <;> decide
    exact ⟨⟨1, s, []⟩, i', h', Ev.step (fun k => by rw [spec_l07Item.j1]) (ev_pos c0 (Ev.bind (g := fun _ => spec_l01Pick.f l i h [(⟨#[0]⟩ : ByteArray), (⟨#[255]⟩ : ByteArray)]) (by rw [e]; exact Ev.now _) (Ev.now _))), hi', fun n => WL_flat n _ _ (by omega), hz⟩
  by_cases c1 : c = 1
  · obtain ⟨s, i', h', e, hi', hs⟩ := pickint_ok l i h [0, 1, 127, 128, 255, 256, 65536, 1000000000] hl hi (by simp)
    have hz := intV_size s
    refine ⟨⟨2, strOfNums (intL (intN s)), []⟩, i', h', Ev.step (fun k => by rw [spec_l07Item.j1]) (ev_neg c0 (ev_pos c1 (Ev.bind (g := fun _ => spec_l01PickInt.f l i h [0, 1, 127, 128, 255, 256, 65536, 1000000000]) (by rw [e]; exact Ev.now _) ?_))), hi', fun n => WL_flat n _ _ (by omega), by show (strOfNums (intL (intN s))).size ≤ 5000; omega⟩
    exact Ev.bind (spec_int_ev s) (Ev.now _)
  by_cases c2 : c = 2
  · obtain ⟨s, i1, h1, e, hi1, hs⟩ := pickint_ok l i h [0, 1, 5, 127, 128, 130] hl hi (by simp)
    have hz : s ≤ 5000 := by
      simp only [List.mem_cons, List.not_mem_nil, or_false] at hs
      omega
    obtain ⟨r, i', h', er, hi', hr⟩ := text_ok l hl i1 h1 s hi1 hz
    refine ⟨⟨4, r, []⟩, i', h', Ev.step (fun k => by rw [spec_l07Item.j1]) (ev_neg c0 (ev_neg c1 (ev_pos c2 (Ev.bind (g := fun _ => spec_l01PickInt.f l i h [0, 1, 5, 127, 128, 130]) (by rw [e]; exact Ev.now _) ?_)))), hi', fun n => WL_flat n _ _ (by omega), hr⟩
    exact Ev.bind er (Ev.now _)
  · have c3 : c = 3 := by omega
    obtain ⟨s, i', h', e, hi', hs⟩ := pick_ok l i h [(⟨#[]⟩ : ByteArray), (⟨#[97]⟩ : ByteArray), (⟨#[110, 97, 109, 101, 46, 111, 102]⟩ : ByteArray), (⟨#[126, 32, 33]⟩ : ByteArray)] hl hi (by simp)
    have hz : s.size ≤ 5000 := by
      simp only [List.mem_cons, List.not_mem_nil, or_false] at hs
      rcases hs with rfl | rfl | rfl | rfl <;> decide
    refine ⟨⟨12, s, []⟩, i', h', Ev.step (fun k => by rw [spec_l07Item.j1]) (ev_neg c0 (ev_neg c1 (ev_neg c2 (ev_pos c3 (Ev.bind (g := fun _ => spec_l01Pick.f l i h [(⟨#[]⟩ : ByteArray), (⟨#[97]⟩ : ByteArray), (⟨#[110, 97, 109, 101, 46, 111, 102]⟩ : ByteArray), (⟨#[126, 32, 33]⟩ : ByteArray)]) (by rw [e]; exact Ev.now _) ?_))))), hi', fun n => WL_flat n _ _ (by omega), hz⟩
    exact Ev.bind (g := fun _ => spec_TextItem.f s) (a := (12, s, [])) (Ev.now _) (Ev.now _)
theorem item_ok (l : List Int) (hl : l.length ≤ 1048576) : ∀ (d : Nat), d ≤ 3 → ∀ (i h : Int), In l i → ∃ (x : S39) (i' h' : Int), Ev (fun k => spec_l07Item.f k l i h (d : Int)) (x.f0, x.f1, x.f2, i', h') ∧ In l i' ∧ WL (d + 1) x ∧ x.f1.size ≤ 5000 := by
  intro d
  induction d with
  | zero =>
    intro _ i h hi
    obtain ⟨b, i1, h1, e, hi1, _, hb⟩ := below_ok l i h 6 hl hi
    have hb := hb (by omega)
    by_cases h3 : b > 3
    · obtain ⟨x, i', h', ex, hi', hw, hz⟩ := leaf_ok l hl 0 (b - 4) i1 h1 hi1 (by omega) (by omega)
      refine ⟨x, i', h', Ev.step (fun k => by rw [spec_l07Item.f]) (Ev.bind (g := fun _ => spec_l01Below.f l i h 6) (by rw [e]; exact Ev.now _) (ev_pos rfl ?_)), hi', hw 0, hz⟩
      rw [show decide (b > 3) = true from decide_eq_true h3]
      refine Ev.step (fun k => by rw [spec_l07Item.j0]) (ev_pos rfl ?_)
      rw [w64 (n := b - 4) (by omega) (by omega)]
      exact ex
    · obtain ⟨x, i', h', ex, hi', hw, hz⟩ := leaf_ok l hl 0 b i1 h1 hi1 (by omega) (by omega)
      refine ⟨x, i', h', Ev.step (fun k => by rw [spec_l07Item.f]) (Ev.bind (g := fun _ => spec_l01Below.f l i h 6) (by rw [e]; exact Ev.now _) (ev_pos rfl ?_)), hi', hw 0, hz⟩
      rw [show decide (b > 3) = false from decide_eq_false h3]
      refine Ev.step (fun k => by rw [spec_l07Item.j0]) ?_
      exact ev_neg Bool.false_ne_true ex
  | succ d ih =>
    intro hd i h hi
    obtain ⟨b, i1, h1, e, hi1, _, hb⟩ := below_ok l i h 6 hl hi
    have hb := hb (by omega)
    have hne : ¬ ((d + 1 : Nat) : Int) = 0 := by omega
    by_cases h3 : b ≤ 3
    · obtain ⟨x, i', h', ex, hi', hw, hz⟩ := leaf_ok l hl ((d + 1 : Nat) : Int) b i1 h1 hi1 (by omega) (by omega)
      refine ⟨x, i', h', Ev.step (fun k => by rw [spec_l07Item.f]) (Ev.bind (g := fun _ => spec_l01Below.f l i h 6) (by rw [e]; exact Ev.now _) (ev_neg hne ?_)), hi', hw _, hz⟩
      refine Ev.step (fun k => by rw [spec_l07Item.j0]) ?_
      exact ev_neg Bool.false_ne_true ex
    · have loop : ∀ (m : Nat) (q : Int) (acc : List S39) (i h : Int), In l i → 0 ≤ q → q + m = 4 → (acc.length : Int) = q → (∀ y ∈ acc, WL (d + 1) y) → ∃ (L : List S39) (i' h' : Int), Ev (fun k => spec_l07Item.l0 k ((d + 1 : Nat) : Int) q l i h 48 (⟨#[]⟩ : ByteArray) acc) (48, (⟨#[]⟩ : ByteArray), L, i', h') ∧ In l i' ∧ L.length ≤ 4 ∧ ∀ y ∈ L, WL (d + 1) y := by
        intro m
        induction m with
        | zero =>
          intro q acc i h hi hq hm ha hw
          obtain ⟨c, i2, h2, e2, hi2, _, hc⟩ := below_ok l i h 4 hl hi
          have hc := hc (by omega)
          exact ⟨acc, i2, h2, Ev.step (fun k => by rw [spec_l07Item.l0]) (Ev.bind (g := fun _ => spec_l01Below.f l i h 4) (by rw [e2]; exact Ev.now _) (ev_neg (by show ¬ q < c; omega) (Ev.now _))), hi2, by omega, hw⟩
        | succ m ihm =>
          intro q acc i h hi hq hm ha hw
          obtain ⟨c, i2, h2, e2, hi2, _, hc⟩ := below_ok l i h 4 hl hi
          have hc := hc (by omega)
          by_cases hqc : q < c
          · obtain ⟨x, i3, h3, ex, hi3, hx, _⟩ := ih (by omega) i2 h2 hi2
            obtain ⟨L, i', h', eL, hi', hL, hwL⟩ := ihm (q + 1) (acc ++ [x]) i3 h3 hi3 (by omega) (by omega) (by rw [List.length_append]; show ((acc.length + 1 : Nat) : Int) = q + 1; omega) (fun y hy => by
              rcases List.mem_append.1 hy with hy | hy
              · exact hw y hy
              · obtain rfl := List.mem_singleton.1 hy
                exact hx)
            refine ⟨L, i', h', Ev.step (fun k => by rw [spec_l07Item.l0]) (Ev.bind (g := fun _ => spec_l01Below.f l i h 4) (by rw [e2]; exact Ev.now _) (ev_pos hqc ?_)), hi', hL, hwL⟩
            rw [show wrap64 (((d + 1 : Nat) : Int) - 1) = (d : Int) by rw [w64 (by omega) (by omega)]; omega, w64 (n := q + 1) (by omega) (by omega)]
            have hal : acc.length < 2932031007402 := by omega
            refine Ev.bind ex (ev_pos hal ?_)
            simp only [etaL]
            exact eL
          · exact ⟨acc, i2, h2, Ev.step (fun k => by rw [spec_l07Item.l0]) (Ev.bind (g := fun _ => spec_l01Below.f l i h 4) (by rw [e2]; exact Ev.now _) (ev_neg hqc (Ev.now _))), hi2, by omega, hw⟩
      obtain ⟨L, i', h', eL, hi', hL, hwL⟩ := loop 4 0 [] i1 h1 hi1 (by omega) (by omega) rfl (fun y hy => by simp at hy)
      refine ⟨⟨48, (⟨#[]⟩ : ByteArray), L⟩, i', h', Ev.step (fun k => by rw [spec_l07Item.f]) (Ev.bind (g := fun _ => spec_l01Below.f l i h 6) (by rw [e]; exact Ev.now _) (ev_neg hne ?_)), hi', ⟨by show 0 ≤ 1048576; omega, by show L.length ≤ 1048576; omega, hwL⟩, by show 0 ≤ 5000; omega⟩
      refine Ev.step (fun k => by rw [spec_l07Item.j0]) ?_
      refine ev_neg Bool.false_ne_true ?_
      refine Ev.step (fun k => by rw [spec_l07Item.j1]) ?_
      exact (ev_neg (by show ¬ b = 0; omega) (ev_neg (by show ¬ b = 1; omega) (ev_neg (by show ¬ b = 2; omega) (ev_neg (by show ¬ b = 3; omega) eL))))

theorem nest_WL (m : Nat) (x : S39) (h : WL m x) : ∀ n, WL (m + n) (nestV n x)
  | 0 => h
  | n + 1 => ⟨by show 0 ≤ 1048576; omega, by show 1 ≤ 1048576; omega, fun y hy => by
      obtain rfl := List.mem_singleton.1 hy
      exact nest_WL m x h n⟩
theorem any_ok (l : List Int) (hl : l.length ≤ 1048576) (i h : Int) (hi : In l i) : ∃ (x : S39) (i' h' : Int), Ev (fun k => spec_l07Any.f k l i h) (x.f0, x.f1, x.f2, i', h') ∧ In l i' ∧ WL 10 x := by
  simp only [spec_l07Any.f]
  obtain ⟨b, i1, h1, e1, hi1, _, _⟩ := below_ok l i h 12 hl hi
  obtain ⟨x, i2, h2, e2, hi2, hw, hz⟩ := item_ok l hl 3 (by omega) i1 h1 hi1
  have hw10 : WL 10 x := WL_up2 4 x hw 6
  by_cases c0 : b = 0
  · obtain ⟨s, i3, h3, e3, hi3, _⟩ := pickint_ok l i2 h2 [0, 1, 2, 3, 48, 256] hl hi2 (by simp)
    refine ⟨⟨s, x.f1, x.f2⟩, i3, h3, Ev.bind (g := fun _ => spec_l01Below.f l i h 12) (by rw [e1]; exact Ev.now _) (Ev.bind e2 (ev_pos c0 ?_)), hi3, hw10⟩
    refine Ev.bind (g := fun _ => spec_l01PickInt.f l i2 h2 [0, 1, 2, 3, 48, 256]) (by rw [e3]; exact Ev.now _) ?_
    exact Ev.now _
  by_cases c1 : b = 1
  · have hs : x.f1.size + 1 ≤ 9223372036854775807 := by omega
    refine ⟨⟨x.f0, x.f1 ++ (⟨#[0]⟩ : ByteArray), x.f2⟩, i2, h2, Ev.bind (g := fun _ => spec_l01Below.f l i h 12) (by rw [e1]; exact Ev.now _) (Ev.bind e2 (ev_neg c0 (ev_pos c1 (ev_pos hs (Ev.now _))))), hi2, ⟨?_, hw10.2.1, hw10.2.2⟩⟩
    show (x.f1 ++ (⟨#[0]⟩ : ByteArray)).size ≤ 1048576
    rw [ByteArray.size_append]
    show x.f1.size + 1 ≤ 1048576
    omega
  by_cases c2 : b = 2
  · exact ⟨nestV 6 (⟨x.f0, x.f1, x.f2⟩ : S39), i2, h2, Ev.bind (g := fun _ => spec_l01Below.f l i h 12) (by rw [e1]; exact Ev.now _) (Ev.bind e2 (ev_neg c0 (ev_neg c1 (ev_pos c2 (Ev.now _))))), hi2, nest_WL 4 _ (by rw [etaL]; exact hw) 6⟩
  · exact ⟨x, i2, h2, Ev.bind (g := fun _ => spec_l01Below.f l i h 12) (by rw [e1]; exact Ev.now _) (Ev.bind e2 (ev_neg c0 (ev_neg c1 (ev_neg c2 (Ev.now _))))), hi2, hw10⟩

/-! Copies: both sides hand back what came in. -/
theorem spec_copy : ∀ (n : Nat) (x : S39), WL n x → Ev (fun k => spec_l07Copy.f k x.f0 x.f1 x.f2) (x.f0, x.f1, x.f2)
  | 0, _, h => h.elim
  | n + 1, x, ⟨_, hl, hk⟩ => by
    have loop : ∀ (d i : Nat), i + d = x.f2.length → Ev (fun k => spec_l07Copy.l0 k (i : Int) x.f0 x.f1 x.f2 x.f0 x.f1 (x.f2.take i)) (x.f0, x.f1, x.f2) := by
      intro d
      induction d with
      | zero =>
        intro i hi
        refine Ev.step (fun k => by rw [spec_l07Copy.l0]) (ev_neg (by omega) ?_)
        rw [List.take_of_length_le (by omega)]
        exact Ev.now _
      | succ d ih =>
        intro i hi
        have hlt : i < x.f2.length := by omega
        have ht : (x.f2.take i).length < 2932031007402 := by rw [List.length_take]; omega
        refine Ev.step (fun k => by rw [spec_l07Copy.l0]) (ev_pos (by omega) (ev_pos (by omega) ?_))
        rw [rdL x.f2 i hlt, show wrap64 ((i : Int) + 1) = ((i + 1 : Nat) : Int) by rw [w64 (by omega) (by omega)]; omega]
        refine Ev.bind (spec_copy n x.f2[i] (hk _ (List.getElem_mem hlt))) (ev_pos ht ?_)
        have h := ih (i + 1) (by omega)
        rw [List.take_succ_eq_append_getElem hlt] at h
        simp only [etaL]
        exact h
    refine Ev.step (fun k => by rw [spec_l07Copy.f]) ?_
    exact loop x.f2.length 0 (by omega)
theorem impl_copy : ∀ (n : Nat) (x : S39), WL n x → Ev (fun k => impl_copyItem.f k x.f0 x.f1 x.f2) (x.f0, x.f1, x.f2)
  | 0, _, h => h.elim
  | n + 1, x, ⟨_, hl, hk⟩ => by
    have loop : ∀ (d i : Nat), i + d = x.f2.length → Ev (fun k => impl_copyItem.l0 k x.f2 (x.f2.length : Int) (i : Int) x.f0 x.f1 (x.f2.take i)) (x.f0, x.f1, x.f2) := by
      intro d
      induction d with
      | zero =>
        intro i hi
        refine Ev.step (fun k => by rw [impl_copyItem.l0]) (ev_neg (by omega) ?_)
        rw [List.take_of_length_le (by omega)]
        exact Ev.now _
      | succ d ih =>
        intro i hi
        have hlt : i < x.f2.length := by omega
        have ht : (x.f2.take i).length < 2932031007402 := by rw [List.length_take]; omega
        refine Ev.step (fun k => by rw [impl_copyItem.l0]) (ev_pos (by omega) (ev_pos (by omega) (ev_pos (by omega) ?_)))
        rw [rdL x.f2 i hlt, show wrap64 ((i : Int) + 1) = ((i + 1 : Nat) : Int) by rw [w64 (by omega) (by omega)]; omega]
        refine Ev.bind (impl_copy n x.f2[i] (hk _ (List.getElem_mem hlt))) (ev_pos ht ?_)
        have h := ih (i + 1) (by omega)
        rw [List.take_succ_eq_append_getElem hlt] at h
        simp only [etaL]
        exact h
    refine Ev.step (fun k => by rw [impl_copyItem.f]) ?_
    exact loop x.f2.length 0 (by omega)
theorem spec_list (n : Nat) (L : List S39) (hl : L.length ≤ 1048576) (hw : ∀ y ∈ L, WL n y) : Ev (fun k => spec_ListItem.f k L) (48, (⟨#[]⟩ : ByteArray), L) := by
  have loop : ∀ (d i : Nat), i + d = L.length → Ev (fun k => spec_ListItem.l0 k L (i : Int) 48 (⟨#[]⟩ : ByteArray) (L.take i)) (48, (⟨#[]⟩ : ByteArray), L) := by
    intro d
    induction d with
    | zero =>
      intro i hi
      refine Ev.step (fun k => by rw [spec_ListItem.l0]) (ev_neg (by omega) ?_)
      rw [List.take_of_length_le (by omega)]
      exact Ev.now _
    | succ d ih =>
      intro i hi
      have hlt : i < L.length := by omega
      have ht : (L.take i).length < 2932031007402 := by rw [List.length_take]; omega
      refine Ev.step (fun k => by rw [spec_ListItem.l0]) (ev_pos (by omega) (ev_pos (by omega) ?_))
      rw [rdL L i hlt, show wrap64 ((i : Int) + 1) = ((i + 1 : Nat) : Int) by rw [w64 (by omega) (by omega)]; omega]
      refine Ev.bind (spec_copy n L[i] (hw _ (List.getElem_mem hlt))) (ev_pos ht ?_)
      have h := ih (i + 1) (by omega)
      rw [List.take_succ_eq_append_getElem hlt] at h
      simp only [etaL]
      exact h
  simp only [spec_ListItem.f]
  exact loop L.length 0 (by omega)
theorem impl_list (n : Nat) (L : List S39) (hl : L.length ≤ 1048576) (hw : ∀ y ∈ L, WL n y) : Ev (fun k => impl_ListItem.f k L) (48, (⟨#[]⟩ : ByteArray), L) := by
  have loop : ∀ (d i : Nat), i + d = L.length → Ev (fun k => impl_ListItem.l0 k L (L.length : Int) (i : Int) 48 (⟨#[]⟩ : ByteArray) (L.take i)) (48, (⟨#[]⟩ : ByteArray), L) := by
    intro d
    induction d with
    | zero =>
      intro i hi
      refine Ev.step (fun k => by rw [impl_ListItem.l0]) (ev_neg (by omega) ?_)
      rw [List.take_of_length_le (by omega)]
      exact Ev.now _
    | succ d ih =>
      intro i hi
      have hlt : i < L.length := by omega
      have ht : (L.take i).length < 2932031007402 := by rw [List.length_take]; omega
      refine Ev.step (fun k => by rw [impl_ListItem.l0]) (ev_pos (by omega) (ev_pos (by omega) (ev_pos (by omega) ?_)))
      rw [rdL L i hlt, show wrap64 ((i : Int) + 1) = ((i + 1 : Nat) : Int) by rw [w64 (by omega) (by omega)]; omega]
      refine Ev.bind (impl_copy n L[i] (hw _ (List.getElem_mem hlt))) (ev_pos ht ?_)
      have h := ih (i + 1) (by omega)
      rw [List.take_succ_eq_append_getElem hlt] at h
      simp only [etaL]
      exact h
  simp only [impl_ListItem.f]
  exact loop L.length 0 (by omega)

theorem draw_intin (l : List Int) (hl : l.length ≤ 1048576) : ∃ (x : S39), Ev (fun k => spec_DrawIntIn.f k l) (x.f0, x.f1, x.f2) ∧ WL 11 x := by
  simp only [spec_DrawIntIn.f, spec_l01Once.f]
  obtain ⟨h0, e0⟩ := new_ok l hl
  obtain ⟨b1, i1, h1, e1, hi1, _, _⟩ := below_ok l 0 h0 3 hl (in_zero l)
  by_cases hb : b1 = 0
  · obtain ⟨s, i', h', e, hi', hs⟩ := pick_ok l i1 h1 [(⟨#[]⟩ : ByteArray), (⟨#[59, 154, 202, 0]⟩ : ByteArray), (⟨#[59, 154, 202, 1]⟩ : ByteArray), (⟨#[0, 127]⟩ : ByteArray), (⟨#[0, 128]⟩ : ByteArray), (⟨#[1, 1, 1, 1, 1]⟩ : ByteArray)] hl hi1 (by simp)
    have hz : s.size ≤ 5000 := by
      simp only [List.mem_cons, List.not_mem_nil, or_false] at hs
      rcases hs with rfl | rfl | rfl | rfl | rfl | rfl <;> decide
    refine ⟨⟨2, s, []⟩, Ev.bind e0 (Ev.bind (g := fun _ => (spec_l01Below.f l 0 h0 3).bind fun bt => some ((bt.1 == 0), bt.2.1, bt.2.2)) (a := (true, i1, h1)) ?_ (ev_pos rfl (Ev.bind (g := fun _ => spec_l01Pick.f l i1 h1 [(⟨#[]⟩ : ByteArray), (⟨#[59, 154, 202, 0]⟩ : ByteArray), (⟨#[59, 154, 202, 1]⟩ : ByteArray), (⟨#[0, 127]⟩ : ByteArray), (⟨#[0, 128]⟩ : ByteArray), (⟨#[1, 1, 1, 1, 1]⟩ : ByteArray)]) (by rw [e]; exact Ev.now _) (Ev.now _)))), WL_flat 10 _ _ (by omega)⟩
    rw [e1, hb]
    exact Ev.now _
  · obtain ⟨x, i', h', e, hi', hw⟩ := any_ok l hl i1 h1 hi1
    refine ⟨x, Ev.bind e0 (Ev.bind (g := fun _ => (spec_l01Below.f l 0 h0 3).bind fun bt => some ((bt.1 == 0), bt.2.1, bt.2.2)) (a := (false, i1, h1)) ?_ (ev_neg Bool.false_ne_true (Ev.bind e (Ev.now _)))), WL_up1 10 x hw⟩
    rw [e1]
    have : (b1 == 0) = false := beq_eq_false_iff_ne.mpr hb
    show Ev (fun _ => some ((b1 == 0), i1, h1)) _
    rw [this]
    exact Ev.now _
theorem draw_list (l : List Int) (hl : l.length ≤ 1048576) : ∃ (L : List S39), Ev (fun k => spec_DrawListItem.f k l) L ∧ L.length ≤ 4 ∧ ∀ y ∈ L, WL 10 y := by
  have loop : ∀ (m : Nat) (q : Int) (acc : List S39) (i h : Int), In l i → 0 ≤ q → q + m = 4 → (acc.length : Int) = q → (∀ y ∈ acc, WL 10 y) → ∃ (L : List S39), Ev (fun k => spec_DrawListItem.l0 k acc q l i h) L ∧ L.length ≤ 4 ∧ ∀ y ∈ L, WL 10 y := by
    intro m
    induction m with
    | zero =>
      intro q acc i h hi hq hm ha hw
      obtain ⟨c, i2, h2, e2, hi2, _, hc⟩ := below_ok l i h 4 hl hi
      have hc := hc (by omega)
      exact ⟨acc, Ev.step (fun k => by rw [spec_DrawListItem.l0]) (Ev.bind (g := fun _ => spec_l01Below.f l i h 4) (by rw [e2]; exact Ev.now _) (ev_neg (by show ¬ q < c; omega) (Ev.now _))), by omega, hw⟩
    | succ m ihm =>
      intro q acc i h hi hq hm ha hw
      obtain ⟨c, i2, h2, e2, hi2, _, hc⟩ := below_ok l i h 4 hl hi
      have hc := hc (by omega)
      by_cases hqc : q < c
      · obtain ⟨x, i3, h3, ex, hi3, hx⟩ := any_ok l hl i2 h2 hi2
        obtain ⟨L, eL, hL, hwL⟩ := ihm (q + 1) (acc ++ [x]) i3 h3 hi3 (by omega) (by omega) (by rw [List.length_append]; show ((acc.length + 1 : Nat) : Int) = q + 1; omega) (fun y hy => by
          rcases List.mem_append.1 hy with hy | hy
          · exact hw y hy
          · obtain rfl := List.mem_singleton.1 hy
            exact hx)
        refine ⟨L, Ev.step (fun k => by rw [spec_DrawListItem.l0]) (Ev.bind (g := fun _ => spec_l01Below.f l i h 4) (by rw [e2]; exact Ev.now _) (ev_pos hqc ?_)), hL, hwL⟩
        rw [w64 (n := q + 1) (by omega) (by omega)]
        have hal : acc.length < 2932031007402 := by omega
        refine Ev.bind ex (ev_pos hal ?_)
        simp only [etaL]
        exact eL
      · exact ⟨acc, Ev.step (fun k => by rw [spec_DrawListItem.l0]) (Ev.bind (g := fun _ => spec_l01Below.f l i h 4) (by rw [e2]; exact Ev.now _) (ev_neg hqc (Ev.now _))), by omega, hw⟩
  simp only [spec_DrawListItem.f]
  obtain ⟨h0, e0⟩ := new_ok l hl
  obtain ⟨L, eL, hL, hw⟩ := loop 4 0 [] 0 h0 (in_zero l) (by omega) (by omega) rfl (fun y hy => by simp at hy)
  exact ⟨L, Ev.bind e0 eL, hL, hw⟩
theorem draw_int (l : List Int) (hl : l.length ≤ 1048576) : ∃ a : Int, Ev (fun k => spec_DrawIntItem.f k l) a := by
  simp only [spec_DrawIntItem.f]
  obtain ⟨h0, e0⟩ := new_ok l hl
  obtain ⟨s, i', h', e, hi', hs⟩ := pickint_ok l 0 h0 [0, 1, 127, 128, 32768, 1000000000, 1000000001, (-1)] hl (in_zero l) (by simp)
  exact ⟨s, Ev.bind e0 (Ev.bind (g := fun _ => spec_l01PickInt.f l 0 h0 [0, 1, 127, 128, 32768, 1000000000, 1000000001, (-1)]) (by rw [e]; exact Ev.now _) (Ev.now _))⟩
theorem draw_text (l : List Int) (hl : l.length ≤ 1048576) : ∃ s : ByteArray, Ev (fun k => spec_DrawTextItem.f k l) s ∧ s.size ≤ 5000 := by
  simp only [spec_DrawTextItem.f]
  obtain ⟨h0, e0⟩ := new_ok l hl
  obtain ⟨s, i', h', e, hi', hs⟩ := pick_ok l 0 h0 [(⟨#[]⟩ : ByteArray), (⟨#[97]⟩ : ByteArray), (⟨#[110, 97, 109, 101]⟩ : ByteArray), (⟨#[1]⟩ : ByteArray)] hl (in_zero l) (by simp)
  have hz : s.size ≤ 5000 := by
    simp only [List.mem_cons, List.not_mem_nil, or_false] at hs
    rcases hs with rfl | rfl | rfl | rfl <;> decide
  exact ⟨s, Ev.bind e0 (Ev.bind (g := fun _ => spec_l01Pick.f l 0 h0 [(⟨#[]⟩ : ByteArray), (⟨#[97]⟩ : ByteArray), (⟨#[110, 97, 109, 101]⟩ : ByteArray), (⟨#[1]⟩ : ByteArray)]) (by rw [e]; exact Ev.now _) (Ev.now _)), hz⟩
theorem inV_back (n : Nat) (x : S39) (h : (inV (n + 1) x).2 = true) : intV (inV (n + 1) x).1 = (x.f0, x.f1, x.f2) := by
  unfold inV at h ⊢
  by_cases c : x.f0 = 2 ∧ okV (n + 1) x 0 = true
  · rw [if_pos c] at h ⊢
    obtain ⟨hl, _, hcan⟩ := (ok2 n x c.1).1 c.2
    unfold outV at h ⊢
    by_cases hv : val (bN x.f1) ≤ 1000000000
    · rw [if_pos hv]
      show intV ((val (bN x.f1) : Nat) : Int) = _
      unfold intV intN
      rw [if_pos (by omega), Int.toNat_natCast, intL_val _ (bN_lt _) hcan, str_ints, c.1, List.eq_nil_of_length_eq_zero hl]
    · rw [if_neg hv] at h
      exact absurd h Bool.false_ne_true
  · rw [if_neg c] at h
    exact absurd h Bool.false_ne_true
theorem inV_int (n : Nat) (hn : n ≤ 1000000000) : inV 2 (⟨2, strOfNums (intL n), []⟩ : S39) = ((n : Int), true) := by
  obtain ⟨L, e1, e2, e3, e4⟩ := intL_ex n
  have hbl : bN (strOfNums (intL n)) = L := bN_of _ L e2 (by rw [e1])
  have h5 : (strOfNums (intL n)).size ≤ 5 := by rw [strOfNums_size]; exact intL_len n hn
  have hk : okV 2 (⟨2, strOfNums (intL n), []⟩ : S39) 0 = true := (ok2 1 _ rfl).2 ⟨rfl, h5, by show canon (bN (strOfNums (intL n))); rw [hbl]; exact e4⟩
  unfold inV
  rw [if_pos ⟨rfl, hk⟩]
  show outV (val (bN (strOfNums (intL n)))) = _
  rw [hbl, e3]
  unfold outV
  rw [if_pos hn]
theorem FnInts : laws_FnInts.Pure := by
  intro l _ _ _
  refine Ev.rounds (g := fun k => laws_FnInts.f k l) ?_
  simp only [laws_FnInts.f, laws_big.f]
  refine Ev.bind (g := fun _ => some (decide ((l.length : Int) > 1048576))) (Ev.now _) ?_
  by_cases hb : (l.length : Int) > 1048576
  · exact ev_pos (decide_eq_true hb) (Ev.now _)
  refine ev_neg (by simpa using hb) ?_
  have hl : l.length ≤ 1048576 := by omega
  obtain ⟨p, ep, hp, hpx⟩ := places_ok l hl
  obtain ⟨y, ey, wy⟩ := draw_intin l hl
  obtain ⟨K, eK⟩ := draw_int l hl
  obtain ⟨L, eL, hL, wL⟩ := draw_list l hl
  obtain ⟨s, es, hs⟩ := draw_text l hl
  have h0 : 0 ≤ rd p 0 ∧ rd p 0 < 10000 := by
    unfold rd
    rw [List.getD_eq_getElem?_getD, List.getElem?_eq_getElem (by show 0 < p.length; omega)]
    exact hpx _ (List.getElem_mem _)
  obtain ⟨N, hN⟩ : ∃ N : Nat, wrap64 (rd p 0 * 99991) = (N : Int) := ⟨(rd p 0 * 99991).toNat, by rw [w64 (by omega) (by omega)]; omega⟩
  have hN9 : N ≤ 1000000000 := by rw [w64 (by omega) (by omega)] at hN; omega
  have i1 : Ev (fun k => impl_IntItem.f k (N : Int)) (2, strOfNums (intL N), []) := by
    have h := impl_int_ev (N : Int)
    unfold intV intN at h
    rwa [if_pos (by omega), Int.toNat_natCast] at h
  have i2 : Ev (fun k => impl_IntIn.f k 2 (strOfNums (intL N)) []) ((N : Int), true) := by
    have h := impl_intin_ev 1 (⟨2, strOfNums (intL N), []⟩ : S39) (WL_flat 1 _ _ (by rw [strOfNums_size]; have := intL_len N hN9; omega))
    rwa [inV_int N hN9] at h
  have sK : Ev (fun k => spec_SameItem.f k (intV K).1 (intV K).2.1 (intV K).2.2 (intV K).1 (intV K).2.1 (intV K).2.2) true := same_refl 1 (⟨2, strOfNums (intL (intN K)), []⟩ : S39) (WL_flat 0 _ _ (by have := intV_size K; omega))
  have sL : Ev (fun k => spec_SameItem.f k 48 (⟨#[]⟩ : ByteArray) L 48 (⟨#[]⟩ : ByteArray) L) true := same_refl 11 (⟨48, (⟨#[]⟩ : ByteArray), L⟩ : S39) ⟨by show 0 ≤ 1048576; omega, by show L.length ≤ 1048576; omega, wL⟩
  have sT : Ev (fun k => spec_SameItem.f k 12 s [] 12 s []) true := same_refl 1 (⟨12, s, []⟩ : S39) (WL_flat 0 _ _ (by omega))
  have hp0 : 0 < (p.length : Int) := by omega
  refine Ev.bind ep (ev_pos hp0 ?_)
  rw [hN]
  refine Ev.bind i1 (Ev.bind i2 (Ev.bind ey (Ev.bind (impl_intin_ev 10 y wy) (Ev.bind (spec_intin_ev 10 y wy) (Ev.bind eK (Ev.bind eL (Ev.bind es (ev_pos rfl (ev_pos rfl (ev_pos (by simp) (ev_pos rfl ?_)))))))))))
  by_cases hy : (inV 11 y).2 = true
  · have sy : Ev (fun k => spec_SameItem.f k (intV (inV 11 y).1).1 (intV (inV 11 y).1).2.1 (intV (inV 11 y).1).2.2 y.f0 y.f1 y.f2) true := by
      rw [inV_back 10 y hy]
      exact same_refl 11 y wy
    exact ev_pos hy (Ev.bind (impl_int_ev _) (Ev.bind sy (ev_pos rfl (Ev.bind (impl_int_ev K) (Ev.bind (spec_int_ev K) (Ev.bind sK (ev_pos rfl (Ev.bind (impl_list 10 L (by omega) wL) (Ev.bind (spec_list 10 L (by omega) wL) (Ev.bind sL (ev_pos rfl (Ev.bind (g := fun _ => impl_TextItem.f s) (a := (12, s, [])) (Ev.now _) (Ev.bind (g := fun _ => spec_TextItem.f s) (a := (12, s, [])) (Ev.now _) (Ev.bind sT (Ev.now _)))))))))))))))
  · exact ev_neg hy (Ev.bind (impl_int_ev K) (Ev.bind (spec_int_ev K) (Ev.bind sK (ev_pos rfl (Ev.bind (impl_list 10 L (by omega) wL) (Ev.bind (spec_list 10 L (by omega) wL) (Ev.bind sL (ev_pos rfl (Ev.bind (g := fun _ => impl_TextItem.f s) (a := (12, s, [])) (Ev.now _) (Ev.bind (g := fun _ => spec_TextItem.f s) (a := (12, s, [])) (Ev.now _) (Ev.bind sT (Ev.now _))))))))))))

end Go.Proofs.Ytkhmcioeceiepaa.Pure

namespace Go.Proofs.Ytkhmcioeceiepaa.PrintWords
open Go.ChangeShapes Go.WideShapes
/-- The words' own, under the name by which the printed row calls it. -/
theorem sized_ints {H : Type} {enc : TypeId × Value → H} {P : Program} {W : World} {base : Nat} {spare : Nat → Bool} {held : Bool} {t e : TypeId} {k : IntKind} {a : Option Addr} {len cap : Nat} {d : DataW H} {ps : List MemPlace} {ts : List TypeId} {ds : List (DataW H)} {j : Nat}
    (hsz : (DataW.weightsEach P ts ds).all (· ≤ reachBytes) = true) (ht : ts[j]? = some t) (hd : ds[j]? = some d) (hu : P.underlying t = some (.slice e)) (he : P.underlying e = some (.int k)) (hc : P.cellsOf e = 1) {B : Nat} (hB : P.bytesOf e = B)
    (h : DataW.Trod enc P W base spare held t (.slice a len cap) d ps) : len * B ≤ 140737488351232 :=
  Go.Proofs.YtkhmcioeceiepaaW.PrintWords.sized_ints hsz ht hd hu he hc hB h
end Go.Proofs.Ytkhmcioeceiepaa.PrintWords
