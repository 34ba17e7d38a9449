/- The law FnExactBodyText answers true for every argument: the program's BodyText and the reference's come to the same answer. -/
import Derived.Test.YtknalcnbkbkjdaaVGFnExactBodyTextx13
import Derived.Test.YtknalcnbkbkjdaaVOFnExactBodyText
set_option linter.unusedVariables false
set_option linter.unusedSimpArgs false
namespace Go.Proofs.Ytknalcnbkbkjdaa.Pure
open Go.RowKit Go.ChangeShapes Go.Proofs.Ytknalcnbkbkjdaa.GFnExactBodyText Go.Proofs.YtknalcnbkbkjdaaW.PrintWords Go.Proofs.YtknalcnbkbkjdaaW.PrintLast

theorem w64 {n : Int} (h0 : -9223372036854775808 ≤ n) (h1 : n ≤ 9223372036854775807) : wrap64 n = n := by unfold wrap64; omega
theorem ev_pos {α : Type} {c : Prop} [Decidable c] {f g : Nat → Option α} {r : α} (h : c) (k : Ev f r) : Ev (fun n => if c then f n else g n) r := by
  simpa only [if_pos h] using k
theorem ev_neg {α : Type} {c : Prop} [Decidable c] {f g : Nat → Option α} {r : α} (h : ¬ c) (k : Ev g r) : Ev (fun n => if c then f n else g n) r := by
  simpa only [if_neg h] using k
theorem tdivN (n m : Nat) : Int.tdiv (n : Int) (m : Int) = ((n / m : Nat) : Int) := rfl
theorem tmodN (n m : Nat) : Int.tmod (n : Int) (m : Int) = ((n % m : Nat) : Int) := rfl
theorem nums_toList (l : List Int) : (strOfNums l).toList = l.map fun n => UInt8.ofNat n.toNat := by rw [ByteArray.toList_eq, strOfNums_data]

def bN (s : ByteArray) : List Nat := s.data.toList.map UInt8.toNat
theorem bN_len (s : ByteArray) : (bN s).length = s.size := by rw [bN, List.length_map, Array.length_toList]; rfl
theorem bN_lt (s : ByteArray) : ∀ b ∈ bN s, b < 256 := by
  intro b hb
  obtain ⟨c, _, rfl⟩ := List.mem_map.1 hb
  exact c.toNat_lt
theorem bt_bN (s : ByteArray) (i : Nat) : bt s i = ((bN s).getD i 0 : Nat) := by
  unfold bt bN
  split
  · rename_i h
    have h' : i < s.data.toList.length := by rw [Array.length_toList]; exact h
    simp [List.getD_eq_getElem?_getD, List.getElem?_eq_getElem h']
    rfl
  · rename_i h
    have h' : s.data.toList.length ≤ i := by rw [Array.length_toList]; simpa using h
    simp [List.getD_eq_getElem?_getD, List.getElem?_eq_none h']
theorem str_append (l m : List Int) : strOfNums l ++ strOfNums m = strOfNums (l ++ m) := by
  apply ByteArray.ext
  rw [ByteArray.data_append]
  unfold strOfNums
  simp
theorem str_toList_nil (l : List Int) : (strOfNums l).toList = [] ↔ l = [] := by rw [nums_toList]; simp
theorem bt_str (l : List Int) (h : ∀ x ∈ l, 0 ≤ x ∧ x < 256) : bt (strOfNums l) 0 = l.getD 0 0 := by
  cases l with
  | nil => simp [bt, strOfNums, ByteArray.size]
  | cons x l =>
    have hx := h x (by simp)
    have e : bt (strOfNums (x :: l)) ((0 : Nat) : Int) = ((bN (strOfNums (x :: l))).getD 0 0 : Nat) := bt_bN _ 0
    have e2 : bN (strOfNums (x :: l)) = (x :: l).map fun n => (UInt8.ofNat n.toNat).toNat := by
      unfold bN
      rw [strOfNums_data, List.map_map]
      rfl
    rw [show bt (strOfNums (x :: l)) 0 = bt (strOfNums (x :: l)) ((0 : Nat) : Int) from rfl, e, e2]
    simp
    omega
def be (n : Nat) : List Int := if 0 < n then be (n / 256) ++ [((n % 256 : Nat) : Int)] else []
termination_by n
decreasing_by omega
theorem be_rng (n : Nat) : ∀ x ∈ be n, 0 ≤ x ∧ x < 256 := by
  induction n using Nat.strongRecOn with
  | _ n ih =>
    intro x hx
    rw [be] at hx
    split at hx
    · rcases List.mem_append.1 hx with h | h
      · exact ih (n / 256) (by omega) x h
      · simp at h; omega
    · simp at hx
theorem be_pos (n : Nat) (h : 0 < n) : be n ≠ [] := by rw [be, if_pos h]; simp
/-- The bytes of IntItem. -/
def intB (n : Nat) : List Int := if n = 0 then [0] else be n
def intL (n : Nat) : List Int := if 128 ≤ (intB n).getD 0 0 then 0 :: intB n else intB n
def intN (a : Int) : Nat := if 0 ≤ a ∧ a ≤ 1000000000 then a.toNat else 0
def intV (a : Int) : Int × ByteArray × List S26 := (2, strOfNums (intL (intN a)), [])

theorem spec_int (n : Nat) : ∀ acc : List Int, n + acc.length ≤ 2000000000 → Ev (fun k => spec_IntItem.l0 k (n : Int) (strOfNums acc)) (2, (if be n ++ acc = [] then strOfNums [0] else if 128 ≤ bt (strOfNums (be n ++ acc)) 0 then strOfNums (0 :: (be n ++ acc)) else strOfNums (be n ++ acc)), []) := by
  induction n using Nat.strongRecOn with
  | _ n ih =>
    intro acc hl
    refine Ev.step (fun k => by rw [spec_IntItem.l0]) ?_
    by_cases h : 0 < n
    · refine ev_pos (by omega) ?_
      have e1 : wrap64 (Int.tdiv (n : Int) 256) = ((n / 256 : Nat) : Int) := by rw [show (256 : Int) = ((256 : Nat) : Int) from rfl, tdivN]; exact w64 (by omega) (by omega)
      have e2 : Int.tmod (n : Int) 256 % 256 = ((n % 256 : Nat) : Int) := by
        rw [show (256 : Int) = ((256 : Nat) : Int) from rfl, tmodN]; omega
      rw [e1, e2]
      refine Ev.bind (g := fun _ => some [((n % 256 : Nat) : Int)]) (Ev.now _) ?_
      rw [str_append]
      have hz : (strOfNums [((n % 256 : Nat) : Int)]).size + (strOfNums acc).size ≤ 9223372036854775807 := by rw [strOfNums_size, strOfNums_size]; simp; omega
      refine ev_pos hz ?_
      have := ih (n / 256) (by omega) ([((n % 256 : Nat) : Int)] ++ acc) (by simp; omega)
      rw [be, if_pos h, List.append_assoc]
      exact this
    · refine ev_neg (by omega) ?_
      have e0 : be n = [] := by rw [be, if_neg h]
      rw [e0, List.nil_append]
      have hz : 1 + (strOfNums acc).size ≤ 9223372036854775807 := by rw [strOfNums_size]; omega
      have ez : (⟨#[0]⟩ : ByteArray) ++ strOfNums acc = strOfNums (0 :: acc) := str_append [0] acc
      by_cases ha : acc = []
      · subst ha
        refine ev_pos ((str_toList_nil []).2 rfl) (ev_pos hz ?_)
        rw [if_pos rfl, ez]
        exact Ev.now _
      · refine ev_neg (fun h => ha ((str_toList_nil acc).1 h)) (ev_pos ?_ ?_)
        · rw [strOfNums_size]
          cases acc with
          | nil => exact absurd rfl ha
          | cons x l => simp
        · by_cases hb : bt (strOfNums acc) 0 ≥ 128
          · refine ev_pos hb (ev_pos hz ?_)
            rw [if_neg ha, if_pos hb, ez]
            exact Ev.now _
          · refine ev_neg hb ?_
            rw [if_neg ha, if_neg hb]
            exact Ev.now _
theorem spec_int_ev (a : Int) : Ev (fun k => spec_IntItem.f k a) (intV a) := by
  have key : ∀ n : Nat, n ≤ 1000000000 → Ev (fun k => spec_IntItem.j0 k (n : Int)) (2, strOfNums (intL n), []) := by
    intro n hn
    refine Ev.step (fun k => by rw [spec_IntItem.j0]) ?_
    have := spec_int n [] (by simp; omega)
    rw [List.append_nil] at this
    have hv : (if be n = [] then strOfNums [0] else if 128 ≤ bt (strOfNums (be n)) 0 then strOfNums (0 :: be n) else strOfNums (be n)) = strOfNums (intL n) := by
      unfold intL intB
      by_cases h : n = 0
      · subst h
        have e0 : be 0 = [] := by rw [be, if_neg (by omega)]
        rw [if_pos e0, if_pos rfl, if_neg (by simp)]
      · have hp := be_pos n (by omega)
        rw [if_neg hp, if_neg h, bt_str _ (be_rng n)]
        split <;> rfl
    rw [hv] at this
    exact this
  simp only [spec_IntItem.f, spec_l01In.f]
  unfold intV intN
  by_cases h0 : 0 ≤ a
  · by_cases h1 : a ≤ 1000000000
    · obtain ⟨m, rfl⟩ := Int.eq_ofNat_of_zero_le h0
      rw [if_pos (by omega), if_pos ⟨h0, h1⟩]
      exact Ev.bind (g := fun _ => some (decide ((m : Int) ≤ 1000000000))) (a := true) (by rw [decide_eq_true h1]; exact Ev.now _) (ev_pos rfl (key m (by omega)))
    · rw [if_pos (by omega), if_neg (fun h => h1 h.2)]
      exact Ev.bind (g := fun _ => some (decide (a ≤ 1000000000))) (a := false) (by rw [decide_eq_false h1]; exact Ev.now _) (ev_neg Bool.false_ne_true (key 0 (by omega)))
  · rw [if_neg (by omega), if_neg (fun h => h0 h.1)]
    exact Ev.bind (g := fun _ => some false) (Ev.now _) (ev_neg Bool.false_ne_true (key 0 (by omega)))

theorem impl_int (n : Nat) : ∀ acc : List Int, n + acc.length ≤ 2000000000 → acc ≠ [] → Ev (fun k => impl_IntItem.l0 k (n : Int) acc) (2, strOfNums (if 128 ≤ (be n ++ acc).getD 0 0 then 0 :: (be n ++ acc) else be n ++ acc), []) := by
  induction n using Nat.strongRecOn with
  | _ n ih =>
    intro acc hl ha
    refine Ev.step (fun k => by rw [impl_IntItem.l0]) ?_
    by_cases h : 0 < n
    · refine ev_pos (by omega) ?_
      have e1 : (n : Int) / 256 = ((n / 256 : Nat) : Int) := by omega
      have e2 : (n : Int) % 256 = ((n % 256 : Nat) : Int) := by omega
      rw [e1, e2]
      refine Ev.bind (g := fun _ => some [((n % 256 : Nat) : Int)]) (Ev.now _) (ev_pos (by simp; omega) ?_)
      have := ih (n / 256) (by omega) ([((n % 256 : Nat) : Int)] ++ acc) (by simp; omega) (by simp)
      rw [be, if_pos h, List.append_assoc]
      exact this
    · refine ev_neg (by omega) ?_
      have e0 : be n = [] := by rw [be, if_neg h]
      rw [e0, List.nil_append]
      refine ev_pos ?_ ?_
      · cases acc with
        | nil => exact absurd rfl ha
        | cons x l => simp
      · have er : rd acc 0 = acc.getD 0 0 := rfl
        rw [er]
        by_cases hb : acc.getD 0 0 ≥ 128
        · refine ev_pos hb (Ev.bind (g := fun _ => some [(0 : Int)]) (Ev.now _) (ev_pos (by simp; omega) ?_))
          rw [if_pos hb]
          exact Ev.now _
        · refine ev_neg hb ?_
          rw [if_neg hb]
          exact Ev.now _
theorem impl_int_ev (a : Int) : Ev (fun k => impl_IntItem.f k a) (intV a) := by
  have key : ∀ n : Nat, n ≤ 1000000000 → Ev (fun k => impl_IntItem.j0 k (n : Int)) (2, strOfNums (intL n), []) := by
    intro n hn
    refine Ev.step (fun k => by rw [impl_IntItem.j0]) ?_
    have e1 : (n : Int) / 256 = ((n / 256 : Nat) : Int) := by omega
    have e2 : (n : Int) % 256 = ((n % 256 : Nat) : Int) := by omega
    rw [e1, e2]
    have := impl_int (n / 256) [((n % 256 : Nat) : Int)] (by simp; omega) (by simp)
    have hv : be (n / 256) ++ [((n % 256 : Nat) : Int)] = intB n := by
      unfold intB
      by_cases h : n = 0
      · subst h
        rw [if_pos rfl, be, if_neg (by omega)]; rfl
      · rw [if_neg h, be.eq_1 n, if_pos (by omega)]
    rw [hv] at this
    exact this
  simp only [impl_IntItem.f, impl_within.f]
  unfold intV intN
  by_cases h0 : 0 ≤ a
  · by_cases h1 : a ≤ 1000000000
    · obtain ⟨m, rfl⟩ := Int.eq_ofNat_of_zero_le h0
      rw [if_pos (by omega), if_pos ⟨h0, h1⟩]
      exact Ev.bind (g := fun _ => some (decide ((m : Int) ≤ 1000000000))) (a := true) (by rw [decide_eq_true h1]; exact Ev.now _) (ev_pos rfl (key m (by omega)))
    · rw [if_pos (by omega), if_neg (fun h => h1 h.2)]
      exact Ev.bind (g := fun _ => some (decide (a ≤ 1000000000))) (a := false) (by rw [decide_eq_false h1]; exact Ev.now _) (ev_neg Bool.false_ne_true (key 0 (by omega)))
  · rw [if_neg (by omega), if_neg (fun h => h0 h.1)]
    exact Ev.bind (g := fun _ => some false) (Ev.now _) (ev_neg Bool.false_ne_true (key 0 (by omega)))

theorem be_short : ∀ (k n : Nat), n < 256 ^ k → (be n).length ≤ k
  | 0, n, h => by
    have : n = 0 := by simpa using h
    subst this
    rw [be, if_neg (by omega)]
    simp
  | k + 1, n, h => by
    rw [be]
    by_cases h0 : 0 < n
    · rw [if_pos h0, List.length_append]
      have := be_short k (n / 256) (by rw [Nat.pow_succ] at h; omega)
      simp
      exact this
    · rw [if_neg h0]
      simp
theorem intL_len (n : Nat) (h : n ≤ 1000000000) : (intL n).length ≤ 5 := by
  have e4 : (256 : Nat) ^ 4 = 4294967296 := by decide
  have := be_short 4 n (by rw [e4]; omega)
  unfold intL intB
  by_cases h0 : n = 0
  · rw [if_pos h0]
    decide
  · rw [if_neg h0]
    by_cases hc : 128 ≤ (be n).getD 0 0
    · rw [if_pos hc, List.length_cons]
      omega
    · rw [if_neg hc]
      omega

/-! The little trees. -/
theorem rdL (xs : List S26) (i : Nat) (h : i < xs.length) : rd_T26 xs (i : Int) = xs[i] := by
  simp [rd_T26, List.getD_eq_getElem?_getD, List.getElem?_eq_getElem h]
theorem le_sum {α : Type} (f : α → Nat) : ∀ (l : List α) (y : α), y ∈ l → f y ≤ (l.map f).sum
  | [], _, h => by cases h
  | x :: l, y, h => by
    rcases List.mem_cons.1 h with rfl | h
    · simp
    · have := le_sum f l y h
      simp; omega
theorem etaL (x : S26) : (⟨x.f0, x.f1, x.f2⟩ : S26) = x := by cases x; rfl
def WL : Nat → S26 → Prop
  | 0, _ => False
  | n + 1, x => x.f1.size ≤ 1048576 ∧ x.f2.length ≤ 1048576 ∧ ∀ y ∈ x.f2, WL n y
theorem WL_flat (n : Nat) (a : Int) (s : ByteArray) (h : s.size ≤ 1048576) : WL (n + 1) (⟨a, s, []⟩ : S26) := ⟨h, by simp, fun y hy => by simp at hy⟩

def lessV (b : Int) (w : Nat) : Int := if (w : Int) ≤ b then b - w else -1
theorem lessV_add (b : Int) (v w : Nat) (h : (v : Int) ≤ b) : lessV (b - v) w = lessV b (v + w) := by
  unfold lessV
  by_cases hw : (w : Int) ≤ b - v
  · rw [if_pos hw, if_pos (by omega)]; omega
  · rw [if_neg hw, if_neg (by omega)]
theorem lessV_no (b : Int) (w : Nat) (h : ¬ (w : Int) ≤ b) : lessV b w = -1 := if_neg h
theorem lessV_yes (b : Int) (w : Nat) (h : (w : Int) ≤ b) : lessV b w = b - w := if_pos h

/-! Rows of texts: their weight, their copy, their sameness. -/
theorem rdS (xs : List ByteArray) (i : Nat) (h : i < xs.length) : rdOf ByteArray.empty xs (i : Int) = xs[i] := by
  simp [rdOf, List.getD_eq_getElem?_getD, List.getElem?_eq_getElem h]
def wtS (l : List ByteArray) : Nat := (l.map ByteArray.size).sum
theorem wtS_mem : ∀ (l : List ByteArray) (s : ByteArray), s ∈ l → s.size ≤ wtS l
  | [], _, h => by cases h
  | x :: l, s, h => by
    unfold wtS
    rw [List.map_cons, List.sum_cons]
    rcases List.mem_cons.1 h with rfl | h
    · omega
    · have := wtS_mem l s h
      unfold wtS at this
      omega
theorem sz_strs (l : List ByteArray) (hl : l.length ≤ 9223372036854775807) (hw : ∀ s ∈ l, s.size ≤ 9223372036854775807) (b : Int) (h0 : 0 ≤ b) (h1 : b ≤ 1048576) : Ev (fun k => laws_szStringS.f k l b) (lessV b (l.length + wtS l)) := by
  have loop : ∀ (d i : Nat) (b : Int), i + d = l.length → 0 ≤ b → b ≤ 1048576 → Ev (fun k => laws_szStringS.l0 k l b (i : Int)) (lessV b (wtS (l.drop i))) := by
    intro d
    induction d with
    | zero =>
      intro i b hi h0 h1
      refine Ev.step (fun k => by rw [laws_szStringS.l0]) (ev_neg (by omega) ?_)
      rw [List.drop_eq_nil_of_le (by omega)]
      rw [show lessV b (wtS []) = b by rw [lessV_yes _ _ (by simpa [wtS] using h0)]; simp [wtS]]
      exact Ev.now _
    | succ d ih =>
      intro i b hi h0 h1
      have hlt : i < l.length := by omega
      have hs := hw _ (List.getElem_mem hlt)
      refine Ev.step (fun k => by rw [laws_szStringS.l0]) (ev_pos (by omega) (ev_pos (by omega) ?_))
      rw [rdS l i hlt, w64 (n := b - (l[i].size : Int)) (by omega) (by omega)]
      have e : wtS (l.drop i) = l[i].size + wtS (l.drop (i + 1)) := by
        rw [List.drop_eq_getElem_cons hlt]
        rfl
      rw [e]
      by_cases hc : (l[i].size : Int) ≤ b
      · rw [← lessV_add _ _ _ hc]
        refine ev_neg (by omega) ?_
        rw [show wrap64 ((i : Int) + 1) = ((i + 1 : Nat) : Int) by rw [w64 (by omega) (by omega)]; omega]
        exact ih (i + 1) _ (by omega) (by omega) (by omega)
      · rw [lessV_no _ _ (by omega)]
        exact ev_pos (by omega) (Ev.now _)
  simp only [laws_szStringS.f]
  rw [w64 (n := b - (l.length : Int)) (by omega) (by omega)]
  by_cases hc : (l.length : Int) ≤ b
  · refine ev_neg (by omega) ?_
    rw [← lessV_add _ _ _ hc]
    have := loop l.length 0 (b - l.length) (by omega) (by omega) (by omega)
    rwa [List.drop_zero] at this
  · rw [lessV_no _ _ (by omega)]
    exact ev_pos (by omega) (Ev.now _)
theorem set_str (l : List ByteArray) (i : Nat) (t : ByteArray) (tl : List ByteArray) (h : i < l.length) : (l.take i ++ t :: tl).set i l[i] = l.take (i + 1) ++ tl := by
  have hl : (l.take i).length = i := by rw [List.length_take]; omega
  rw [List.set_append_right _ _ (by omega), hl, Nat.sub_self, List.set_cons_zero, List.take_succ_eq_append_getElem h, List.append_assoc]
  rfl
theorem tostr (l : List ByteArray) (hl : l.length ≤ 1048576) : Ev (fun k => laws_toStringS.f k l) l := by
  have loop : ∀ (d i : Nat) (tl : List ByteArray), tl.length = d → i + d = l.length → Ev (fun k => laws_toStringS.l0 k l (l.take i ++ tl) (i : Int)) l := by
    intro d
    induction d with
    | zero =>
      intro i tl ht hi
      obtain rfl : tl = [] := List.eq_nil_of_length_eq_zero ht
      refine Ev.step (fun k => by rw [laws_toStringS.l0]) ?_
      refine ev_neg (by omega) ?_
      rw [List.append_nil, List.take_of_length_le (by omega)]
      exact Ev.now _
    | succ d ih =>
      intro i tl ht hi
      obtain ⟨t, tl, rfl⟩ : ∃ t tl', tl = t :: tl' := by cases tl with | nil => simp at ht | cons t tl => exact ⟨t, tl, rfl⟩
      refine Ev.step (fun k => by rw [laws_toStringS.l0]) ?_
      refine ev_pos (by omega) (ev_pos (by omega) (ev_pos ?_ ?_))
      · simp at ht; simp [List.length_take]; omega
      · rw [show wrap64 ((i : Int) + 1) = ((i + 1 : Nat) : Int) by rw [w64 (by omega) (by omega)]; omega, Int.toNat_natCast, rdS l i (by omega), set_str l i t tl (by omega)]
        exact ih (i + 1) tl (by simpa using ht) (by omega)
  simp only [laws_toStringS.f]
  refine ev_pos (by omega) (ev_pos (by omega) ?_)
  have := loop l.length 0 (List.replicate l.length ⟨#[]⟩) (by simp) (by omega)
  simpa using this
theorem eqstr (l : List ByteArray) (hl : l.length ≤ 1048576) : Ev (fun k => laws_eqStringS.f k l l) true := by
  have loop : ∀ (d i : Nat), i + d = l.length → Ev (fun k => laws_eqStringS.l0 k l l (i : Int)) true := by
    intro d
    induction d with
    | zero =>
      intro i hi
      exact Ev.step (fun k => by rw [laws_eqStringS.l0]) (ev_neg (by omega) (Ev.now _))
    | succ d ih =>
      intro i hi
      refine Ev.step (fun k => by rw [laws_eqStringS.l0]) ?_
      refine ev_pos (by omega) (ev_pos (by omega) (ev_pos (by omega) (ev_pos rfl ?_)))
      rw [show wrap64 ((i : Int) + 1) = ((i + 1 : Nat) : Int) by rw [w64 (by omega) (by omega)]; omega]
      exact ih (i + 1) (by omega)
  simp only [laws_eqStringS.f]
  exact ev_pos trivial (loop l.length 0 (by omega))

/-! What impl copies is what it was. -/
theorem impl_copy : ∀ (n : Nat) (x : S26), WL n x → Ev (fun k => impl_copyItem.f k x.f0 x.f1 x.f2) (x.f0, x.f1, x.f2)
  | 0, _, h => h.elim
  | n + 1, x, ⟨_, hl, hk⟩ => by
    have loop : ∀ (d i : Nat), i + d = x.f2.length → Ev (fun k => impl_copyItem.l0 k x.f2 (x.f2.length : Int) (i : Int) x.f0 x.f1 (x.f2.take i)) (x.f0, x.f1, x.f2) := by
      intro d
      induction d with
      | zero =>
        intro i hi
        refine Ev.step (fun k => by rw [impl_copyItem.l0]) (ev_neg (by omega) ?_)
        rw [List.take_of_length_le (by omega)]
        exact Ev.now _
      | succ d ih =>
        intro i hi
        have hlt : i < x.f2.length := by omega
        have ht : (x.f2.take i).length < 2932031007402 := by rw [List.length_take]; omega
        refine Ev.step (fun k => by rw [impl_copyItem.l0]) (ev_pos (by omega) (ev_pos (by omega) (ev_pos (by omega) ?_)))
        rw [rdL x.f2 i hlt, show wrap64 ((i : Int) + 1) = ((i + 1 : Nat) : Int) by rw [w64 (by omega) (by omega)]; omega]
        refine Ev.bind (impl_copy n x.f2[i] (hk _ (List.getElem_mem hlt))) (ev_pos ht ?_)
        have h := ih (i + 1) (by omega)
        rw [List.take_succ_eq_append_getElem hlt] at h
        simp only [etaL]
        exact h
    refine Ev.step (fun k => by rw [impl_copyItem.f]) ?_
    exact loop x.f2.length 0 (by omega)
theorem impl_list (n : Nat) (L : List S26) (hl : L.length ≤ 1048576) (hw : ∀ y ∈ L, WL n y) : Ev (fun k => impl_ListItem.f k L) (48, (⟨#[]⟩ : ByteArray), L) := by
  have loop : ∀ (d i : Nat), i + d = L.length → Ev (fun k => impl_ListItem.l0 k L (L.length : Int) (i : Int) 48 (⟨#[]⟩ : ByteArray) (L.take i)) (48, (⟨#[]⟩ : ByteArray), L) := by
    intro d
    induction d with
    | zero =>
      intro i hi
      refine Ev.step (fun k => by rw [impl_ListItem.l0]) (ev_neg (by omega) ?_)
      rw [List.take_of_length_le (by omega)]
      exact Ev.now _
    | succ d ih =>
      intro i hi
      have hlt : i < L.length := by omega
      have ht : (L.take i).length < 2932031007402 := by rw [List.length_take]; omega
      refine Ev.step (fun k => by rw [impl_ListItem.l0]) (ev_pos (by omega) (ev_pos (by omega) (ev_pos (by omega) ?_)))
      rw [rdL L i hlt, show wrap64 ((i : Int) + 1) = ((i + 1 : Nat) : Int) by rw [w64 (by omega) (by omega)]; omega]
      refine Ev.bind (impl_copy n L[i] (hw _ (List.getElem_mem hlt))) (ev_pos ht ?_)
      have h := ih (i + 1) (by omega)
      rw [List.take_succ_eq_append_getElem hlt] at h
      simp only [etaL]
      exact h
  simp only [impl_ListItem.f]
  exact loop L.length 0 (by omega)

/-! What is a right item: both sides answer by the same word. -/
def plainV (x : S26) : Bool :=
  if x.f0 = 1 then (if x.f1.toList = ([0] : List UInt8) then true else x.f1.toList == ([255] : List UInt8))
  else if x.f0 = 2 then (decide (1 ≤ x.f1.size ∧ x.f1.size ≤ 5 ∧ bt x.f1 0 < 128) && (decide (bt x.f1 0 ≠ 0 ∨ x.f1.size = 1) || decide (bt x.f1 1 ≥ 128)))
  else if x.f0 = 12 then (bN x.f1).all (fun b => decide (32 ≤ b ∧ b ≤ 126))
  else x.f0 == 4
def okV : Nat → S26 → Int → Bool
  | 0, _, _ => false
  | n + 1, x, d => if x.f0 = 48 then (if x.f1.toList = ([] : List UInt8) ∧ x.f2.length ≤ 40 ∧ d < 6 then x.f2.all (fun y => okV n y (d + 1)) else false) else (if x.f2.length = 0 then plainV x else false)
theorem three_no (s : ByteArray) (h : ¬ bt s 0 < 128) : decide (1 ≤ s.size ∧ s.size ≤ 5 ∧ bt s 0 < 128) = false := decide_eq_false (fun q => h q.2.2)
theorem three_yes (s : ByteArray) (h1 : 1 ≤ s.size) (h2 : s.size ≤ 5) (h : bt s 0 < 128) : decide (1 ≤ s.size ∧ s.size ≤ 5 ∧ bt s 0 < 128) = true := decide_eq_true ⟨h1, h2, h⟩
theorem or_no (s : ByteArray) (h1 : bt s 0 = 0) (h : s.size ≠ 1) : decide (bt s 0 ≠ 0 ∨ s.size = 1) = false := decide_eq_false (fun q => q.elim (fun x => x h1) h)
theorem two_ev {g : Nat → Option Bool} (s : ByteArray) (yes : 1 ≤ s.size → s.size ≤ 5 → Ev g (decide (1 ≤ s.size ∧ s.size ≤ 5 ∧ bt s 0 < 128) && (decide (bt s 0 ≠ 0 ∨ s.size = 1) || decide (bt s 1 ≥ 128)))) :
    Ev (fun k => (if (s.size : Int) ≥ 1 then some (decide ((s.size : Int) ≤ 5)) else some false).bind fun t => if t = true then g k else some false) (decide (1 ≤ s.size ∧ s.size ≤ 5 ∧ bt s 0 < 128) && (decide (bt s 0 ≠ 0 ∨ s.size = 1) || decide (bt s 1 ≥ 128))) := by
  by_cases h1 : 1 ≤ s.size
  · by_cases h5 : s.size ≤ 5
    · refine Ev.bind (g := fun _ => if (s.size : Int) ≥ 1 then some (decide ((s.size : Int) ≤ 5)) else some false) (a := true) (by rw [if_pos (by omega), decide_eq_true (by omega)]; exact Ev.now _) (ev_pos rfl (yes h1 h5))
    · refine Ev.bind (g := fun _ => if (s.size : Int) ≥ 1 then some (decide ((s.size : Int) ≤ 5)) else some false) (a := false) (by rw [if_pos (by omega), decide_eq_false (by omega)]; exact Ev.now _) (ev_neg Bool.false_ne_true ?_)
      rw [decide_eq_false (fun h => h5 h.2.1), Bool.false_and]
      exact Ev.now _
  · refine Ev.bind (g := fun _ => if (s.size : Int) ≥ 1 then some (decide ((s.size : Int) ≤ 5)) else some false) (a := false) (by rw [if_neg (by omega)]; exact Ev.now _) (ev_neg Bool.false_ne_true ?_)
    rw [decide_eq_false (fun h => h1 h.1), Bool.false_and]
    exact Ev.now _
theorem drop_b (s : ByteArray) (i : Nat) (h : i < s.size) : ∃ b : Nat, b < 256 ∧ bt s i = (b : Int) ∧ (bN s).drop i = b :: (bN s).drop (i + 1) := by
  have h' : i < (bN s).length := by rw [bN_len]; exact h
  refine ⟨(bN s)[i], bN_lt s _ (List.getElem_mem h'), ?_, List.drop_eq_getElem_cons h'⟩
  rw [bt_bN, List.getD_eq_getElem?_getD, List.getElem?_eq_getElem h']
  rfl

theorem spec_plain (x : S26) (hs : x.f1.size ≤ 1048576) : Ev (fun k => spec_l07Plain.f k x.f0 x.f1 x.f2) (plainV x) := by
  have loop : ∀ (d i : Nat), i + d = x.f1.size → Ev (fun k => spec_l07Plain.l0 k (i : Int) x.f0 x.f1 x.f2) (((bN x.f1).drop i).all (fun b => decide (32 ≤ b ∧ b ≤ 126))) := by
    intro d
    induction d with
    | zero =>
      intro i hi
      refine Ev.step (fun k => by rw [spec_l07Plain.l0]) (ev_neg (by omega) ?_)
      rw [List.drop_eq_nil_of_le (by rw [bN_len]; omega)]
      exact Ev.now _
    | succ d ih =>
      intro i hi
      obtain ⟨b, _, e, ed⟩ := drop_b x.f1 i (by omega)
      refine Ev.step (fun k => by rw [spec_l07Plain.l0]) (ev_pos (by omega) (ev_pos (by omega) ?_))
      rw [e, ed, List.all_cons]
      by_cases h0 : b < 32
      · rw [decide_eq_false (by omega), Bool.false_and]
        exact ev_pos (by omega) (Ev.now _)
      refine ev_neg (by omega) ?_
      by_cases h1 : 126 < b
      · rw [decide_eq_false (by omega), Bool.false_and]
        exact ev_pos (by omega) (Ev.now _)
      refine ev_neg (by omega) ?_
      rw [decide_eq_true (by omega), Bool.true_and]
      rw [show wrap64 ((i : Int) + 1) = ((i + 1 : Nat) : Int) by rw [w64 (by omega) (by omega)]; omega]
      exact ih (i + 1) (by omega)
  simp only [spec_l07Plain.f, spec_l01In.f]
  unfold plainV
  by_cases c1 : x.f0 = 1
  · refine ev_pos c1 ?_
    rw [if_pos c1]
    by_cases e : x.f1.toList = ([0] : List UInt8)
    · refine ev_pos e ?_
      rw [if_pos e]
      exact Ev.now _
    · refine ev_neg e ?_
      rw [if_neg e]
      exact Ev.now _
  refine ev_neg c1 ?_
  rw [if_neg c1]
  by_cases c2 : x.f0 = 2
  · refine ev_pos c2 ?_
    rw [if_pos c2]
    refine two_ev x.f1 (fun h1 h5 => ?_)
    refine ev_pos (by omega) ?_
    by_cases ha : bt x.f1 0 ≥ 128
    · rw [three_no _ (by omega), Bool.false_and]
      exact ev_pos ha (Ev.now _)
    refine ev_neg ha ?_
    rw [three_yes _ h1 h5 (by omega), Bool.true_and]
    by_cases hz : bt x.f1 0 = 0
    · refine ev_pos hz ?_
      by_cases hn : x.f1.size = 1
      · rw [decide_eq_true (Or.inr hn), Bool.true_or]
        exact ev_pos (by omega) (Ev.now _)
      · rw [or_no _ hz hn, Bool.false_or]
        exact ev_neg (by omega) (ev_pos (by omega) (Ev.now _))
    · rw [decide_eq_true (Or.inl hz), Bool.true_or]
      exact ev_neg hz (Ev.now _)
  refine ev_neg c2 ?_
  rw [if_neg c2]
  by_cases c3 : x.f0 = 12
  · refine ev_pos c3 ?_
    rw [if_pos c3]
    have := loop x.f1.size 0 (by omega)
    rwa [List.drop_zero] at this
  refine ev_neg c3 ?_
  rw [if_neg c3]
  exact Ev.now _
theorem spec_ok : ∀ (n : Nat) (x : S26) (d : Int), WL n x → 0 ≤ d → d ≤ 6 → Ev (fun k => spec_l07Right.f k x.f0 x.f1 x.f2 d) (okV n x d)
  | 0, _, _, h, _, _ => h.elim
  | n + 1, x, d, ⟨hs, hl, hk⟩, d0, d1 => by
    have loop : d < 6 → ∀ (m i : Nat), i + m = x.f2.length → Ev (fun k => spec_l07Right.l0 k d (i : Int) x.f0 x.f1 x.f2) ((x.f2.drop i).all (fun y => okV n y (d + 1))) := by
      intro hd m
      induction m with
      | zero =>
        intro i hi
        refine Ev.step (fun k => by rw [spec_l07Right.l0]) (ev_neg (by omega) ?_)
        rw [List.drop_eq_nil_of_le (by omega)]
        exact Ev.now _
      | succ m ih =>
        intro i hi
        have hlt : i < x.f2.length := by omega
        refine Ev.step (fun k => by rw [spec_l07Right.l0]) (ev_pos (by omega) (ev_pos (by omega) ?_))
        rw [rdL x.f2 i hlt, w64 (n := d + 1) (by omega) (by omega)]
        refine Ev.bind (spec_ok n x.f2[i] (d + 1) (hk _ (List.getElem_mem hlt)) (by omega) (by omega)) ?_
        rw [List.drop_eq_getElem_cons hlt, List.all_cons]
        cases he : okV n x.f2[i] (d + 1) with
        | true =>
          rw [Bool.true_and]
          refine ev_pos rfl ?_
          rw [show wrap64 ((i : Int) + 1) = ((i + 1 : Nat) : Int) by rw [w64 (by omega) (by omega)]; omega]
          exact ih (i + 1) (by omega)
        | false =>
          rw [Bool.false_and]
          exact ev_neg Bool.false_ne_true (Ev.now _)
    have no : Ev (fun k => spec_l07Right.j0 k d true x.f0 x.f1 x.f2) false := by
      refine Ev.step (fun k => by rw [spec_l07Right.j0]) ?_
      exact ev_pos rfl (Ev.now _)
    refine Ev.step (fun k => by rw [spec_l07Right.f]) ?_
    show Ev _ (if x.f0 = 48 then (if x.f1.toList = ([] : List UInt8) ∧ x.f2.length ≤ 40 ∧ d < 6 then x.f2.all (fun y => okV n y (d + 1)) else false) else (if x.f2.length = 0 then plainV x else false))
    by_cases c : x.f0 = 48
    · refine ev_pos c ?_
      rw [if_pos c]
      by_cases c1 : x.f1.toList = ([] : List UInt8)
      · refine ev_pos c1 ?_
        by_cases c2 : x.f2.length ≤ 40
        · refine ev_neg (by omega) ?_
          by_cases c3 : d < 6
          · rw [if_pos ⟨c1, c2, c3⟩, decide_eq_false (by omega)]
            refine Ev.step (fun k => by rw [spec_l07Right.j0]) ?_
            refine ev_neg Bool.false_ne_true ?_
            have := loop c3 x.f2.length 0 (by omega)
            rwa [List.drop_zero] at this
          · rw [if_neg (fun h => c3 h.2.2), decide_eq_true (by omega)]
            exact no
        · rw [if_neg (fun h => c2 h.2.1)]
          exact ev_pos (by omega) no
      · rw [if_neg (fun h => c1 h.1)]
        exact ev_neg c1 no
    · refine ev_neg c ?_
      rw [if_neg c]
      by_cases c1 : x.f2.length = 0
      · rw [if_pos c1]
        exact ev_pos (by omega) (Ev.bind (spec_plain x hs) (Ev.now _))
      · rw [if_neg c1]
        exact ev_neg (by omega) (Ev.now _)

theorem bytes_in (s : ByteArray) (hs : s.size ≤ 1048576) : Ev (fun k => impl_bytesIn.f k s 32 126) ((bN s).all (fun b => decide (32 ≤ b ∧ b ≤ 126))) := by
  have loop : ∀ (d i : Nat), i + d = s.size → Ev (fun k => impl_bytesIn.l0 k s 32 126 (i : Int)) (((bN s).drop i).all (fun b => decide (32 ≤ b ∧ b ≤ 126))) := by
    intro d
    induction d with
    | zero =>
      intro i hi
      refine Ev.step (fun k => by rw [impl_bytesIn.l0]) (ev_neg (by omega) ?_)
      rw [List.drop_eq_nil_of_le (by rw [bN_len]; omega)]
      exact Ev.now _
    | succ d ih =>
      intro i hi
      obtain ⟨b, hb, e, ed⟩ := drop_b s i (by omega)
      refine Ev.step (fun k => by rw [impl_bytesIn.l0]) (ev_pos (by omega) (ev_pos (by omega) ?_))
      rw [e, ed, List.all_cons, w64 (n := (b : Int)) (by omega) (by omega)]
      have hw : Ev (fun _ => impl_within.f (b : Int) 32 126) (decide (32 ≤ b ∧ b ≤ 126)) := by
        simp only [impl_within.f]
        by_cases h0 : 32 ≤ b
        · refine ev_pos (by omega) ?_
          rw [show decide ((b : Int) ≤ 126) = decide (32 ≤ b ∧ b ≤ 126) from decide_eq_decide.2 (by omega)]
          exact Ev.now _
        · rw [show decide (32 ≤ b ∧ b ≤ 126) = false from decide_eq_false (by omega)]
          exact ev_neg (by omega) (Ev.now _)
      refine Ev.bind hw ?_
      by_cases h : 32 ≤ b ∧ b ≤ 126
      · rw [decide_eq_true h, Bool.true_and]
        refine ev_pos rfl ?_
        rw [show wrap64 ((i : Int) + 1) = ((i + 1 : Nat) : Int) by rw [w64 (by omega) (by omega)]; omega]
        exact ih (i + 1) (by omega)
      · rw [decide_eq_false h, Bool.false_and]
        exact ev_neg Bool.false_ne_true (Ev.now _)
  simp only [impl_bytesIn.f]
  have := loop s.size 0 (by omega)
  rwa [List.drop_zero] at this
theorem impl_ok : ∀ (n : Nat) (x : S26) (d : Int), WL n x → 0 ≤ d → d ≤ 6 → Ev (fun k => impl_itemOk.f k x.f0 x.f1 x.f2 d) (okV n x d)
  | 0, _, _, h, _, _ => h.elim
  | n + 1, x, d, ⟨hs, hl, hk⟩, d0, d1 => by
    have loop : d < 6 → ∀ (m i : Nat), i + m = x.f2.length → Ev (fun k => impl_itemOk.l0 k d x.f2 (x.f2.length : Int) (i : Int)) ((x.f2.drop i).all (fun y => okV n y (d + 1))) := by
      intro hd m
      induction m with
      | zero =>
        intro i hi
        refine Ev.step (fun k => by rw [impl_itemOk.l0]) (ev_neg (by omega) ?_)
        rw [List.drop_eq_nil_of_le (by omega)]
        exact Ev.now _
      | succ m ih =>
        intro i hi
        have hlt : i < x.f2.length := by omega
        refine Ev.step (fun k => by rw [impl_itemOk.l0]) (ev_pos (by omega) (ev_pos (by omega) (ev_pos (by omega) ?_)))
        rw [rdL x.f2 i hlt, w64 (n := d + 1) (by omega) (by omega)]
        refine Ev.bind (impl_ok n x.f2[i] (d + 1) (hk _ (List.getElem_mem hlt)) (by omega) (by omega)) ?_
        rw [List.drop_eq_getElem_cons hlt, List.all_cons]
        cases he : okV n x.f2[i] (d + 1) with
        | true =>
          rw [Bool.true_and]
          refine ev_pos rfl ?_
          rw [show wrap64 ((i : Int) + 1) = ((i + 1 : Nat) : Int) by rw [w64 (by omega) (by omega)]; omega]
          exact ih (i + 1) (by omega)
        | false =>
          rw [Bool.false_and]
          exact ev_neg Bool.false_ne_true (Ev.now _)
    have no : Ev (fun k => impl_itemOk.j0 k d true x.f0 x.f1 x.f2) false := by
      refine Ev.step (fun k => by rw [impl_itemOk.j0]) ?_
      exact ev_pos rfl (Ev.now _)
    refine Ev.step (fun k => by rw [impl_itemOk.f]) ?_
    show Ev _ (if x.f0 = 48 then (if x.f1.toList = ([] : List UInt8) ∧ x.f2.length ≤ 40 ∧ d < 6 then x.f2.all (fun y => okV n y (d + 1)) else false) else (if x.f2.length = 0 then plainV x else false))
    by_cases c : x.f0 = 48
    · refine ev_pos c ?_
      rw [if_pos c]
      by_cases c1 : x.f1.toList = ([] : List UInt8)
      · refine ev_pos c1 ?_
        by_cases c2 : x.f2.length ≤ 40
        · refine ev_neg (by omega) ?_
          by_cases c3 : d < 6
          · rw [if_pos ⟨c1, c2, c3⟩, decide_eq_false (by omega)]
            refine Ev.step (fun k => by rw [impl_itemOk.j0]) ?_
            refine ev_neg Bool.false_ne_true ?_
            have := loop c3 x.f2.length 0 (by omega)
            rwa [List.drop_zero] at this
          · rw [if_neg (fun h => c3 h.2.2), decide_eq_true (by omega)]
            exact no
        · rw [if_neg (fun h => c2 h.2.1)]
          exact ev_pos (by omega) no
      · rw [if_neg (fun h => c1 h.1)]
        exact ev_neg c1 no
    · refine ev_neg c ?_
      rw [if_neg c]
      by_cases c1 : x.f2.length = 0
      · rw [if_pos c1]
        refine ev_neg (by omega) ?_
        unfold plainV
        by_cases t1 : x.f0 = 1
        · refine ev_pos t1 ?_
          rw [if_pos t1]
          by_cases e : x.f1.toList = ([0] : List UInt8)
          · refine ev_pos e ?_
            rw [if_pos e]
            exact Ev.now _
          · refine ev_neg e ?_
            rw [if_neg e]
            exact Ev.now _
        refine ev_neg t1 ?_
        rw [if_neg t1]
        by_cases t2 : x.f0 = 2
        · refine ev_pos t2 ?_
          rw [if_pos t2]
          simp only [impl_within.f]
          refine two_ev x.f1 (fun h1 h5 => ?_)
          refine ev_pos (by omega) ?_
          by_cases ha : bt x.f1 0 < 128
          · refine ev_pos ha ?_
            rw [three_yes _ h1 h5 ha, Bool.true_and]
            by_cases hz : bt x.f1 0 = 0
            · refine ev_pos hz ?_
              by_cases hn : x.f1.size = 1
              · rw [decide_eq_true (Or.inr hn), Bool.true_or]
                exact ev_pos (by omega) (Ev.now _)
              · rw [or_no _ hz hn, Bool.false_or]
                exact ev_neg (by omega) (ev_pos (by omega) (Ev.now _))
            · rw [decide_eq_true (Or.inl hz), Bool.true_or]
              exact ev_neg hz (Ev.now _)
          · rw [three_no _ ha, Bool.false_and]
            exact ev_neg ha (Ev.now _)
        refine ev_neg t2 ?_
        rw [if_neg t2]
        by_cases t4 : x.f0 = 4
        · rw [t4]
          exact ev_pos rfl (Ev.now _)
        refine ev_neg t4 ?_
        by_cases t3 : x.f0 = 12
        · rw [if_pos t3]
          exact ev_pos t3 (Ev.bind (bytes_in x.f1 hs) (Ev.now _))
        rw [if_neg t3, show (x.f0 == 4) = false by simpa using t4]
        exact ev_neg t3 (Ev.now _)
      · rw [if_neg c1]
        exact ev_pos (by omega) (Ev.now _)

/-! The text of an item. -/
theorem str_bytes (t : ByteArray) : strOfNums (bytesOf t) = t := by
  apply ByteArray.ext
  unfold strOfNums bytesOf
  rw [List.map_map]
  have : (fun n : Int => UInt8.ofNat n.toNat) ∘ (fun b : UInt8 => (b.toNat : Int)) = id := by
    funext b; simp
  rw [this]; simp
theorem bytes_rng (t : ByteArray) : ∀ x ∈ bytesOf t, 0 ≤ x ∧ x < 256 := by
  intro x hx
  obtain ⟨b, _, rfl⟩ := List.mem_map.1 hx
  have := b.toNat_lt
  omega
theorem bytes_str (l : List Int) (h : ∀ x ∈ l, 0 ≤ x ∧ x < 256) : bytesOf (strOfNums l) = l := by
  unfold bytesOf
  rw [strOfNums_data, List.map_map]
  refine (List.map_congr_left (fun x hx => ?_)).trans (List.map_id l)
  have := h x hx
  show (((UInt8.ofNat x.toNat).toNat : Nat) : Int) = x
  rw [UInt8.toNat_ofNat']
  omega
theorem be_len_k : ∀ (k n : Nat), n < 256 ^ k → (be n).length ≤ k
  | 0, n, h => by
    have : n = 0 := by simpa using h
    subst this
    rw [be, if_neg (by omega)]; simp
  | k + 1, n, h => by
    rw [be]
    split
    · have h2 : n / 256 < 256 ^ k := by
        rw [Nat.pow_succ] at h
        exact Nat.div_lt_of_lt_mul (by rw [Nat.mul_comm]; exact h)
      have := be_len_k k (n / 256) h2
      simp; omega
    · simp
def lenL (n : Nat) : List Int := if n < 128 then [(n : Int) % 256] else (128 + ((be n).length : Int)) % 256 :: be n
theorem lenL_len (n : Nat) (h : n < 1099511627776) : (lenL n).length ≤ 6 := by
  have := be_len_k 5 n (by rw [show (256 : Nat) ^ 5 = 1099511627776 by decide]; exact h)
  unfold lenL
  split
  · simp
  · simp; omega
theorem lenL_rng (n : Nat) : ∀ x ∈ lenL n, 0 ≤ x ∧ x < 256 := by
  intro x hx
  unfold lenL at hx
  split at hx
  · have : x = (n : Int) % 256 := by simpa using hx
    omega
  · rcases List.mem_cons.1 hx with rfl | h
    · omega
    · exact be_rng n x h
theorem spec_len_loop (n : Nat) : ∀ acc : List Int, (be n ++ acc).length ≤ 1000 → n < 1099511627776 → Ev (fun k => spec_l07Length.l0 k (n : Int) (strOfNums acc)) (strOfNums ((128 + ((be n ++ acc).length : Int)) % 256 :: (be n ++ acc))) := by
  induction n using Nat.strongRecOn with
  | _ n ih =>
    intro acc hl hn
    refine Ev.step (fun k => by rw [spec_l07Length.l0]) ?_
    by_cases h : 0 < n
    · refine ev_pos (by omega) ?_
      have e1 : wrap64 (Int.tdiv (n : Int) 256) = ((n / 256 : Nat) : Int) := by rw [show (256 : Int) = ((256 : Nat) : Int) from rfl, tdivN]; exact w64 (by omega) (by omega)
      have e2 : Int.tmod (n : Int) 256 % 256 = ((n % 256 : Nat) : Int) := by
        rw [show (256 : Int) = ((256 : Nat) : Int) from rfl, tmodN]; omega
      rw [e1, e2]
      refine Ev.bind (g := fun _ => some [((n % 256 : Nat) : Int)]) (Ev.now _) ?_
      rw [str_append]
      rw [be, if_pos h, List.append_assoc] at hl
      have hz : (strOfNums [((n % 256 : Nat) : Int)]).size + (strOfNums acc).size ≤ 9223372036854775807 := by
        rw [strOfNums_size, strOfNums_size]
        have := hl
        simp at this ⊢
        omega
      refine ev_pos hz ?_
      have := ih (n / 256) (by omega) ([((n % 256 : Nat) : Int)] ++ acc) hl (by omega)
      rw [be, if_pos h, List.append_assoc]
      exact this
    · refine ev_neg (by omega) ?_
      have e0 : be n = [] := by rw [be, if_neg h]
      rw [e0, List.nil_append] at hl ⊢
      rw [strOfNums_size, w64 (by omega) (by omega)]
      refine Ev.bind (g := fun _ => some [(128 + (acc.length : Int)) % 256]) (Ev.now _) ?_
      refine ev_pos (by rw [strOfNums_size]; simp; omega) ?_
      rw [str_append]
      exact Ev.now _
theorem spec_len (n : Nat) (hn : n < 1099511627776) : Ev (fun k => spec_l07Length.f k (n : Int)) (strOfNums (lenL n)) := by
  simp only [spec_l07Length.f]
  unfold lenL
  by_cases h : n < 128
  · rw [if_pos h]
    exact ev_pos (by omega) (Ev.now _)
  · rw [if_neg h]
    refine ev_neg (by omega) ?_
    have hb := be_len_k 5 n (by rw [show (256 : Nat) ^ 5 = 1099511627776 by decide]; exact hn)
    have := spec_len_loop n [] (by rw [List.append_nil]; omega) hn
    rw [List.append_nil] at this
    exact this
theorem impl_len_loop (n : Nat) : ∀ acc : List Int, (be n ++ acc).length ≤ 1000 → n < 1099511627776 → Ev (fun k => impl_lengthText.l0 k acc (n : Int)) (strOfNums ((128 + ((be n ++ acc).length : Int)) % 256 :: (be n ++ acc))) := by
  induction n using Nat.strongRecOn with
  | _ n ih =>
    intro acc hl hn
    refine Ev.step (fun k => by rw [impl_lengthText.l0]) ?_
    by_cases h : 0 < n
    · refine ev_pos (by omega) ?_
      have e1 : (n : Int) / 256 = ((n / 256 : Nat) : Int) := by omega
      have e2 : (n : Int) % 256 = ((n % 256 : Nat) : Int) := by omega
      rw [e1, e2]
      refine Ev.bind (g := fun _ => some [((n % 256 : Nat) : Int)]) (Ev.now _) ?_
      rw [be, if_pos h, List.append_assoc] at hl
      refine ev_pos (by have := hl; simp at this ⊢; omega) ?_
      have := ih (n / 256) (by omega) ([((n % 256 : Nat) : Int)] ++ acc) hl (by omega)
      rw [be, if_pos h, List.append_assoc]
      exact this
    · refine ev_neg (by omega) ?_
      have e0 : be n = [] := by rw [be, if_neg h]
      rw [e0, List.nil_append] at hl ⊢
      rw [w64 (by omega) (by omega)]
      refine Ev.bind (g := fun _ => some [(128 + (acc.length : Int)) % 256]) (Ev.now _) ?_
      exact ev_pos (by simp; omega) (Ev.now _)
theorem impl_len (n : Nat) (hn : n < 1099511627776) : Ev (fun k => impl_lengthText.f k (n : Int)) (strOfNums (lenL n)) := by
  simp only [impl_lengthText.f]
  unfold lenL
  by_cases h : n < 128
  · rw [if_pos h]
    exact ev_pos (by omega) (Ev.now _)
  · rw [if_neg h]
    refine ev_neg (by omega) ?_
    have hb := be_len_k 5 n (by rw [show (256 : Nat) ^ 5 = 1099511627776 by decide]; exact hn)
    have := impl_len_loop n [] (by rw [List.append_nil]; omega) hn
    rw [List.append_nil] at this
    exact this
def inL (tag : Int) (s : List Int) : List Int := tag % 256 :: (lenL s.length ++ s)
def textL : Nat → S26 → List Int
  | 0, _ => []
  | n + 1, x => inL x.f0 (if x.f0 = 48 then x.f2.flatMap (textL n) else bytesOf x.f1)
def wtL : Nat → S26 → Nat
  | 0, _ => 0
  | n + 1, x => x.f1.size + (x.f2.length + (x.f2.map (wtL n)).sum)
theorem flat_len {α : Type} (f : α → List Int) (g : α → Nat) : ∀ l : List α, (∀ y ∈ l, (f y).length ≤ 7 * (1 + g y)) → (l.flatMap f).length ≤ 7 * (l.length + (l.map g).sum)
  | [], _ => by simp
  | y :: l, h => by
    have h1 := h y List.mem_cons_self
    have h2 := flat_len f g l (fun z hz => h z (List.mem_cons_of_mem _ hz))
    rw [List.flatMap_cons, List.length_append, List.length_cons, List.map_cons, List.sum_cons]
    omega
theorem inL_len (tag : Int) (s : List Int) (h : s.length < 1099511627776) : (inL tag s).length ≤ 7 + s.length := by
  have := lenL_len s.length h
  unfold inL
  simp; omega
theorem text_len : ∀ (n : Nat) (x : S26), wtL n x ≤ 16777216 → (textL n x).length ≤ 7 * (1 + wtL n x)
  | 0, _, _ => by simp [textL]
  | n + 1, x, hb => by
    have e : wtL (n + 1) x = x.f1.size + (x.f2.length + (x.f2.map (wtL n)).sum) := rfl
    have f := flat_len (textL n) (wtL n) x.f2 (fun y hy => text_len n y (by have := le_sum (wtL n) x.f2 y hy; omega))
    have b := bytesOf_length x.f1
    show (inL x.f0 (if x.f0 = 48 then x.f2.flatMap (textL n) else bytesOf x.f1)).length ≤ _
    split
    · have := inL_len x.f0 (x.f2.flatMap (textL n)) (by omega)
      omega
    · have := inL_len x.f0 (bytesOf x.f1) (by omega)
      omega
theorem spec_in {g : Nat → Option ByteArray} (tag : Int) (s : List Int) (h : s.length < 1000000000) (hg : Ev g (strOfNums (lenL s.length))) :
    Ev (fun k => (some ([tag % 256] : List Int)).bind fun y => (g k).bind fun t => if (strOfNums y).size + t.size ≤ 9223372036854775807 then (if ((strOfNums y) ++ t).size + (strOfNums s).size ≤ 9223372036854775807 then some (((strOfNums y) ++ t) ++ strOfNums s) else none) else none) (strOfNums (inL tag s)) := by
  have hl := lenL_len s.length (by omega)
  refine Ev.bind (g := fun _ => some [tag % 256]) (Ev.now _) (Ev.bind hg ?_)
  rw [str_append, str_append, strOfNums_size, strOfNums_size, strOfNums_size, strOfNums_size]
  refine ev_pos (by simp; omega) (ev_pos (by simp; omega) ?_)
  rw [show [tag % 256] ++ lenL s.length ++ s = inL tag s by unfold inL; simp]
  exact Ev.now _
theorem ok_nil {n : Nat} {x : S26} {d : Int} (h : okV (n + 1) x d = true) (c : x.f0 = 48) : x.f1.toList = ([] : List UInt8) ∧ ∀ y ∈ x.f2, okV n y (d + 1) = true := by
  have h2 : (if x.f0 = 48 then (if x.f1.toList = ([] : List UInt8) ∧ x.f2.length ≤ 40 ∧ d < 6 then x.f2.all (fun y => okV n y (d + 1)) else false) else (if x.f2.length = 0 then plainV x else false)) = true := h
  rw [if_pos c] at h2
  split at h2
  · rename_i q
    exact ⟨q.1, List.all_eq_true.1 h2⟩
  · cases h2
theorem empty_of (t : ByteArray) (h : t.toList = ([] : List UInt8)) : t = strOfNums [] := by
  rw [ByteArray.toList_eq] at h
  apply ByteArray.ext
  exact Array.toList_inj.1 h
theorem flat_step {l : List S26} {n i : Nat} (h : i < l.length) : (l.take (i + 1)).flatMap (textL n) = (l.take i).flatMap (textL n) ++ textL n l[i] := by
  rw [List.take_succ_eq_append_getElem h, List.flatMap_append]
  simp
theorem flat_take {l : List S26} (n i : Nat) (hb : l.length + (l.map (wtL n)).sum ≤ 16777216) : ((l.take i).flatMap (textL n)).length ≤ 134217728 := by
  have h := flat_len (textL n) (wtL n) l (fun y hy => text_len n y (by have := le_sum (wtL n) l y hy; omega))
  have e : l.flatMap (textL n) = (l.take i).flatMap (textL n) ++ (l.drop i).flatMap (textL n) := by rw [← List.flatMap_append, List.take_append_drop]
  rw [e, List.length_append] at h
  omega
theorem inL_rng (tag : Int) (s : List Int) (h : ∀ x ∈ s, 0 ≤ x ∧ x < 256) : ∀ x ∈ inL tag s, 0 ≤ x ∧ x < 256 := by
  intro x hx
  unfold inL at hx
  rcases List.mem_cons.1 hx with rfl | hx
  · omega
  · rcases List.mem_append.1 hx with hx | hx
    · exact lenL_rng _ x hx
    · exact h x hx
theorem text_rng : ∀ (n : Nat) (x : S26), ∀ b ∈ textL n x, 0 ≤ b ∧ b < 256
  | 0, _, b, h => by cases h
  | n + 1, x, b, h => by
    refine inL_rng x.f0 (if x.f0 = 48 then x.f2.flatMap (textL n) else bytesOf x.f1) (fun c hc => ?_) b h
    split at hc
    · obtain ⟨y, _, hy⟩ := List.mem_flatMap.1 hc
      exact text_rng n y c hy
    · exact bytes_rng _ c hc
theorem spec_text : ∀ (n : Nat) (x : S26) (d : Int), WL n x → okV n x d = true → wtL n x ≤ 16777216 → Ev (fun k => spec_l07Text.f k x.f0 x.f1 x.f2) (strOfNums (textL n x))
  | 0, _, _, h, _, _ => h.elim
  | n + 1, x, d, ⟨hs, hl, hk⟩, ho, hb => by
    have e : wtL (n + 1) x = x.f1.size + (x.f2.length + (x.f2.map (wtL n)).sum) := rfl
    refine Ev.step (fun k => by rw [spec_l07Text.f]) ?_
    show Ev _ (strOfNums (inL x.f0 (if x.f0 = 48 then x.f2.flatMap (textL n) else bytesOf x.f1)))
    by_cases c : x.f0 = 48
    · obtain ⟨he, hko⟩ := ok_nil ho c
      refine ev_pos c ?_
      rw [if_pos c]
      have loop : ∀ (m i : Nat), i + m = x.f2.length → Ev (fun k => spec_l07Text.l0 k (strOfNums ((x.f2.take i).flatMap (textL n))) (i : Int) x.f0 x.f1 x.f2) (strOfNums (inL x.f0 (x.f2.flatMap (textL n)))) := by
        intro m
        induction m with
        | zero =>
          intro i hi
          refine Ev.step (fun k => by rw [spec_l07Text.l0]) (ev_neg (by omega) ?_)
          have hlen := flat_take (l := x.f2) n i (by omega)
          rw [List.take_of_length_le (by omega)] at hlen ⊢
          refine spec_in _ _ (by omega) ?_
          rw [strOfNums_size]
          exact spec_len _ (by omega)
        | succ m ih =>
          intro i hi
          have hlt : i < x.f2.length := by omega
          have hm := List.getElem_mem hlt
          refine Ev.step (fun k => by rw [spec_l07Text.l0]) (ev_pos (by omega) (ev_pos (by omega) ?_))
          rw [rdL x.f2 i hlt]
          have hw := le_sum (wtL n) x.f2 _ hm
          refine Ev.bind (spec_text n x.f2[i] (d + 1) (hk _ hm) (hko _ hm) (by omega)) ?_
          rw [str_append, ← flat_step hlt]
          have hlen := flat_take (l := x.f2) n (i + 1) (by omega)
          rw [flat_step hlt, List.length_append] at hlen
          rw [strOfNums_size, strOfNums_size]
          refine ev_pos (by omega) ?_
          rw [show wrap64 ((i : Int) + 1) = ((i + 1 : Nat) : Int) by rw [w64 (by omega) (by omega)]; omega]
          exact ih (i + 1) (by omega)
      have := loop x.f2.length 0 (by omega)
      rw [empty_of _ he] at this ⊢
      exact this
    · refine ev_neg c ?_
      rw [if_neg c]
      have b := bytesOf_length x.f1
      have := spec_in (g := fun k => spec_l07Length.f k (x.f1.size : Int)) x.f0 (bytesOf x.f1) (by omega) (by rw [b]; exact spec_len _ (by omega))
      rw [str_bytes] at this
      exact this
theorem impl_text : ∀ (n : Nat) (x : S26) (d : Int), WL n x → okV n x d = true → wtL n x ≤ 16777216 → Ev (fun k => impl_itemText.f k x.f0 x.f1 x.f2) (strOfNums (textL n x))
  | 0, _, _, h, _, _ => h.elim
  | n + 1, x, d, ⟨hs, hl, hk⟩, ho, hb => by
    have e : wtL (n + 1) x = x.f1.size + (x.f2.length + (x.f2.map (wtL n)).sum) := rfl
    refine Ev.step (fun k => by rw [impl_itemText.f]) ?_
    show Ev _ (strOfNums (inL x.f0 (if x.f0 = 48 then x.f2.flatMap (textL n) else bytesOf x.f1)))
    by_cases c : x.f0 = 48
    · obtain ⟨he, hko⟩ := ok_nil ho c
      refine ev_pos c ?_
      rw [if_pos c]
      have loop : ∀ (m i : Nat), i + m = x.f2.length → Ev (fun k => impl_itemText.l0 k ((x.f2.take i).flatMap (textL n)) x.f2 (x.f2.length : Int) (i : Int) x.f0 x.f1 x.f2) (strOfNums (inL x.f0 (x.f2.flatMap (textL n)))) := by
        intro m
        induction m with
        | zero =>
          intro i hi
          refine Ev.step (fun k => by rw [impl_itemText.l0]) (ev_neg (by omega) ?_)
          have hlen := flat_take (l := x.f2) n i (by omega)
          rw [List.take_of_length_le (by omega)] at hlen ⊢
          refine spec_in _ _ (by omega) ?_
          rw [strOfNums_size]
          exact impl_len _ (by omega)
        | succ m ih =>
          intro i hi
          have hlt : i < x.f2.length := by omega
          have hm := List.getElem_mem hlt
          refine Ev.step (fun k => by rw [impl_itemText.l0]) (ev_pos (by omega) (ev_pos (by omega) (ev_pos (by omega) ?_)))
          rw [rdL x.f2 i hlt]
          have hw := le_sum (wtL n) x.f2 _ hm
          refine Ev.bind (impl_text n x.f2[i] (d + 1) (hk _ hm) (hko _ hm) (by omega)) ?_
          rw [bytes_str _ (text_rng n _), ← flat_step hlt]
          have hlen := flat_take (l := x.f2) n (i + 1) (by omega)
          rw [flat_step hlt, List.length_append] at hlen
          rw [strOfNums_size]
          refine ev_pos (by omega) ?_
          rw [show wrap64 ((i : Int) + 1) = ((i + 1 : Nat) : Int) by rw [w64 (by omega) (by omega)]; omega]
          exact ih (i + 1) (by omega)
      exact loop x.f2.length 0 (by omega)
    · refine ev_neg c ?_
      rw [if_neg c]
      have b := bytesOf_length x.f1
      have := spec_in (g := fun k => impl_lengthText.f k (x.f1.size : Int)) x.f0 (bytesOf x.f1) (by omega) (by rw [b]; exact impl_len _ (by omega))
      rw [str_bytes] at this
      exact this
def itemTextV (n : Nat) (x : S26) : ByteArray × Bool := if okV n x 0 = true ∧ (textL n x).length ≤ 4000 then (strOfNums (textL n x), true) else (⟨#[]⟩, false)
theorem spec_ItemText_ev (n : Nat) (x : S26) (hw : WL n x) (hb : wtL n x ≤ 16777216) : Ev (fun k => spec_ItemText.f k x.f0 x.f1 x.f2) (itemTextV n x) := by
  simp only [spec_ItemText.f, spec_ItemOk.f]
  refine Ev.bind (Ev.bind (spec_ok n x 0 hw (by omega) (by omega)) (Ev.now _)) ?_
  unfold itemTextV
  cases ho : okV n x 0 with
  | false =>
    rw [if_neg (fun h => Bool.false_ne_true h.1)]
    exact ev_neg Bool.false_ne_true (Ev.now _)
  | true =>
    refine ev_pos rfl (Ev.bind (spec_text n x 0 hw ho hb) ?_)
    rw [strOfNums_size]
    by_cases h : (textL n x).length ≤ 4000
    · refine ev_neg (by omega) ?_
      rw [if_pos ⟨rfl, h⟩]
      exact Ev.now _
    · refine ev_pos (by omega) ?_
      rw [if_neg (fun q => h q.2)]
      exact Ev.now _
theorem impl_ItemText_ev (n : Nat) (x : S26) (hw : WL n x) (hb : wtL n x ≤ 16777216) : Ev (fun k => impl_ItemText.f k x.f0 x.f1 x.f2) (itemTextV n x) := by
  simp only [impl_ItemText.f, impl_ItemOk.f]
  refine Ev.bind (Ev.bind (impl_ok n x 0 hw (by omega) (by omega)) (Ev.now _)) ?_
  unfold itemTextV
  cases ho : okV n x 0 with
  | false =>
    rw [if_neg (fun h => Bool.false_ne_true h.1)]
    exact ev_neg Bool.false_ne_true (Ev.now _)
  | true =>
    refine ev_pos rfl (Ev.bind (impl_text n x 0 hw ho hb) ?_)
    rw [strOfNums_size]
    by_cases h : (textL n x).length ≤ 4000
    · refine ev_neg (by omega) ?_
      rw [if_pos ⟨rfl, h⟩]
      exact Ev.now _
    · refine ev_pos (by omega) ?_
      rw [if_neg (fun q => h q.2)]
      exact Ev.now _

/-! A letter's body as a tree: both sides make it. -/
def intT (a : Int) : S26 := ⟨2, strOfNums (intL (intN a)), []⟩
def txtT (tag : Int) (s : ByteArray) : S26 := ⟨tag, s, []⟩
def boolT (b : Bool) : S26 := ⟨1, if b = true then (⟨#[255]⟩ : ByteArray) else (⟨#[0]⟩ : ByteArray), []⟩
def listT (l : List S26) : S26 := ⟨48, (⟨#[]⟩ : ByteArray), l⟩
def bodyL (a0 : Int) (a1 a2 : ByteArray) (a3 a4 : Int) (a5 : ByteArray) (a6 : Bool) (a7 a8 : Int) (l9 : List Int) (l10 l11 : List ByteArray) : List S26 :=
  [intT a0, txtT 12 a1, listT [intT a3, intT a4], txtT 12 a2, txtT 4 a5, boolT a6, intT a7, intT a8, listT (l9.map intT), listT (l10.map (txtT 12)), listT (l11.map (txtT 12))]
theorem intT_size (a : Int) : (intT a).f1.size ≤ 5 := by
  show (strOfNums (intL (intN a))).size ≤ 5
  rw [strOfNums_size]
  refine intL_len _ ?_
  unfold intN
  split
  · omega
  · omega
theorem intT_WL (n : Nat) (a : Int) : WL (n + 1) (intT a) := WL_flat n _ _ (by have := intT_size a; unfold intT at this; exact Nat.le_trans this (by omega))
theorem spec_intT (a : Int) : Ev (fun k => spec_IntItem.f k a) ((intT a).f0, (intT a).f1, (intT a).f2) := spec_int_ev a
theorem impl_intT (a : Int) : Ev (fun k => impl_IntItem.f k a) ((intT a).f0, (intT a).f1, (intT a).f2) := impl_int_ev a
theorem map_snoc {α β : Type} (f : α → β) (l : List α) (i : Nat) (h : i < l.length) : (l.take (i + 1)).map f = (l.take i).map f ++ [f l[i]] := by
  rw [List.take_succ_eq_append_getElem h, List.map_append]
  rfl
theorem rdI (l : List Int) (i : Nat) (h : i < l.length) : rd l (i : Int) = l[i] := by
  simp [rd, List.getD_eq_getElem?_getD, List.getElem?_eq_getElem h]
theorem spec_ints (l : List Int) (hl : l.length ≤ 1048576) : Ev (fun k => spec_l09Ints.f k l) (48, (⟨#[]⟩ : ByteArray), l.map intT) := by
  have loop : ∀ (d i : Nat), i + d = l.length → Ev (fun k => spec_l09Ints.l0 k l (i : Int) 48 (⟨#[]⟩ : ByteArray) ((l.take i).map intT)) (48, (⟨#[]⟩ : ByteArray), l.map intT) := by
    intro d
    induction d with
    | zero =>
      intro i hi
      refine Ev.step (fun k => by rw [spec_l09Ints.l0]) (ev_neg (by omega) ?_)
      rw [List.take_of_length_le (by omega)]
      exact Ev.now _
    | succ d ih =>
      intro i hi
      have hlt : i < l.length := by omega
      have ht : ((l.take i).map intT).length < 2932031007402 := by rw [List.length_map, List.length_take]; omega
      refine Ev.step (fun k => by rw [spec_l09Ints.l0]) (ev_pos (by omega) (ev_pos (by omega) ?_))
      rw [rdI l i hlt, show wrap64 ((i : Int) + 1) = ((i + 1 : Nat) : Int) by rw [w64 (by omega) (by omega)]; omega]
      refine Ev.bind (spec_intT l[i]) (ev_pos ht ?_)
      have h := ih (i + 1) (by omega)
      rw [map_snoc intT l i hlt] at h
      exact h
  simp only [spec_l09Ints.f]
  exact loop l.length 0 (by omega)
theorem impl_ints (l : List Int) (hl : l.length ≤ 1048576) : Ev (fun k => impl_each_int.f k l 0) (48, (⟨#[]⟩ : ByteArray), l.map intT) := by
  have loop : ∀ (d i : Nat), i + d = l.length → Ev (fun k => impl_each_int.l0 k l (l.length : Int) (i : Int) 48 (⟨#[]⟩ : ByteArray) ((l.take i).map intT)) (48, (⟨#[]⟩ : ByteArray), l.map intT) := by
    intro d
    induction d with
    | zero =>
      intro i hi
      refine Ev.step (fun k => by rw [impl_each_int.l0]) (ev_neg (by omega) ?_)
      rw [List.take_of_length_le (by omega)]
      exact Ev.now _
    | succ d ih =>
      intro i hi
      have hlt : i < l.length := by omega
      have ht : ((l.take i).map intT).length < 2932031007402 := by rw [List.length_map, List.length_take]; omega
      refine Ev.step (fun k => by rw [impl_each_int.l0]) (ev_pos (by omega) (ev_pos (by omega) (ev_pos (by omega) ?_)))
      rw [rdI l i hlt, show wrap64 ((i : Int) + 1) = ((i + 1 : Nat) : Int) by rw [w64 (by omega) (by omega)]; omega]
      refine Ev.bind (impl_intT l[i]) (ev_pos ht ?_)
      have h := ih (i + 1) (by omega)
      rw [map_snoc intT l i hlt] at h
      exact h
  simp only [impl_each_int.f]
  exact loop l.length 0 (by omega)
theorem spec_txts (l : List ByteArray) (hl : l.length ≤ 1048576) : Ev (fun k => spec_l09Texts.f k l) (48, (⟨#[]⟩ : ByteArray), l.map (txtT 12)) := by
  have loop : ∀ (d i : Nat), i + d = l.length → Ev (fun k => spec_l09Texts.l0 k l (i : Int) 48 (⟨#[]⟩ : ByteArray) ((l.take i).map (txtT 12))) (48, (⟨#[]⟩ : ByteArray), l.map (txtT 12)) := by
    intro d
    induction d with
    | zero =>
      intro i hi
      refine Ev.step (fun k => by rw [spec_l09Texts.l0]) (ev_neg (by omega) ?_)
      rw [List.take_of_length_le (by omega)]
      exact Ev.now _
    | succ d ih =>
      intro i hi
      have hlt : i < l.length := by omega
      have ht : ((l.take i).map (txtT 12)).length < 2932031007402 := by rw [List.length_map, List.length_take]; omega
      refine Ev.step (fun k => by rw [spec_l09Texts.l0]) (ev_pos (by omega) (ev_pos (by omega) ?_))
      rw [rdS l i hlt, show wrap64 ((i : Int) + 1) = ((i + 1 : Nat) : Int) by rw [w64 (by omega) (by omega)]; omega]
      refine Ev.bind (g := fun _ => spec_TextItem.f l[i]) (a := ((12 : Int), l[i], ([] : List S26))) (show Ev (fun _ => some ((12 : Int), l[i], ([] : List S26))) _ from Ev.now _) (ev_pos ht ?_)
      have h := ih (i + 1) (by omega)
      rw [map_snoc (txtT 12) l i hlt] at h
      exact h
  simp only [spec_l09Texts.f]
  exact loop l.length 0 (by omega)
theorem impl_txts (l : List ByteArray) (hl : l.length ≤ 1048576) : Ev (fun k => impl_each_string.f k l 0) (48, (⟨#[]⟩ : ByteArray), l.map (txtT 12)) := by
  have loop : ∀ (d i : Nat), i + d = l.length → Ev (fun k => impl_each_string.l0 k l (l.length : Int) (i : Int) 48 (⟨#[]⟩ : ByteArray) ((l.take i).map (txtT 12))) (48, (⟨#[]⟩ : ByteArray), l.map (txtT 12)) := by
    intro d
    induction d with
    | zero =>
      intro i hi
      refine Ev.step (fun k => by rw [impl_each_string.l0]) (ev_neg (by omega) ?_)
      rw [List.take_of_length_le (by omega)]
      exact Ev.now _
    | succ d ih =>
      intro i hi
      have hlt : i < l.length := by omega
      have ht : ((l.take i).map (txtT 12)).length < 2932031007402 := by rw [List.length_map, List.length_take]; omega
      refine Ev.step (fun k => by rw [impl_each_string.l0]) (ev_pos (by omega) (ev_pos (by omega) (ev_pos (by omega) ?_)))
      rw [rdS l i hlt, show wrap64 ((i : Int) + 1) = ((i + 1 : Nat) : Int) by rw [w64 (by omega) (by omega)]; omega]
      refine Ev.bind (g := fun _ => impl_TextItem.f l[i]) (a := ((12 : Int), l[i], ([] : List S26))) (show Ev (fun _ => some ((12 : Int), l[i], ([] : List S26))) _ from Ev.now _) (ev_pos ht ?_)
      have h := ih (i + 1) (by omega)
      rw [map_snoc (txtT 12) l i hlt] at h
      exact h
  simp only [impl_each_string.f]
  exact loop l.length 0 (by omega)
theorem spec_boolT (b : Bool) : spec_l09Bool.f b = some ((boolT b).f0, (boolT b).f1, (boolT b).f2) := by cases b <;> rfl
theorem impl_boolT (b : Bool) : impl_boolItem.f b = some ((boolT b).f0, (boolT b).f1, (boolT b).f2) := by cases b <;> rfl
section
variable (a0 : Int) (a1 a2 : ByteArray) (a3 a4 : Int) (a5 : ByteArray) (a6 : Bool) (a7 a8 : Int) (l9 : List Int) (l10 l11 : List ByteArray) (a12 : ByteArray)
/-- What a letter weighs, as the law counts it. -/
def wtC : Nat := a1.size + a2.size + a5.size + l9.length + (l10.length + wtS l10) + (l11.length + wtS l11) + a12.size
theorem spec_body (h9 : l9.length ≤ 1048576) (h10 : l10.length ≤ 1048576) (h11 : l11.length ≤ 1048576) :
    Ev (fun k => spec_BodyItem.f k a0 a1 a2 a3 a4 a5 a6 a7 a8 l9 l10 l11 a12) (48, (⟨#[]⟩ : ByteArray), bodyL a0 a1 a2 a3 a4 a5 a6 a7 a8 l9 l10 l11) := by
  simp only [spec_BodyItem.f]
  refine Ev.bind (spec_intT a3) (Ev.bind (spec_intT a4) (Ev.bind (spec_intT a0) (Ev.bind (g := fun _ => spec_TextItem.f a1) (a := (12, a1, [])) (Ev.now _) (Ev.bind (g := fun _ => spec_TextItem.f a2) (a := (12, a2, [])) (Ev.now _) (Ev.bind (g := fun _ => spec_l09Bytes.f a5) (a := (4, a5, [])) (Ev.now _) (Ev.bind (g := fun _ => spec_l09Bool.f a6) (a := ((boolT a6).f0, (boolT a6).f1, (boolT a6).f2)) (by rw [spec_boolT]; exact Ev.now _) (Ev.bind (spec_intT a7) (Ev.bind (spec_intT a8) (Ev.bind (spec_ints l9 h9) (Ev.bind (spec_txts l10 h10) (Ev.bind (spec_txts l11 h11) ?_)))))))))))
  exact Ev.now _
theorem two_WL (x y : S26) (hx : WL 1 x) (hy : WL 1 y) : ∀ z ∈ [x, y], WL 1 z := fun z hz => by
  rcases List.mem_cons.1 hz with rfl | hz
  · exact hx
  · obtain rfl := List.mem_singleton.1 hz
    exact hy
theorem list_WL (n : Nat) (l : List S26) (hl : l.length ≤ 1048576) (h : ∀ y ∈ l, WL n y) : WL (n + 1) (listT l) := ⟨by show 0 ≤ 1048576; omega, hl, h⟩
theorem body_WL (hw : wtC a1 a2 a5 l9 l10 l11 a12 ≤ 1048576) : ∀ y ∈ bodyL a0 a1 a2 a3 a4 a5 a6 a7 a8 l9 l10 l11, WL 2 y := by
  unfold wtC at hw
  have tx : ∀ (t : Int) (s : ByteArray), s.size ≤ 1048576 → WL 2 (txtT t s) := fun t s h => WL_flat 1 _ _ h
  have ts : ∀ l : List ByteArray, l.length + wtS l ≤ 1048576 → WL 2 (listT (l.map (txtT 12))) := fun l h => list_WL 1 _ (by rw [List.length_map]; omega) (fun y hy => by
    obtain ⟨s, hs, rfl⟩ := List.mem_map.1 hy
    exact WL_flat 0 _ _ (by have := wtS_mem l s hs; omega))
  intro y hy
  unfold bodyL at hy
  simp only [List.mem_cons, List.not_mem_nil, or_false] at hy
  rcases hy with rfl | rfl | rfl | rfl | rfl | rfl | rfl | rfl | rfl | rfl | rfl
  · exact intT_WL 1 _
  · exact tx _ _ (by omega)
  · exact list_WL 1 _ (by simp) (two_WL _ _ (intT_WL 0 _) (intT_WL 0 _))
  · exact tx _ _ (by omega)
  · exact tx _ _ (by omega)
  · exact WL_flat 1 _ _ (by cases a6 <;> decide)
  · exact intT_WL 1 _
  · exact intT_WL 1 _
  · exact list_WL 1 _ (by rw [List.length_map]; omega) (fun y hy => by
      obtain ⟨s, hs, rfl⟩ := List.mem_map.1 hy
      exact intT_WL 0 _)
  · exact ts _ (by omega)
  · exact ts _ (by omega)
theorem impl_body (hw : wtC a1 a2 a5 l9 l10 l11 a12 ≤ 1048576) :
    Ev (fun k => impl_BodyItem.f k a0 a1 a2 a3 a4 a5 a6 a7 a8 l9 l10 l11 a12) (48, (⟨#[]⟩ : ByteArray), bodyL a0 a1 a2 a3 a4 a5 a6 a7 a8 l9 l10 l11) := by
  have hb := body_WL a0 a1 a2 a3 a4 a5 a6 a7 a8 l9 l10 l11 a12 hw
  unfold wtC at hw
  simp only [impl_BodyItem.f]
  refine Ev.bind (impl_intT a3) (Ev.bind (impl_intT a4) (Ev.bind (impl_list 1 [intT a3, intT a4] (by simp) (two_WL _ _ (intT_WL 0 _) (intT_WL 0 _))) (Ev.bind (impl_intT a0) (Ev.bind (g := fun _ => impl_TextItem.f a1) (a := (12, a1, [])) (Ev.now _) (Ev.bind (g := fun _ => impl_TextItem.f a2) (a := (12, a2, [])) (Ev.now _) (Ev.bind (g := fun _ => impl_bytesItem.f a5) (a := (4, a5, [])) (Ev.now _) (Ev.bind (g := fun _ => impl_boolItem.f a6) (a := ((boolT a6).f0, (boolT a6).f1, (boolT a6).f2)) (by rw [impl_boolT]; exact Ev.now _) (Ev.bind (impl_intT a7) (Ev.bind (impl_intT a8) (Ev.bind (impl_ints l9 (by omega)) (Ev.bind (impl_txts l10 (by omega)) (Ev.bind (impl_txts l11 (by omega)) ?_))))))))))))
  exact Ev.bind (impl_list 2 (bodyL a0 a1 a2 a3 a4 a5 a6 a7 a8 l9 l10 l11) (by simp [bodyL]) hb) (Ev.now _)
/-- How heavy the tree is: at most six for each number, and what the texts weigh. -/
theorem wt_ints (l : List Int) : ((l.map intT).map (wtL 1)).sum ≤ 5 * l.length := by
  induction l with
  | nil => simp
  | cons x l ih =>
    have h : wtL 1 (intT x) ≤ 5 := by
      show (intT x).f1.size + 0 ≤ 5
      have := intT_size x
      omega
    rw [List.map_cons, List.map_cons, List.sum_cons, List.length_cons]
    omega
theorem wt_txts (l : List ByteArray) : ((l.map (txtT 12)).map (wtL 1)).sum = wtS l := by
  induction l with
  | nil => rfl
  | cons x l ih =>
    have h : wtL 1 (txtT 12 x) = x.size := rfl
    have e : wtS (x :: l) = x.size + wtS l := by unfold wtS; rw [List.map_cons, List.sum_cons]
    rw [List.map_cons, List.map_cons, List.sum_cons, h, ih, e]
theorem wt_body (hw : wtC a1 a2 a5 l9 l10 l11 a12 ≤ 1048576) : (bodyL a0 a1 a2 a3 a4 a5 a6 a7 a8 l9 l10 l11).length + ((bodyL a0 a1 a2 a3 a4 a5 a6 a7 a8 l9 l10 l11).map (wtL 2)).sum ≤ 16777216 := by
  unfold wtC at hw
  have i2 : ∀ a, wtL 2 (intT a) ≤ 5 := fun a => by
    show (intT a).f1.size + 0 ≤ 5
    have := intT_size a
    omega
  have q3 := wt_ints [a3, a4]
  have q9 := wt_ints l9
  have q10 := wt_txts l10
  have q11 := wt_txts l11
  have e1 : ∀ t (s : ByteArray), wtL 2 (txtT t s) = s.size := fun t s => rfl
  have e2 : ∀ l : List S26, wtL 2 (listT l) = l.length + (l.map (wtL 1)).sum := fun l => Nat.zero_add _
  have e3 : wtL 2 (boolT a6) = 1 := by cases a6 <;> rfl
  have h0 := i2 a0
  have h7 := i2 a7
  have h8 := i2 a8
  unfold bodyL
  simp only [List.map_cons, List.map_nil, List.sum_cons, List.sum_nil, List.length_cons, List.length_nil, e1, e2, e3, List.length_map] at q3 q9 q10 q11 h0 h7 h8 ⊢
  omega
end

theorem set_snoc (l : List Int) (i : Nat) (t : Int) (tl : List Int) (h : i < l.length) : (l.take i ++ t :: tl).set i (rd l i) = l.take (i + 1) ++ tl := by
  have hl : (l.take i).length = i := by rw [List.length_take]; omega
  have hr : rd l i = l[i] := by simp [rd, List.getD_eq_getElem?_getD, List.getElem?_eq_getElem h]
  rw [List.set_append_right _ _ (by omega), hl, Nat.sub_self, List.set_cons_zero, hr, List.take_succ_eq_append_getElem h, List.append_assoc]
  rfl
theorem toint_loop (l : List Int) (hl : l.length ≤ 1048576) : ∀ (d i : Nat) (tl : List Int), tl.length = d → i + d = l.length → Ev (fun k => laws_toIntS.l0 k l (l.take i ++ tl) (i : Int)) l := by
  intro d
  induction d with
  | zero =>
    intro i tl ht hi
    obtain rfl : tl = [] := List.eq_nil_of_length_eq_zero ht
    refine Ev.step (fun k => by rw [laws_toIntS.l0]) ?_
    refine ev_neg (by omega) ?_
    rw [List.append_nil, List.take_of_length_le (by omega)]
    exact Ev.now _
  | succ d ih =>
    intro i tl ht hi
    obtain ⟨t, tl, rfl⟩ : ∃ t tl', tl = t :: tl' := by cases tl with | nil => simp at ht | cons t tl => exact ⟨t, tl, rfl⟩
    refine Ev.step (fun k => by rw [laws_toIntS.l0]) ?_
    refine ev_pos (by omega) (ev_pos (by omega) (ev_pos ?_ ?_))
    · simp at ht; simp [List.length_take]; omega
    · rw [show wrap64 ((i : Int) + 1) = ((i + 1 : Nat) : Int) by rw [w64 (by omega) (by omega)]; omega, Int.toNat_natCast, set_snoc l i t tl (by omega)]
      exact ih (i + 1) tl (by simpa using ht) (by omega)
theorem toint (l : List Int) (hl : l.length ≤ 1048576) : Ev (fun k => laws_toIntS.f k l) l := by
  simp only [laws_toIntS.f]
  refine ev_pos (by omega) (ev_pos (by omega) ?_)
  have := toint_loop l hl l.length 0 (List.replicate l.length 0) (by simp) (by omega)
  simpa using this

theorem eqint_loop (l : List Int) (hl : l.length ≤ 1048576) : ∀ (d i : Nat), i + d = l.length → Ev (fun k => laws_eqIntS.l0 k l l (i : Int)) true := by
  intro d
  induction d with
  | zero =>
    intro i hi
    refine Ev.step (fun k => by rw [laws_eqIntS.l0]) ?_
    exact ev_neg (by omega) (Ev.now _)
  | succ d ih =>
    intro i hi
    refine Ev.step (fun k => by rw [laws_eqIntS.l0]) ?_
    refine ev_pos (by omega) (ev_pos (by omega) (ev_pos (by omega) (ev_pos rfl ?_)))
    rw [show wrap64 ((i : Int) + 1) = ((i + 1 : Nat) : Int) by rw [w64 (by omega) (by omega)]; omega]
    exact ih (i + 1) (by omega)
theorem eqint (l : List Int) (hl : l.length ≤ 1048576) : Ev (fun k => laws_eqIntS.f k l l) true := by
  simp only [laws_eqIntS.f]
  refine ev_pos trivial ?_
  exact eqint_loop l hl l.length 0 (by omega)

/-! A letter: weighed, made anew, compared, marked. -/
theorem less_step (b : Int) (w : Nat) (h0 : 0 ≤ b) (h1 : b ≤ 1048576) (hw : w ≤ 9223372036854775807) : wrap64 (b - (w : Int)) = b - (w : Int) := w64 (by omega) (by omega)
theorem sz_cert (a0 : Int) (a1 a2 : ByteArray) (a3 a4 : Int) (a5 : ByteArray) (a6 : Bool) (a7 a8 : Int) (l9 : List Int) (l10 l11 : List ByteArray) (a12 : ByteArray)
    (s1 : a1.size ≤ 9223372036854775807) (s2 : a2.size ≤ 9223372036854775807) (s5 : a5.size ≤ 9223372036854775807) (s12 : a12.size ≤ 9223372036854775807) (h9 : l9.length ≤ 9223372036854775807)
    (h10 : l10.length ≤ 9223372036854775807) (w10 : ∀ s ∈ l10, s.size ≤ 9223372036854775807) (h11 : l11.length ≤ 9223372036854775807) (w11 : ∀ s ∈ l11, s.size ≤ 9223372036854775807) :
    ∃ n : Int, Ev (fun k => laws_szCert.f k a0 a1 a2 a3 a4 a5 a6 a7 a8 l9 l10 l11 a12 1048576) n ∧ (¬ n < 0 → wtC a1 a2 a5 l9 l10 l11 a12 ≤ 1048576) := by
  simp only [laws_szCert.f, laws_szIntS.f]
  rw [less_step 1048576 a1.size (by omega) (by omega) s1]
  by_cases c1 : (1048576 : Int) - (a1.size : Int) < 0
  · exact ⟨-1, ev_pos c1 (Ev.now _), fun h => absurd (by omega) h⟩
  obtain ⟨b1, e1⟩ : ∃ b : Int, (1048576 : Int) - (a1.size : Int) = b := ⟨_, rfl⟩
  rw [e1] at c1 ⊢
  rw [less_step b1 a2.size (by omega) (by omega) s2]
  by_cases c2 : b1 - (a2.size : Int) < 0
  · exact ⟨-1, ev_neg c1 (ev_pos c2 (Ev.now _)), fun h => absurd (by omega) h⟩
  obtain ⟨b2, e2⟩ : ∃ b : Int, b1 - (a2.size : Int) = b := ⟨_, rfl⟩
  rw [e2] at c2 ⊢
  rw [less_step b2 a5.size (by omega) (by omega) s5]
  by_cases c5 : b2 - (a5.size : Int) < 0
  · exact ⟨-1, ev_neg c1 (ev_neg c2 (ev_pos c5 (Ev.now _))), fun h => absurd (by omega) h⟩
  obtain ⟨b5, e5⟩ : ∃ b : Int, b2 - (a5.size : Int) = b := ⟨_, rfl⟩
  rw [e5] at c5 ⊢
  rw [less_step b5 l9.length (by omega) (by omega) h9]
  by_cases c9 : b5 - (l9.length : Int) < 0
  · exact ⟨-1, ev_neg c1 (ev_neg c2 (ev_neg c5 (Ev.bind (g := fun _ => if b5 - (l9.length : Int) < 0 then some (-1) else some (b5 - (l9.length : Int))) (a := -1) (ev_pos c9 (Ev.now _)) (ev_pos (by omega) (Ev.now _))))), fun h => absurd (by omega) h⟩
  obtain ⟨b9, e9⟩ : ∃ b : Int, b5 - (l9.length : Int) = b := ⟨_, rfl⟩
  rw [e9] at c9 ⊢
  have g9 : Ev (fun _ : Nat => if b9 < 0 then some (-1) else some b9) b9 := ev_neg c9 (Ev.now _)
  have v10 := sz_strs l10 h10 w10 b9 (by omega) (by omega)
  by_cases c10 : ((l10.length + wtS l10 : Nat) : Int) ≤ b9
  · have x10 : lessV b9 (l10.length + wtS l10) = b9 - ((l10.length + wtS l10 : Nat) : Int) := if_pos c10
    rw [x10] at v10
    obtain ⟨b10, e10⟩ : ∃ b : Int, b9 - ((l10.length + wtS l10 : Nat) : Int) = b := ⟨_, rfl⟩
    rw [e10] at v10
    have v11 := sz_strs l11 h11 w11 b10 (by omega) (by omega)
    by_cases c11 : ((l11.length + wtS l11 : Nat) : Int) ≤ b10
    · have x11 : lessV b10 (l11.length + wtS l11) = b10 - ((l11.length + wtS l11 : Nat) : Int) := if_pos c11
      rw [x11] at v11
      obtain ⟨b11, e11⟩ : ∃ b : Int, b10 - ((l11.length + wtS l11 : Nat) : Int) = b := ⟨_, rfl⟩
      rw [e11] at v11
      have y12 := less_step b11 a12.size (by omega) (by omega) s12
      by_cases c12 : b11 - (a12.size : Int) < 0
      · refine ⟨-1, ev_neg c1 (ev_neg c2 (ev_neg c5 (Ev.bind g9 (ev_neg c9 (Ev.bind v10 (ev_neg (by omega) (Ev.bind v11 (ev_neg (by omega) ?_)))))))), fun h => absurd (by omega) h⟩
        rw [y12]
        exact ev_pos c12 (Ev.now _)
      · refine ⟨b11 - (a12.size : Int), ev_neg c1 (ev_neg c2 (ev_neg c5 (Ev.bind g9 (ev_neg c9 (Ev.bind v10 (ev_neg (by omega) (Ev.bind v11 (ev_neg (by omega) ?_)))))))), fun _ => ?_⟩
        · rw [y12]
          exact ev_neg c12 (Ev.now _)
        · unfold wtC
          omega
    · have x11 : lessV b10 (l11.length + wtS l11) = -1 := if_neg c11
      rw [x11] at v11
      exact ⟨-1, ev_neg c1 (ev_neg c2 (ev_neg c5 (Ev.bind g9 (ev_neg c9 (Ev.bind v10 (ev_neg (by omega) (Ev.bind v11 (ev_pos (by omega) (Ev.now _))))))))), fun h => absurd (by omega) h⟩
  · have x10 : lessV b9 (l10.length + wtS l10) = -1 := if_neg c10
    rw [x10] at v10
    exact ⟨-1, ev_neg c1 (ev_neg c2 (ev_neg c5 (Ev.bind g9 (ev_neg c9 (Ev.bind v10 (ev_pos (by omega) (Ev.now _))))))), fun h => absurd (by omega) h⟩
theorem to_cert (a0 : Int) (a1 a2 : ByteArray) (a3 a4 : Int) (a5 : ByteArray) (a6 : Bool) (a7 a8 : Int) (l9 : List Int) (l10 l11 : List ByteArray) (a12 : ByteArray) (h9 : l9.length ≤ 1048576) (h10 : l10.length ≤ 1048576) (h11 : l11.length ≤ 1048576) :
    Ev (fun k => laws_toCert.f k a0 a1 a2 a3 a4 a5 a6 a7 a8 l9 l10 l11 a12) (a0, a1, a2, a3, a4, a5, a6, a7, a8, l9, l10, l11, a12) := by
  simp only [laws_toCert.f]
  exact Ev.bind (toint l9 h9) (Ev.bind (tostr l10 h10) (Ev.bind (tostr l11 h11) (Ev.now _)))

theorem eq_cert (a0 : Int) (a1 a2 : ByteArray) (a3 a4 : Int) (a5 : ByteArray) (a6 : Bool) (a7 a8 : Int) (l9 : List Int) (l10 l11 : List ByteArray) (a12 : ByteArray) (h9 : l9.length ≤ 1048576) (h10 : l10.length ≤ 1048576) (h11 : l11.length ≤ 1048576) :
    Ev (fun k => laws_eqCert.f k a0 a1 a2 a3 a4 a5 a6 a7 a8 l9 l10 l11 a12 a0 a1 a2 a3 a4 a5 a6 a7 a8 l9 l10 l11 a12) true := by
  simp only [laws_eqCert.f]
  refine ev_pos (by first | rfl | trivial) (ev_pos (by first | rfl | trivial) (ev_pos (by first | rfl | trivial) (ev_pos (by first | rfl | trivial) (ev_pos (by first | rfl | trivial) (ev_pos (by first | rfl | trivial) (ev_neg (by simp) (ev_pos (by first | rfl | trivial) (ev_pos (by first | rfl | trivial) ?_))))))))
  exact Ev.bind (eqint l9 h9) (ev_pos rfl (Ev.bind (eqstr l10 h10) (ev_pos rfl (Ev.bind (eqstr l11 h11) (ev_pos rfl (ev_pos (by first | rfl | trivial) (Ev.now _)))))))

theorem FnExactBodyText : laws_FnExactBodyText.Pure := by
  intro a0 a1 a2 a3 a4 a5 a6 a7 a8 l9 l10 l11 a12 s1 s2 s5 s12 h9 h10 w10 h11 w11
  refine Ev.rounds (g := fun k => laws_FnExactBodyText.f k a0 a1 a2 a3 a4 a5 a6 a7 a8 l9 l10 l11 a12) ?_
  simp only [laws_FnExactBodyText.f]
  obtain ⟨n, en, hn⟩ := sz_cert a0 a1 a2 a3 a4 a5 a6 a7 a8 l9 l10 l11 a12 s1 s2 s5 s12 h9 h10 w10 h11 w11
  refine Ev.bind en ?_
  by_cases c : n < 0
  · exact ev_pos c (Ev.now _)
  have hw := hn c
  have b9 : l9.length ≤ 1048576 := by unfold wtC at hw; omega
  have b10 : l10.length ≤ 1048576 := by unfold wtC at hw; omega
  have b11 : l11.length ≤ 1048576 := by unfold wtC at hw; omega
  have hb := body_WL a0 a1 a2 a3 a4 a5 a6 a7 a8 l9 l10 l11 a12 hw
  have es := spec_body a0 a1 a2 a3 a4 a5 a6 a7 a8 l9 l10 l11 a12 b9 b10 b11
  have ei := impl_body a0 a1 a2 a3 a4 a5 a6 a7 a8 l9 l10 l11 a12 hw
  have wt := wt_body a0 a1 a2 a3 a4 a5 a6 a7 a8 l9 l10 l11 a12 hw
  have hl : (bodyL a0 a1 a2 a3 a4 a5 a6 a7 a8 l9 l10 l11).length ≤ 1048576 := by simp [bodyL]
  obtain ⟨L, hL⟩ : ∃ L, bodyL a0 a1 a2 a3 a4 a5 a6 a7 a8 l9 l10 l11 = L := ⟨_, rfl⟩
  rw [hL] at hb es ei wt hl
  have hW : WL 3 (⟨48, (⟨#[]⟩ : ByteArray), L⟩ : S26) := ⟨by show 0 ≤ 1048576; omega, hl, hb⟩
  have hwt : wtL 3 (⟨48, (⟨#[]⟩ : ByteArray), L⟩ : S26) ≤ 16777216 := by
    show 0 + (L.length + (L.map (wtL 2)).sum) ≤ 16777216
    omega
  have ts : Ev (fun k => spec_BodyText.f k a0 a1 a2 a3 a4 a5 a6 a7 a8 l9 l10 l11 a12) (itemTextV 3 (⟨48, (⟨#[]⟩ : ByteArray), L⟩ : S26)).1 := by
    simp only [spec_BodyText.f]
    exact Ev.bind es (Ev.bind (spec_ItemText_ev 3 (⟨48, (⟨#[]⟩ : ByteArray), L⟩ : S26) hW hwt) (Ev.now _))
  have ti : Ev (fun k => impl_BodyText.f k a0 a1 a2 a3 a4 a5 a6 a7 a8 l9 l10 l11 a12) (itemTextV 3 (⟨48, (⟨#[]⟩ : ByteArray), L⟩ : S26)).1 := by
    simp only [impl_BodyText.f]
    exact Ev.bind ei (Ev.bind (impl_ItemText_ev 3 (⟨48, (⟨#[]⟩ : ByteArray), L⟩ : S26) hW hwt) (Ev.now _))
  have tc := to_cert a0 a1 a2 a3 a4 a5 a6 a7 a8 l9 l10 l11 a12 b9 b10 b11
  exact ev_neg c (Ev.bind tc (Ev.bind ts (Ev.bind tc (Ev.bind ti (ev_pos rfl (Ev.bind tc (Ev.bind (eq_cert a0 a1 a2 a3 a4 a5 a6 a7 a8 l9 l10 l11 a12 b9 b10 b11) (ev_pos rfl (Ev.now _)))))))))

end Go.Proofs.Ytknalcnbkbkjdaa.Pure
