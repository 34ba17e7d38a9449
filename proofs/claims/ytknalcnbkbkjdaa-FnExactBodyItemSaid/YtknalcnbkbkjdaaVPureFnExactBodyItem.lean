/- The law FnExactBodyItem answers true for every argument: the program's BodyItem and the reference's come to the same answer. -/
import Derived.Test.YtknalcnbkbkjdaaVOFnExactBodyItem
set_option linter.unusedVariables false
set_option linter.unusedSimpArgs false
namespace Go.Proofs.Ytknalcnbkbkjdaa.Pure
open Go.RowKit Go.ChangeShapes Go.Proofs.Ytknalcnbkbkjdaa.GFnExactBodyItem Go.Proofs.Ytknalcnbkbkjdaa.GAFnExactBodyItem Go.Proofs.YtknalcnbkbkjdaaW.PrintWords Go.Proofs.YtknalcnbkbkjdaaW.PrintLast

theorem w64 {n : Int} (h0 : -9223372036854775808 ≤ n) (h1 : n ≤ 9223372036854775807) : wrap64 n = n := by unfold wrap64; omega
theorem ev_pos {α : Type} {c : Prop} [Decidable c] {f g : Nat → Option α} {r : α} (h : c) (k : Ev f r) : Ev (fun n => if c then f n else g n) r := by
  simpa only [if_pos h] using k
theorem ev_neg {α : Type} {c : Prop} [Decidable c] {f g : Nat → Option α} {r : α} (h : ¬ c) (k : Ev g r) : Ev (fun n => if c then f n else g n) r := by
  simpa only [if_neg h] using k
theorem tdivN (n m : Nat) : Int.tdiv (n : Int) (m : Int) = ((n / m : Nat) : Int) := rfl
theorem tmodN (n m : Nat) : Int.tmod (n : Int) (m : Int) = ((n % m : Nat) : Int) := rfl
theorem nums_toList (l : List Int) : (strOfNums l).toList = l.map fun n => UInt8.ofNat n.toNat := by rw [ByteArray.toList_eq, strOfNums_data]

def bN (s : ByteArray) : List Nat := s.data.toList.map UInt8.toNat
theorem bt_bN (s : ByteArray) (i : Nat) : bt s i = ((bN s).getD i 0 : Nat) := by
  unfold bt bN
  split
  · rename_i h
    have h' : i < s.data.toList.length := by rw [Array.length_toList]; exact h
    simp [List.getD_eq_getElem?_getD, List.getElem?_eq_getElem h']
    rfl
  · rename_i h
    have h' : s.data.toList.length ≤ i := by rw [Array.length_toList]; simpa using h
    simp [List.getD_eq_getElem?_getD, List.getElem?_eq_none h']
theorem str_append (l m : List Int) : strOfNums l ++ strOfNums m = strOfNums (l ++ m) := by
  apply ByteArray.ext
  rw [ByteArray.data_append]
  unfold strOfNums
  simp
theorem str_toList_nil (l : List Int) : (strOfNums l).toList = [] ↔ l = [] := by rw [nums_toList]; simp
theorem bt_str (l : List Int) (h : ∀ x ∈ l, 0 ≤ x ∧ x < 256) : bt (strOfNums l) 0 = l.getD 0 0 := by
  cases l with
  | nil => simp [bt, strOfNums, ByteArray.size]
  | cons x l =>
    have hx := h x (by simp)
    have e : bt (strOfNums (x :: l)) ((0 : Nat) : Int) = ((bN (strOfNums (x :: l))).getD 0 0 : Nat) := bt_bN _ 0
    have e2 : bN (strOfNums (x :: l)) = (x :: l).map fun n => (UInt8.ofNat n.toNat).toNat := by
      unfold bN
      rw [strOfNums_data, List.map_map]
      rfl
    rw [show bt (strOfNums (x :: l)) 0 = bt (strOfNums (x :: l)) ((0 : Nat) : Int) from rfl, e, e2]
    simp
    omega
def be (n : Nat) : List Int := if 0 < n then be (n / 256) ++ [((n % 256 : Nat) : Int)] else []
termination_by n
decreasing_by omega
theorem be_rng (n : Nat) : ∀ x ∈ be n, 0 ≤ x ∧ x < 256 := by
  induction n using Nat.strongRecOn with
  | _ n ih =>
    intro x hx
    rw [be] at hx
    split at hx
    · rcases List.mem_append.1 hx with h | h
      · exact ih (n / 256) (by omega) x h
      · simp at h; omega
    · simp at hx
theorem be_pos (n : Nat) (h : 0 < n) : be n ≠ [] := by rw [be, if_pos h]; simp
/-- The bytes of IntItem. -/
def intB (n : Nat) : List Int := if n = 0 then [0] else be n
def intL (n : Nat) : List Int := if 128 ≤ (intB n).getD 0 0 then 0 :: intB n else intB n
def intN (a : Int) : Nat := if 0 ≤ a ∧ a ≤ 1000000000 then a.toNat else 0
def intV (a : Int) : Int × ByteArray × List S26 := (2, strOfNums (intL (intN a)), [])

theorem spec_int (n : Nat) : ∀ acc : List Int, n + acc.length ≤ 2000000000 → Ev (fun k => spec_IntItem.l0 k (n : Int) (strOfNums acc)) (2, (if be n ++ acc = [] then strOfNums [0] else if 128 ≤ bt (strOfNums (be n ++ acc)) 0 then strOfNums (0 :: (be n ++ acc)) else strOfNums (be n ++ acc)), []) := by
  induction n using Nat.strongRecOn with
  | _ n ih =>
    intro acc hl
    refine Ev.step (fun k => by rw [spec_IntItem.l0]) ?_
    by_cases h : 0 < n
    · refine ev_pos (by omega) ?_
      have e1 : wrap64 (Int.tdiv (n : Int) 256) = ((n / 256 : Nat) : Int) := by rw [show (256 : Int) = ((256 : Nat) : Int) from rfl, tdivN]; exact w64 (by omega) (by omega)
      have e2 : Int.tmod (n : Int) 256 % 256 = ((n % 256 : Nat) : Int) := by
        rw [show (256 : Int) = ((256 : Nat) : Int) from rfl, tmodN]; omega
      rw [e1, e2]
      refine Ev.bind (g := fun _ => some [((n % 256 : Nat) : Int)]) (Ev.now _) ?_
      rw [str_append]
      have hz : (strOfNums [((n % 256 : Nat) : Int)]).size + (strOfNums acc).size ≤ 9223372036854775807 := by rw [strOfNums_size, strOfNums_size]; simp; omega
      refine ev_pos hz ?_
      have := ih (n / 256) (by omega) ([((n % 256 : Nat) : Int)] ++ acc) (by simp; omega)
      rw [be, if_pos h, List.append_assoc]
      exact this
    · refine ev_neg (by omega) ?_
      have e0 : be n = [] := by rw [be, if_neg h]
      rw [e0, List.nil_append]
      have hz : 1 + (strOfNums acc).size ≤ 9223372036854775807 := by rw [strOfNums_size]; omega
      have ez : (⟨#[0]⟩ : ByteArray) ++ strOfNums acc = strOfNums (0 :: acc) := str_append [0] acc
      by_cases ha : acc = []
      · subst ha
        refine ev_pos ((str_toList_nil []).2 rfl) (ev_pos hz ?_)
        rw [if_pos rfl, ez]
        exact Ev.now _
      · refine ev_neg (fun h => ha ((str_toList_nil acc).1 h)) (ev_pos ?_ ?_)
        · rw [strOfNums_size]
          cases acc with
          | nil => exact absurd rfl ha
          | cons x l => simp
        · by_cases hb : bt (strOfNums acc) 0 ≥ 128
          · refine ev_pos hb (ev_pos hz ?_)
            rw [if_neg ha, if_pos hb, ez]
            exact Ev.now _
          · refine ev_neg hb ?_
            rw [if_neg ha, if_neg hb]
            exact Ev.now _
theorem spec_int_ev (a : Int) : Ev (fun k => spec_IntItem.f k a) (intV a) := by
  have key : ∀ n : Nat, n ≤ 1000000000 → Ev (fun k => spec_IntItem.j0 k (n : Int)) (2, strOfNums (intL n), []) := by
    intro n hn
    refine Ev.step (fun k => by rw [spec_IntItem.j0]) ?_
    have := spec_int n [] (by simp; omega)
    rw [List.append_nil] at this
    have hv : (if be n = [] then strOfNums [0] else if 128 ≤ bt (strOfNums (be n)) 0 then strOfNums (0 :: be n) else strOfNums (be n)) = strOfNums (intL n) := by
      unfold intL intB
      by_cases h : n = 0
      · subst h
        have e0 : be 0 = [] := by rw [be, if_neg (by omega)]
        rw [if_pos e0, if_pos rfl, if_neg (by simp)]
      · have hp := be_pos n (by omega)
        rw [if_neg hp, if_neg h, bt_str _ (be_rng n)]
        split <;> rfl
    rw [hv] at this
    exact this
  simp only [spec_IntItem.f, spec_l01In.f]
  unfold intV intN
  by_cases h0 : 0 ≤ a
  · by_cases h1 : a ≤ 1000000000
    · obtain ⟨m, rfl⟩ := Int.eq_ofNat_of_zero_le h0
      rw [if_pos (by omega), if_pos ⟨h0, h1⟩]
      exact Ev.bind (g := fun _ => some (decide ((m : Int) ≤ 1000000000))) (a := true) (by rw [decide_eq_true h1]; exact Ev.now _) (ev_pos rfl (key m (by omega)))
    · rw [if_pos (by omega), if_neg (fun h => h1 h.2)]
      exact Ev.bind (g := fun _ => some (decide (a ≤ 1000000000))) (a := false) (by rw [decide_eq_false h1]; exact Ev.now _) (ev_neg Bool.false_ne_true (key 0 (by omega)))
  · rw [if_neg (by omega), if_neg (fun h => h0 h.1)]
    exact Ev.bind (g := fun _ => some false) (Ev.now _) (ev_neg Bool.false_ne_true (key 0 (by omega)))

theorem impl_int (n : Nat) : ∀ acc : List Int, n + acc.length ≤ 2000000000 → acc ≠ [] → Ev (fun k => impl_IntItem.l0 k (n : Int) acc) (2, strOfNums (if 128 ≤ (be n ++ acc).getD 0 0 then 0 :: (be n ++ acc) else be n ++ acc), []) := by
  induction n using Nat.strongRecOn with
  | _ n ih =>
    intro acc hl ha
    refine Ev.step (fun k => by rw [impl_IntItem.l0]) ?_
    by_cases h : 0 < n
    · refine ev_pos (by omega) ?_
      have e1 : (n : Int) / 256 = ((n / 256 : Nat) : Int) := by omega
      have e2 : (n : Int) % 256 = ((n % 256 : Nat) : Int) := by omega
      rw [e1, e2]
      refine Ev.bind (g := fun _ => some [((n % 256 : Nat) : Int)]) (Ev.now _) (ev_pos (by simp; omega) ?_)
      have := ih (n / 256) (by omega) ([((n % 256 : Nat) : Int)] ++ acc) (by simp; omega) (by simp)
      rw [be, if_pos h, List.append_assoc]
      exact this
    · refine ev_neg (by omega) ?_
      have e0 : be n = [] := by rw [be, if_neg h]
      rw [e0, List.nil_append]
      refine ev_pos ?_ ?_
      · cases acc with
        | nil => exact absurd rfl ha
        | cons x l => simp
      · have er : rd acc 0 = acc.getD 0 0 := rfl
        rw [er]
        by_cases hb : acc.getD 0 0 ≥ 128
        · refine ev_pos hb (Ev.bind (g := fun _ => some [(0 : Int)]) (Ev.now _) (ev_pos (by simp; omega) ?_))
          rw [if_pos hb]
          exact Ev.now _
        · refine ev_neg hb ?_
          rw [if_neg hb]
          exact Ev.now _
theorem impl_int_ev (a : Int) : Ev (fun k => impl_IntItem.f k a) (intV a) := by
  have key : ∀ n : Nat, n ≤ 1000000000 → Ev (fun k => impl_IntItem.j0 k (n : Int)) (2, strOfNums (intL n), []) := by
    intro n hn
    refine Ev.step (fun k => by rw [impl_IntItem.j0]) ?_
    have e1 : (n : Int) / 256 = ((n / 256 : Nat) : Int) := by omega
    have e2 : (n : Int) % 256 = ((n % 256 : Nat) : Int) := by omega
    rw [e1, e2]
    have := impl_int (n / 256) [((n % 256 : Nat) : Int)] (by simp; omega) (by simp)
    have hv : be (n / 256) ++ [((n % 256 : Nat) : Int)] = intB n := by
      unfold intB
      by_cases h : n = 0
      · subst h
        rw [if_pos rfl, be, if_neg (by omega)]; rfl
      · rw [if_neg h, be.eq_1 n, if_pos (by omega)]
    rw [hv] at this
    exact this
  simp only [impl_IntItem.f, impl_within.f]
  unfold intV intN
  by_cases h0 : 0 ≤ a
  · by_cases h1 : a ≤ 1000000000
    · obtain ⟨m, rfl⟩ := Int.eq_ofNat_of_zero_le h0
      rw [if_pos (by omega), if_pos ⟨h0, h1⟩]
      exact Ev.bind (g := fun _ => some (decide ((m : Int) ≤ 1000000000))) (a := true) (by rw [decide_eq_true h1]; exact Ev.now _) (ev_pos rfl (key m (by omega)))
    · rw [if_pos (by omega), if_neg (fun h => h1 h.2)]
      exact Ev.bind (g := fun _ => some (decide (a ≤ 1000000000))) (a := false) (by rw [decide_eq_false h1]; exact Ev.now _) (ev_neg Bool.false_ne_true (key 0 (by omega)))
  · rw [if_neg (by omega), if_neg (fun h => h0 h.1)]
    exact Ev.bind (g := fun _ => some false) (Ev.now _) (ev_neg Bool.false_ne_true (key 0 (by omega)))

theorem be_short : ∀ (k n : Nat), n < 256 ^ k → (be n).length ≤ k
  | 0, n, h => by
    have : n = 0 := by simpa using h
    subst this
    rw [be, if_neg (by omega)]
    simp
  | k + 1, n, h => by
    rw [be]
    by_cases h0 : 0 < n
    · rw [if_pos h0, List.length_append]
      have := be_short k (n / 256) (by rw [Nat.pow_succ] at h; omega)
      simp
      exact this
    · rw [if_neg h0]
      simp
theorem intL_len (n : Nat) (h : n ≤ 1000000000) : (intL n).length ≤ 5 := by
  have e4 : (256 : Nat) ^ 4 = 4294967296 := by decide
  have := be_short 4 n (by rw [e4]; omega)
  unfold intL intB
  by_cases h0 : n = 0
  · rw [if_pos h0]
    decide
  · rw [if_neg h0]
    by_cases hc : 128 ≤ (be n).getD 0 0
    · rw [if_pos hc, List.length_cons]
      omega
    · rw [if_neg hc]
      omega

/-! The little trees. -/
theorem rdL (xs : List S26) (i : Nat) (h : i < xs.length) : rd_T26 xs (i : Int) = xs[i] := by
  simp [rd_T26, List.getD_eq_getElem?_getD, List.getElem?_eq_getElem h]
theorem etaL (x : S26) : (⟨x.f0, x.f1, x.f2⟩ : S26) = x := by cases x; rfl
def WL : Nat → S26 → Prop
  | 0, _ => False
  | n + 1, x => x.f1.size ≤ 1048576 ∧ x.f2.length ≤ 1048576 ∧ ∀ y ∈ x.f2, WL n y
theorem WL_flat (n : Nat) (a : Int) (s : ByteArray) (h : s.size ≤ 1048576) : WL (n + 1) (⟨a, s, []⟩ : S26) := ⟨h, by simp, fun y hy => by simp at hy⟩

def lessV (b : Int) (w : Nat) : Int := if (w : Int) ≤ b then b - w else -1
theorem lessV_add (b : Int) (v w : Nat) (h : (v : Int) ≤ b) : lessV (b - v) w = lessV b (v + w) := by
  unfold lessV
  by_cases hw : (w : Int) ≤ b - v
  · rw [if_pos hw, if_pos (by omega)]; omega
  · rw [if_neg hw, if_neg (by omega)]
theorem lessV_no (b : Int) (w : Nat) (h : ¬ (w : Int) ≤ b) : lessV b w = -1 := if_neg h
theorem lessV_yes (b : Int) (w : Nat) (h : (w : Int) ≤ b) : lessV b w = b - w := if_pos h

/-! Rows of texts: their weight, their copy, their sameness. -/
theorem rdS (xs : List ByteArray) (i : Nat) (h : i < xs.length) : rdOf ByteArray.empty xs (i : Int) = xs[i] := by
  simp [rdOf, List.getD_eq_getElem?_getD, List.getElem?_eq_getElem h]
def wtS (l : List ByteArray) : Nat := (l.map ByteArray.size).sum
theorem wtS_mem : ∀ (l : List ByteArray) (s : ByteArray), s ∈ l → s.size ≤ wtS l
  | [], _, h => by cases h
  | x :: l, s, h => by
    unfold wtS
    rw [List.map_cons, List.sum_cons]
    rcases List.mem_cons.1 h with rfl | h
    · omega
    · have := wtS_mem l s h
      unfold wtS at this
      omega
theorem sz_strs (l : List ByteArray) (hl : l.length ≤ 9223372036854775807) (hw : ∀ s ∈ l, s.size ≤ 9223372036854775807) (b : Int) (h0 : 0 ≤ b) (h1 : b ≤ 1048576) : Ev (fun k => laws_szStringS.f k l b) (lessV b (l.length + wtS l)) := by
  have loop : ∀ (d i : Nat) (b : Int), i + d = l.length → 0 ≤ b → b ≤ 1048576 → Ev (fun k => laws_szStringS.l0 k l b (i : Int)) (lessV b (wtS (l.drop i))) := by
    intro d
    induction d with
    | zero =>
      intro i b hi h0 h1
      refine Ev.step (fun k => by rw [laws_szStringS.l0]) (ev_neg (by omega) ?_)
      rw [List.drop_eq_nil_of_le (by omega)]
      rw [show lessV b (wtS []) = b by rw [lessV_yes _ _ (by simpa [wtS] using h0)]; simp [wtS]]
      exact Ev.now _
    | succ d ih =>
      intro i b hi h0 h1
      have hlt : i < l.length := by omega
      have hs := hw _ (List.getElem_mem hlt)
      refine Ev.step (fun k => by rw [laws_szStringS.l0]) (ev_pos (by omega) (ev_pos (by omega) ?_))
      rw [rdS l i hlt, w64 (n := b - (l[i].size : Int)) (by omega) (by omega)]
      have e : wtS (l.drop i) = l[i].size + wtS (l.drop (i + 1)) := by
        rw [List.drop_eq_getElem_cons hlt]
        rfl
      rw [e]
      by_cases hc : (l[i].size : Int) ≤ b
      · rw [← lessV_add _ _ _ hc]
        refine ev_neg (by omega) ?_
        rw [show wrap64 ((i : Int) + 1) = ((i + 1 : Nat) : Int) by rw [w64 (by omega) (by omega)]; omega]
        exact ih (i + 1) _ (by omega) (by omega) (by omega)
      · rw [lessV_no _ _ (by omega)]
        exact ev_pos (by omega) (Ev.now _)
  simp only [laws_szStringS.f]
  rw [w64 (n := b - (l.length : Int)) (by omega) (by omega)]
  by_cases hc : (l.length : Int) ≤ b
  · refine ev_neg (by omega) ?_
    rw [← lessV_add _ _ _ hc]
    have := loop l.length 0 (b - l.length) (by omega) (by omega) (by omega)
    rwa [List.drop_zero] at this
  · rw [lessV_no _ _ (by omega)]
    exact ev_pos (by omega) (Ev.now _)
theorem set_str (l : List ByteArray) (i : Nat) (t : ByteArray) (tl : List ByteArray) (h : i < l.length) : (l.take i ++ t :: tl).set i l[i] = l.take (i + 1) ++ tl := by
  have hl : (l.take i).length = i := by rw [List.length_take]; omega
  rw [List.set_append_right _ _ (by omega), hl, Nat.sub_self, List.set_cons_zero, List.take_succ_eq_append_getElem h, List.append_assoc]
  rfl
theorem tostr (l : List ByteArray) (hl : l.length ≤ 1048576) : Ev (fun k => laws_toStringS.f k l) l := by
  have loop : ∀ (d i : Nat) (tl : List ByteArray), tl.length = d → i + d = l.length → Ev (fun k => laws_toStringS.l0 k l (l.take i ++ tl) (i : Int)) l := by
    intro d
    induction d with
    | zero =>
      intro i tl ht hi
      obtain rfl : tl = [] := List.eq_nil_of_length_eq_zero ht
      refine Ev.step (fun k => by rw [laws_toStringS.l0]) ?_
      refine ev_neg (by omega) ?_
      rw [List.append_nil, List.take_of_length_le (by omega)]
      exact Ev.now _
    | succ d ih =>
      intro i tl ht hi
      obtain ⟨t, tl, rfl⟩ : ∃ t tl', tl = t :: tl' := by cases tl with | nil => simp at ht | cons t tl => exact ⟨t, tl, rfl⟩
      refine Ev.step (fun k => by rw [laws_toStringS.l0]) ?_
      refine ev_pos (by omega) (ev_pos (by omega) (ev_pos ?_ ?_))
      · simp at ht; simp [List.length_take]; omega
      · rw [show wrap64 ((i : Int) + 1) = ((i + 1 : Nat) : Int) by rw [w64 (by omega) (by omega)]; omega, Int.toNat_natCast, rdS l i (by omega), set_str l i t tl (by omega)]
        exact ih (i + 1) tl (by simpa using ht) (by omega)
  simp only [laws_toStringS.f]
  refine ev_pos (by omega) (ev_pos (by omega) ?_)
  have := loop l.length 0 (List.replicate l.length ⟨#[]⟩) (by simp) (by omega)
  simpa using this
theorem eqstr (l : List ByteArray) (hl : l.length ≤ 1048576) : Ev (fun k => laws_eqStringS.f k l l) true := by
  have loop : ∀ (d i : Nat), i + d = l.length → Ev (fun k => laws_eqStringS.l0 k l l (i : Int)) true := by
    intro d
    induction d with
    | zero =>
      intro i hi
      exact Ev.step (fun k => by rw [laws_eqStringS.l0]) (ev_neg (by omega) (Ev.now _))
    | succ d ih =>
      intro i hi
      refine Ev.step (fun k => by rw [laws_eqStringS.l0]) ?_
      refine ev_pos (by omega) (ev_pos (by omega) (ev_pos (by omega) (ev_pos rfl ?_)))
      rw [show wrap64 ((i : Int) + 1) = ((i + 1 : Nat) : Int) by rw [w64 (by omega) (by omega)]; omega]
      exact ih (i + 1) (by omega)
  simp only [laws_eqStringS.f]
  exact ev_pos trivial (loop l.length 0 (by omega))

/-! What impl copies is what it was. -/
theorem impl_copy : ∀ (n : Nat) (x : S26), WL n x → Ev (fun k => impl_copyItem.f k x.f0 x.f1 x.f2) (x.f0, x.f1, x.f2)
  | 0, _, h => h.elim
  | n + 1, x, ⟨_, hl, hk⟩ => by
    have loop : ∀ (d i : Nat), i + d = x.f2.length → Ev (fun k => impl_copyItem.l0 k x.f2 (x.f2.length : Int) (i : Int) x.f0 x.f1 (x.f2.take i)) (x.f0, x.f1, x.f2) := by
      intro d
      induction d with
      | zero =>
        intro i hi
        refine Ev.step (fun k => by rw [impl_copyItem.l0]) (ev_neg (by omega) ?_)
        rw [List.take_of_length_le (by omega)]
        exact Ev.now _
      | succ d ih =>
        intro i hi
        have hlt : i < x.f2.length := by omega
        have ht : (x.f2.take i).length < 2932031007402 := by rw [List.length_take]; omega
        refine Ev.step (fun k => by rw [impl_copyItem.l0]) (ev_pos (by omega) (ev_pos (by omega) (ev_pos (by omega) ?_)))
        rw [rdL x.f2 i hlt, show wrap64 ((i : Int) + 1) = ((i + 1 : Nat) : Int) by rw [w64 (by omega) (by omega)]; omega]
        refine Ev.bind (impl_copy n x.f2[i] (hk _ (List.getElem_mem hlt))) (ev_pos ht ?_)
        have h := ih (i + 1) (by omega)
        rw [List.take_succ_eq_append_getElem hlt] at h
        simp only [etaL]
        exact h
    refine Ev.step (fun k => by rw [impl_copyItem.f]) ?_
    exact loop x.f2.length 0 (by omega)
theorem impl_list (n : Nat) (L : List S26) (hl : L.length ≤ 1048576) (hw : ∀ y ∈ L, WL n y) : Ev (fun k => impl_ListItem.f k L) (48, (⟨#[]⟩ : ByteArray), L) := by
  have loop : ∀ (d i : Nat), i + d = L.length → Ev (fun k => impl_ListItem.l0 k L (L.length : Int) (i : Int) 48 (⟨#[]⟩ : ByteArray) (L.take i)) (48, (⟨#[]⟩ : ByteArray), L) := by
    intro d
    induction d with
    | zero =>
      intro i hi
      refine Ev.step (fun k => by rw [impl_ListItem.l0]) (ev_neg (by omega) ?_)
      rw [List.take_of_length_le (by omega)]
      exact Ev.now _
    | succ d ih =>
      intro i hi
      have hlt : i < L.length := by omega
      have ht : (L.take i).length < 2932031007402 := by rw [List.length_take]; omega
      refine Ev.step (fun k => by rw [impl_ListItem.l0]) (ev_pos (by omega) (ev_pos (by omega) (ev_pos (by omega) ?_)))
      rw [rdL L i hlt, show wrap64 ((i : Int) + 1) = ((i + 1 : Nat) : Int) by rw [w64 (by omega) (by omega)]; omega]
      refine Ev.bind (impl_copy n L[i] (hw _ (List.getElem_mem hlt))) (ev_pos ht ?_)
      have h := ih (i + 1) (by omega)
      rw [List.take_succ_eq_append_getElem hlt] at h
      simp only [etaL]
      exact h
  simp only [impl_ListItem.f]
  exact loop L.length 0 (by omega)

/-! A letter's body as a tree: both sides make it. -/
def wtL : Nat → S26 → Nat
  | 0, _ => 0
  | n + 1, x => x.f1.size + (x.f2.length + (x.f2.map (wtL n)).sum)
def intT (a : Int) : S26 := ⟨2, strOfNums (intL (intN a)), []⟩
def txtT (tag : Int) (s : ByteArray) : S26 := ⟨tag, s, []⟩
def boolT (b : Bool) : S26 := ⟨1, if b = true then (⟨#[255]⟩ : ByteArray) else (⟨#[0]⟩ : ByteArray), []⟩
def listT (l : List S26) : S26 := ⟨48, (⟨#[]⟩ : ByteArray), l⟩
def bodyL (a0 : Int) (a1 a2 : ByteArray) (a3 a4 : Int) (a5 : ByteArray) (a6 : Bool) (a7 a8 : Int) (l9 : List Int) (l10 l11 : List ByteArray) : List S26 :=
  [intT a0, txtT 12 a1, listT [intT a3, intT a4], txtT 12 a2, txtT 4 a5, boolT a6, intT a7, intT a8, listT (l9.map intT), listT (l10.map (txtT 12)), listT (l11.map (txtT 12))]
theorem intT_size (a : Int) : (intT a).f1.size ≤ 5 := by
  show (strOfNums (intL (intN a))).size ≤ 5
  rw [strOfNums_size]
  refine intL_len _ ?_
  unfold intN
  split
  · omega
  · omega
theorem intT_WL (n : Nat) (a : Int) : WL (n + 1) (intT a) := WL_flat n _ _ (by have := intT_size a; unfold intT at this; exact Nat.le_trans this (by omega))
theorem spec_intT (a : Int) : Ev (fun k => spec_IntItem.f k a) ((intT a).f0, (intT a).f1, (intT a).f2) := spec_int_ev a
theorem impl_intT (a : Int) : Ev (fun k => impl_IntItem.f k a) ((intT a).f0, (intT a).f1, (intT a).f2) := impl_int_ev a
theorem map_snoc {α β : Type} (f : α → β) (l : List α) (i : Nat) (h : i < l.length) : (l.take (i + 1)).map f = (l.take i).map f ++ [f l[i]] := by
  rw [List.take_succ_eq_append_getElem h, List.map_append]
  rfl
theorem rdI (l : List Int) (i : Nat) (h : i < l.length) : rd l (i : Int) = l[i] := by
  simp [rd, List.getD_eq_getElem?_getD, List.getElem?_eq_getElem h]
theorem spec_ints (l : List Int) (hl : l.length ≤ 1048576) : Ev (fun k => spec_l09Ints.f k l) (48, (⟨#[]⟩ : ByteArray), l.map intT) := by
  have loop : ∀ (d i : Nat), i + d = l.length → Ev (fun k => spec_l09Ints.l0 k l (i : Int) 48 (⟨#[]⟩ : ByteArray) ((l.take i).map intT)) (48, (⟨#[]⟩ : ByteArray), l.map intT) := by
    intro d
    induction d with
    | zero =>
      intro i hi
      refine Ev.step (fun k => by rw [spec_l09Ints.l0]) (ev_neg (by omega) ?_)
      rw [List.take_of_length_le (by omega)]
      exact Ev.now _
    | succ d ih =>
      intro i hi
      have hlt : i < l.length := by omega
      have ht : ((l.take i).map intT).length < 2932031007402 := by rw [List.length_map, List.length_take]; omega
      refine Ev.step (fun k => by rw [spec_l09Ints.l0]) (ev_pos (by omega) (ev_pos (by omega) ?_))
      rw [rdI l i hlt, show wrap64 ((i : Int) + 1) = ((i + 1 : Nat) : Int) by rw [w64 (by omega) (by omega)]; omega]
      refine Ev.bind (spec_intT l[i]) (ev_pos ht ?_)
      have h := ih (i + 1) (by omega)
      rw [map_snoc intT l i hlt] at h
      exact h
  simp only [spec_l09Ints.f]
  exact loop l.length 0 (by omega)
theorem impl_ints (l : List Int) (hl : l.length ≤ 1048576) : Ev (fun k => impl_each_int.f k l 0) (48, (⟨#[]⟩ : ByteArray), l.map intT) := by
  have loop : ∀ (d i : Nat), i + d = l.length → Ev (fun k => impl_each_int.l0 k l (l.length : Int) (i : Int) 48 (⟨#[]⟩ : ByteArray) ((l.take i).map intT)) (48, (⟨#[]⟩ : ByteArray), l.map intT) := by
    intro d
    induction d with
    | zero =>
      intro i hi
      refine Ev.step (fun k => by rw [impl_each_int.l0]) (ev_neg (by omega) ?_)
      rw [List.take_of_length_le (by omega)]
      exact Ev.now _
    | succ d ih =>
      intro i hi
      have hlt : i < l.length := by omega
      have ht : ((l.take i).map intT).length < 2932031007402 := by rw [List.length_map, List.length_take]; omega
      refine Ev.step (fun k => by rw [impl_each_int.l0]) (ev_pos (by omega) (ev_pos (by omega) (ev_pos (by omega) ?_)))
      rw [rdI l i hlt, show wrap64 ((i : Int) + 1) = ((i + 1 : Nat) : Int) by rw [w64 (by omega) (by omega)]; omega]
      refine Ev.bind (impl_intT l[i]) (ev_pos ht ?_)
      have h := ih (i + 1) (by omega)
      rw [map_snoc intT l i hlt] at h
      exact h
  simp only [impl_each_int.f]
  exact loop l.length 0 (by omega)
theorem spec_txts (l : List ByteArray) (hl : l.length ≤ 1048576) : Ev (fun k => spec_l09Texts.f k l) (48, (⟨#[]⟩ : ByteArray), l.map (txtT 12)) := by
  have loop : ∀ (d i : Nat), i + d = l.length → Ev (fun k => spec_l09Texts.l0 k l (i : Int) 48 (⟨#[]⟩ : ByteArray) ((l.take i).map (txtT 12))) (48, (⟨#[]⟩ : ByteArray), l.map (txtT 12)) := by
    intro d
    induction d with
    | zero =>
      intro i hi
      refine Ev.step (fun k => by rw [spec_l09Texts.l0]) (ev_neg (by omega) ?_)
      rw [List.take_of_length_le (by omega)]
      exact Ev.now _
    | succ d ih =>
      intro i hi
      have hlt : i < l.length := by omega
      have ht : ((l.take i).map (txtT 12)).length < 2932031007402 := by rw [List.length_map, List.length_take]; omega
      refine Ev.step (fun k => by rw [spec_l09Texts.l0]) (ev_pos (by omega) (ev_pos (by omega) ?_))
      rw [rdS l i hlt, show wrap64 ((i : Int) + 1) = ((i + 1 : Nat) : Int) by rw [w64 (by omega) (by omega)]; omega]
      refine Ev.bind (g := fun _ => spec_TextItem.f l[i]) (a := ((12 : Int), l[i], ([] : List S26))) (show Ev (fun _ => some ((12 : Int), l[i], ([] : List S26))) _ from Ev.now _) (ev_pos ht ?_)
      have h := ih (i + 1) (by omega)
      rw [map_snoc (txtT 12) l i hlt] at h
      exact h
  simp only [spec_l09Texts.f]
  exact loop l.length 0 (by omega)
theorem impl_txts (l : List ByteArray) (hl : l.length ≤ 1048576) : Ev (fun k => impl_each_string.f k l 0) (48, (⟨#[]⟩ : ByteArray), l.map (txtT 12)) := by
  have loop : ∀ (d i : Nat), i + d = l.length → Ev (fun k => impl_each_string.l0 k l (l.length : Int) (i : Int) 48 (⟨#[]⟩ : ByteArray) ((l.take i).map (txtT 12))) (48, (⟨#[]⟩ : ByteArray), l.map (txtT 12)) := by
    intro d
    induction d with
    | zero =>
      intro i hi
      refine Ev.step (fun k => by rw [impl_each_string.l0]) (ev_neg (by omega) ?_)
      rw [List.take_of_length_le (by omega)]
      exact Ev.now _
    | succ d ih =>
      intro i hi
      have hlt : i < l.length := by omega
      have ht : ((l.take i).map (txtT 12)).length < 2932031007402 := by rw [List.length_map, List.length_take]; omega
      refine Ev.step (fun k => by rw [impl_each_string.l0]) (ev_pos (by omega) (ev_pos (by omega) (ev_pos (by omega) ?_)))
      rw [rdS l i hlt, show wrap64 ((i : Int) + 1) = ((i + 1 : Nat) : Int) by rw [w64 (by omega) (by omega)]; omega]
      refine Ev.bind (g := fun _ => impl_TextItem.f l[i]) (a := ((12 : Int), l[i], ([] : List S26))) (show Ev (fun _ => some ((12 : Int), l[i], ([] : List S26))) _ from Ev.now _) (ev_pos ht ?_)
      have h := ih (i + 1) (by omega)
      rw [map_snoc (txtT 12) l i hlt] at h
      exact h
  simp only [impl_each_string.f]
  exact loop l.length 0 (by omega)
theorem spec_boolT (b : Bool) : spec_l09Bool.f b = some ((boolT b).f0, (boolT b).f1, (boolT b).f2) := by cases b <;> rfl
theorem impl_boolT (b : Bool) : impl_boolItem.f b = some ((boolT b).f0, (boolT b).f1, (boolT b).f2) := by cases b <;> rfl
section
variable (a0 : Int) (a1 a2 : ByteArray) (a3 a4 : Int) (a5 : ByteArray) (a6 : Bool) (a7 a8 : Int) (l9 : List Int) (l10 l11 : List ByteArray) (a12 : ByteArray)
/-- What a letter weighs, as the law counts it. -/
def wtC : Nat := a1.size + a2.size + a5.size + l9.length + (l10.length + wtS l10) + (l11.length + wtS l11) + a12.size
theorem spec_body (h9 : l9.length ≤ 1048576) (h10 : l10.length ≤ 1048576) (h11 : l11.length ≤ 1048576) :
    Ev (fun k => spec_BodyItem.f k a0 a1 a2 a3 a4 a5 a6 a7 a8 l9 l10 l11 a12) (48, (⟨#[]⟩ : ByteArray), bodyL a0 a1 a2 a3 a4 a5 a6 a7 a8 l9 l10 l11) := by
  simp only [spec_BodyItem.f]
  refine Ev.bind (spec_intT a3) (Ev.bind (spec_intT a4) (Ev.bind (spec_intT a0) (Ev.bind (g := fun _ => spec_TextItem.f a1) (a := (12, a1, [])) (Ev.now _) (Ev.bind (g := fun _ => spec_TextItem.f a2) (a := (12, a2, [])) (Ev.now _) (Ev.bind (g := fun _ => spec_l09Bytes.f a5) (a := (4, a5, [])) (Ev.now _) (Ev.bind (g := fun _ => spec_l09Bool.f a6) (a := ((boolT a6).f0, (boolT a6).f1, (boolT a6).f2)) (by rw [spec_boolT]; exact Ev.now _) (Ev.bind (spec_intT a7) (Ev.bind (spec_intT a8) (Ev.bind (spec_ints l9 h9) (Ev.bind (spec_txts l10 h10) (Ev.bind (spec_txts l11 h11) ?_)))))))))))
  exact Ev.now _
theorem two_WL (x y : S26) (hx : WL 1 x) (hy : WL 1 y) : ∀ z ∈ [x, y], WL 1 z := fun z hz => by
  rcases List.mem_cons.1 hz with rfl | hz
  · exact hx
  · obtain rfl := List.mem_singleton.1 hz
    exact hy
theorem list_WL (n : Nat) (l : List S26) (hl : l.length ≤ 1048576) (h : ∀ y ∈ l, WL n y) : WL (n + 1) (listT l) := ⟨by show 0 ≤ 1048576; omega, hl, h⟩
theorem body_WL (hw : wtC a1 a2 a5 l9 l10 l11 a12 ≤ 1048576) : ∀ y ∈ bodyL a0 a1 a2 a3 a4 a5 a6 a7 a8 l9 l10 l11, WL 2 y := by
  unfold wtC at hw
  have tx : ∀ (t : Int) (s : ByteArray), s.size ≤ 1048576 → WL 2 (txtT t s) := fun t s h => WL_flat 1 _ _ h
  have ts : ∀ l : List ByteArray, l.length + wtS l ≤ 1048576 → WL 2 (listT (l.map (txtT 12))) := fun l h => list_WL 1 _ (by rw [List.length_map]; omega) (fun y hy => by
    obtain ⟨s, hs, rfl⟩ := List.mem_map.1 hy
    exact WL_flat 0 _ _ (by have := wtS_mem l s hs; omega))
  intro y hy
  unfold bodyL at hy
  simp only [List.mem_cons, List.not_mem_nil, or_false] at hy
  rcases hy with rfl | rfl | rfl | rfl | rfl | rfl | rfl | rfl | rfl | rfl | rfl
  · exact intT_WL 1 _
  · exact tx _ _ (by omega)
  · exact list_WL 1 _ (by simp) (two_WL _ _ (intT_WL 0 _) (intT_WL 0 _))
  · exact tx _ _ (by omega)
  · exact tx _ _ (by omega)
  · exact WL_flat 1 _ _ (by cases a6 <;> decide)
  · exact intT_WL 1 _
  · exact intT_WL 1 _
  · exact list_WL 1 _ (by rw [List.length_map]; omega) (fun y hy => by
      obtain ⟨s, hs, rfl⟩ := List.mem_map.1 hy
      exact intT_WL 0 _)
  · exact ts _ (by omega)
  · exact ts _ (by omega)
theorem impl_body (hw : wtC a1 a2 a5 l9 l10 l11 a12 ≤ 1048576) :
    Ev (fun k => impl_BodyItem.f k a0 a1 a2 a3 a4 a5 a6 a7 a8 l9 l10 l11 a12) (48, (⟨#[]⟩ : ByteArray), bodyL a0 a1 a2 a3 a4 a5 a6 a7 a8 l9 l10 l11) := by
  have hb := body_WL a0 a1 a2 a3 a4 a5 a6 a7 a8 l9 l10 l11 a12 hw
  unfold wtC at hw
  simp only [impl_BodyItem.f]
  refine Ev.bind (impl_intT a3) (Ev.bind (impl_intT a4) (Ev.bind (impl_list 1 [intT a3, intT a4] (by simp) (two_WL _ _ (intT_WL 0 _) (intT_WL 0 _))) (Ev.bind (impl_intT a0) (Ev.bind (g := fun _ => impl_TextItem.f a1) (a := (12, a1, [])) (Ev.now _) (Ev.bind (g := fun _ => impl_TextItem.f a2) (a := (12, a2, [])) (Ev.now _) (Ev.bind (g := fun _ => impl_bytesItem.f a5) (a := (4, a5, [])) (Ev.now _) (Ev.bind (g := fun _ => impl_boolItem.f a6) (a := ((boolT a6).f0, (boolT a6).f1, (boolT a6).f2)) (by rw [impl_boolT]; exact Ev.now _) (Ev.bind (impl_intT a7) (Ev.bind (impl_intT a8) (Ev.bind (impl_ints l9 (by omega)) (Ev.bind (impl_txts l10 (by omega)) (Ev.bind (impl_txts l11 (by omega)) ?_))))))))))))
  exact Ev.bind (impl_list 2 (bodyL a0 a1 a2 a3 a4 a5 a6 a7 a8 l9 l10 l11) (by simp [bodyL]) hb) (Ev.now _)
/-- How heavy the tree is: at most six for each number, and what the texts weigh. -/
theorem wt_ints (l : List Int) : ((l.map intT).map (wtL 1)).sum ≤ 5 * l.length := by
  induction l with
  | nil => simp
  | cons x l ih =>
    have h : wtL 1 (intT x) ≤ 5 := by
      show (intT x).f1.size + 0 ≤ 5
      have := intT_size x
      omega
    rw [List.map_cons, List.map_cons, List.sum_cons, List.length_cons]
    omega
theorem wt_txts (l : List ByteArray) : ((l.map (txtT 12)).map (wtL 1)).sum = wtS l := by
  induction l with
  | nil => rfl
  | cons x l ih =>
    have h : wtL 1 (txtT 12 x) = x.size := rfl
    have e : wtS (x :: l) = x.size + wtS l := by unfold wtS; rw [List.map_cons, List.sum_cons]
    rw [List.map_cons, List.map_cons, List.sum_cons, h, ih, e]
theorem wt_body (hw : wtC a1 a2 a5 l9 l10 l11 a12 ≤ 1048576) : (bodyL a0 a1 a2 a3 a4 a5 a6 a7 a8 l9 l10 l11).length + ((bodyL a0 a1 a2 a3 a4 a5 a6 a7 a8 l9 l10 l11).map (wtL 2)).sum ≤ 16777216 := by
  unfold wtC at hw
  have i2 : ∀ a, wtL 2 (intT a) ≤ 5 := fun a => by
    show (intT a).f1.size + 0 ≤ 5
    have := intT_size a
    omega
  have q3 := wt_ints [a3, a4]
  have q9 := wt_ints l9
  have q10 := wt_txts l10
  have q11 := wt_txts l11
  have e1 : ∀ t (s : ByteArray), wtL 2 (txtT t s) = s.size := fun t s => rfl
  have e2 : ∀ l : List S26, wtL 2 (listT l) = l.length + (l.map (wtL 1)).sum := fun l => Nat.zero_add _
  have e3 : wtL 2 (boolT a6) = 1 := by cases a6 <;> rfl
  have h0 := i2 a0
  have h7 := i2 a7
  have h8 := i2 a8
  unfold bodyL
  simp only [List.map_cons, List.map_nil, List.sum_cons, List.sum_nil, List.length_cons, List.length_nil, e1, e2, e3, List.length_map] at q3 q9 q10 q11 h0 h7 h8 ⊢
  omega
end

theorem eq_row (n : Nat) (item : ∀ y, WL n y → Ev (fun k => laws_eqItem.f k y.f0 y.f1 y.f2 y.f0 y.f1 y.f2) true) (l : List S26) (hl : l.length ≤ 1048576) (hw : ∀ y ∈ l, WL n y) : Ev (fun k => laws_eqItemS.f k l l) true := by
  have loop : ∀ (d i : Nat), i + d = l.length → Ev (fun k => laws_eqItemS.l0 k l l (i : Int)) true := by
    intro d
    induction d with
    | zero =>
      intro i hi
      exact Ev.step (fun k => laws_eqItemS.l0_eq k l l i) (ev_neg (by omega) (Ev.now _))
    | succ d ih =>
      intro i hi
      have hlt : i < l.length := by omega
      refine Ev.step (fun k => laws_eqItemS.l0_eq k l l i) (ev_pos (by omega) (ev_pos (by omega) (ev_pos (by omega) ?_)))
      rw [rdL l i hlt]
      refine Ev.bind (item l[i] (hw _ (List.getElem_mem hlt))) (ev_pos rfl ?_)
      rw [show wrap64 ((i : Int) + 1) = ((i + 1 : Nat) : Int) by rw [w64 (by omega) (by omega)]; omega]
      exact ih (i + 1) (by omega)
  refine Ev.step (fun k => by rw [laws_eqItemS.f]) ?_
  exact ev_pos rfl (loop l.length 0 (by omega))
theorem eq_item : ∀ (n : Nat) (x : S26), WL n x → Ev (fun k => laws_eqItem.f k x.f0 x.f1 x.f2 x.f0 x.f1 x.f2) true
  | 0, _, h => h.elim
  | n + 1, x, ⟨_, hl, hk⟩ => by
    simp only [laws_eqItem.f]
    exact ev_pos trivial (ev_pos trivial (Ev.bind (eq_row n (eq_item n) x.f2 hl hk) (ev_pos rfl (Ev.now _))))
/-! Trees marked, and their marks held. -/
theorem mtext_loop : ∀ (x : Nat) (acc : ByteArray), x + acc.size ≤ 9223372036854775000 → ∃ t, Ev (fun k => laws_markText.l0 k (x : Int) acc) t := by
  intro x
  induction x using Nat.strongRecOn with
  | _ x ih =>
    intro acc h
    by_cases h0 : 0 < x
    · have e1 : wrap64 (Int.tdiv (x : Int) 10) = ((x / 10 : Nat) : Int) := by rw [show (10 : Int) = ((10 : Nat) : Int) from rfl, tdivN]; exact w64 (by omega) (by omega)
      obtain ⟨t, ht⟩ := ih (x / 10) (by omega) (strOfNums [(wrap64 (48 + Int.tmod (x : Int) 10)) % 256] ++ acc) (by rw [ByteArray.size_append, strOfNums_size]; simp only [List.length_singleton]; omega)
      have hz : (strOfNums [(wrap64 (48 + Int.tmod (x : Int) 10)) % 256]).size + acc.size ≤ 9223372036854775807 := by rw [strOfNums_size]; simp only [List.length_singleton]; omega
      refine ⟨t, Ev.step (fun k => by rw [laws_markText.l0]) (ev_pos (by omega) (Ev.bind (g := fun _ => some [(wrap64 (48 + Int.tmod (x : Int) 10)) % 256]) (Ev.now _) (ev_pos hz ?_)))⟩
      rw [e1]
      exact ht
    · exact ⟨_, Ev.step (fun k => by rw [laws_markText.l0]) (ev_neg (by omega) (ev_pos (by omega) (Ev.now _)))⟩
theorem mtext (m : Int) (h : m ≤ 4611686018427387904) : ∃ t, Ev (fun k => laws_markText.f k m) t := by
  simp only [laws_markText.f]
  by_cases h0 : m ≤ 0
  · exact ⟨_, ev_pos h0 (Ev.now _)⟩
  · obtain ⟨t, ht⟩ := mtext_loop m.toNat (⟨#[]⟩ : ByteArray) (by show m.toNat + 0 ≤ _; omega)
    rw [Int.toNat_of_nonneg (by omega)] at ht
    exact ⟨t, ev_neg h0 ht⟩
/-- The item y', y marked from m on; r comes next. -/
structure Node (y : S26) (m r : Int) (y' : S26) : Prop where
  tag : y'.f0 = m
  text : Ev (fun k => laws_markText.f k (m + 1)) y'.f1
  kids : Ev (fun k => laws_markItemS.f k y.f2 (m + 2)) (r, y'.f2)
  held : Ev (fun k => laws_heldItemS.f k y'.f2 (m + 2)) r
  lo : m + 2 ≤ r
inductive Seq : List S26 → Int → Int → List S26 → Prop
  | nil (m : Int) : Seq [] m m []
  | cons {y y' : S26} {ys ys' : List S26} {m r1 r : Int} (h : Node y m r1 y') (t : Seq ys r1 r ys') : Seq (y :: ys) m r (y' :: ys')
theorem Seq.le {xs xs' : List S26} {m r : Int} (h : Seq xs m r xs') : m ≤ r := by
  induction h with
  | nil m => exact Int.le_refl _
  | cons h t ih => have := h.lo; omega
theorem Seq.len {xs xs' : List S26} {m r : Int} (h : Seq xs m r xs') : xs'.length = xs.length := by
  induction h with
  | nil m => rfl
  | cons h t ih => simp [ih]
theorem rd_mid (pre : List S26) (y : S26) (ys : List S26) : rd_T26 (pre ++ y :: ys) ((pre.length : Nat) : Int) = y := by
  simp [rd_T26, List.getD_eq_getElem?_getD]
theorem Seq.mark {xs xs' : List S26} {m r : Int} (h : Seq xs m r xs') : ∀ (pre : List S26), 0 ≤ m → r ≤ 4611686018427387000 → pre.length + xs.length ≤ 4611686018427387000 → Ev (fun k => laws_markItemS.l0 k (pre ++ xs) m ((pre.length : Nat) : Int)) (r, pre ++ xs') := by
  induction h with
  | nil m =>
    intro pre _ _ _
    exact Ev.step (fun k => by rw [laws_markItemS.l0]) (ev_neg (by simp) (Ev.now _))
  | cons h t ih =>
    rename_i y y' ys ys' m r1 r
    intro pre h0 h1 h2
    have hl := h.lo
    have ht := t.le
    refine Ev.step (fun k => by rw [laws_markItemS.l0]) (ev_pos (by simp; omega) (ev_pos (by omega) ?_))
    rw [rd_mid, w64 (n := m + 1) (by omega) (by omega), w64 (n := m + 1 + 1) (by omega) (by omega), show m + 1 + 1 = m + 2 by omega, show wrap64 (((pre.length : Nat) : Int) + 1) = (((pre ++ [y']).length : Nat) : Int) by rw [w64 (by simp at h2; omega) (by simp at h2; omega)]; simp]
    refine Ev.bind h.text (Ev.bind h.kids ?_)
    have e : (pre ++ y :: ys).set (((pre.length : Nat) : Int)).toNat (⟨m, y'.f1, y'.f2⟩ : S26) = (pre ++ [y']) ++ ys := by
      rw [Int.toNat_natCast, List.set_append_right _ _ (Nat.le_refl _), Nat.sub_self, List.set_cons_zero, List.append_assoc, ← h.tag, etaL]
      rfl
    rw [e, show pre ++ y' :: ys' = (pre ++ [y']) ++ ys' by simp]
    exact ih (pre ++ [y']) (by omega) h1 (by simp at h2 ⊢; omega)
theorem Seq.held {xs xs' : List S26} {m r : Int} (h : Seq xs m r xs') : ∀ (pre : List S26), 0 ≤ m → r ≤ 4611686018427387000 → pre.length + xs.length ≤ 4611686018427387000 → Ev (fun k => laws_heldItemS.l0 k (pre ++ xs') m ((pre.length : Nat) : Int)) r := by
  induction h with
  | nil m =>
    intro pre _ _ _
    exact Ev.step (fun k => by rw [laws_heldItemS.l0]) (ev_neg (by simp) (Ev.now _))
  | cons h t ih =>
    rename_i y y' ys ys' m r1 r
    intro pre h0 h1 h2
    have hl := h.lo
    have ht := t.le
    refine Ev.step (fun k => by rw [laws_heldItemS.l0]) (ev_pos (by simp; omega) (ev_pos (by omega) ?_))
    rw [rd_mid, w64 (n := m + 1) (by omega) (by omega), w64 (n := m + 1 + 1) (by omega) (by omega), show m + 1 + 1 = m + 2 by omega, show wrap64 (((pre.length : Nat) : Int) + 1) = (((pre ++ [y']).length : Nat) : Int) by rw [w64 (by simp at h2; omega) (by simp at h2; omega)]; simp]
    refine ev_pos h.tag (Ev.bind h.text (ev_pos rfl (Ev.bind h.held (ev_neg (by omega) ?_))))
    rw [show pre ++ y' :: ys' = (pre ++ [y']) ++ ys' by simp]
    exact ih (pre ++ [y']) (by omega) h1 (by simp at h2 ⊢; omega)
theorem marked_row (n : Nat) (item : ∀ (y : S26), WL n y → wtL n y ≤ 16777216 → ∀ m : Int, 0 ≤ m → m ≤ 4611686018425000000 - 2 * (1 + wtL n y) → ∃ r y', Node y m r y' ∧ r ≤ m + 2 * (1 + wtL n y)) :
    ∀ (l : List S26), (∀ y ∈ l, WL n y) → l.length + (l.map (wtL n)).sum ≤ 16777216 → ∀ m : Int, 0 ≤ m → m ≤ 4611686018425000000 - 2 * (l.length + (l.map (wtL n)).sum) → ∃ r l', Seq l m r l' ∧ r ≤ m + 2 * (l.length + (l.map (wtL n)).sum)
  | [], _, _, m, _, _ => ⟨m, [], Seq.nil m, by simp⟩
  | y :: l, hw, hb, m, h0, h1 => by
    rw [List.length_cons, List.map_cons, List.sum_cons] at hb h1
    obtain ⟨r1, y', hn, hr1⟩ := item y (hw y List.mem_cons_self) (by omega) m h0 (by omega)
    have hl := hn.lo
    obtain ⟨r, l', hs, hr⟩ := marked_row n item l (fun z hz => hw z (List.mem_cons_of_mem _ hz)) (by omega) r1 (by omega) (by omega)
    refine ⟨r, y' :: l', Seq.cons hn hs, ?_⟩
    rw [List.length_cons, List.map_cons, List.sum_cons]
    omega
theorem marked_item : ∀ (n : Nat) (y : S26), WL n y → wtL n y ≤ 16777216 → ∀ m : Int, 0 ≤ m → m ≤ 4611686018425000000 - 2 * (1 + wtL n y) → ∃ r y', Node y m r y' ∧ r ≤ m + 2 * (1 + wtL n y)
  | 0, _, h, _, _, _, _ => h.elim
  | n + 1, y, ⟨_, _, hk⟩, hb, m, h0, h1 => by
    have e : wtL (n + 1) y = y.f1.size + (y.f2.length + (y.f2.map (wtL n)).sum) := rfl
    rw [e] at hb h1 ⊢
    obtain ⟨r, l', hs, hr⟩ := marked_row n (marked_item n) y.f2 hk (by omega) (m + 2) (by omega) (by omega)
    obtain ⟨t, ht⟩ := mtext (m + 1) (by omega)
    have hle := hs.le
    refine ⟨r, ⟨m, t, l'⟩, ⟨rfl, ht, Ev.step (fun k => by rw [laws_markItemS.f]) ?_, Ev.step (fun k => by rw [laws_heldItemS.f]) ?_, hle⟩, by omega⟩
    · exact hs.mark [] (by omega) (by omega) (by simp; omega)
    · exact hs.held [] (by omega) (by omega) (by simp; omega)
/-- A tree's rows, marked from 1 on, hold their marks. -/
theorem marked (n : Nat) (l : List S26) (hw : ∀ y ∈ l, WL n y) (hb : l.length + (l.map (wtL n)).sum ≤ 16777216) : ∃ (r : Int) (l' : List S26), 1 ≤ r ∧ Ev (fun k => laws_markItemS.f k l 1) (r, l') ∧ Ev (fun k => laws_heldItemS.f k l' 1) r := by
  obtain ⟨r, l', hs, hr⟩ := marked_row n (marked_item n) l hw hb 1 (by omega) (by omega)
  exact ⟨r, l', hs.le, Ev.step (fun k => by rw [laws_markItemS.f]; rfl) (hs.mark [] (by omega) (by omega) (by simp; omega)), Ev.step (fun k => by rw [laws_heldItemS.f]; rfl) (hs.held [] (by omega) (by omega) (by simp; omega))⟩

theorem set_snoc (l : List Int) (i : Nat) (t : Int) (tl : List Int) (h : i < l.length) : (l.take i ++ t :: tl).set i (rd l i) = l.take (i + 1) ++ tl := by
  have hl : (l.take i).length = i := by rw [List.length_take]; omega
  have hr : rd l i = l[i] := by simp [rd, List.getD_eq_getElem?_getD, List.getElem?_eq_getElem h]
  rw [List.set_append_right _ _ (by omega), hl, Nat.sub_self, List.set_cons_zero, hr, List.take_succ_eq_append_getElem h, List.append_assoc]
  rfl
theorem toint_loop (l : List Int) (hl : l.length ≤ 1048576) : ∀ (d i : Nat) (tl : List Int), tl.length = d → i + d = l.length → Ev (fun k => laws_toIntS.l0 k l (l.take i ++ tl) (i : Int)) l := by
  intro d
  induction d with
  | zero =>
    intro i tl ht hi
    obtain rfl : tl = [] := List.eq_nil_of_length_eq_zero ht
    refine Ev.step (fun k => by rw [laws_toIntS.l0]) ?_
    refine ev_neg (by omega) ?_
    rw [List.append_nil, List.take_of_length_le (by omega)]
    exact Ev.now _
  | succ d ih =>
    intro i tl ht hi
    obtain ⟨t, tl, rfl⟩ : ∃ t tl', tl = t :: tl' := by cases tl with | nil => simp at ht | cons t tl => exact ⟨t, tl, rfl⟩
    refine Ev.step (fun k => by rw [laws_toIntS.l0]) ?_
    refine ev_pos (by omega) (ev_pos (by omega) (ev_pos ?_ ?_))
    · simp at ht; simp [List.length_take]; omega
    · rw [show wrap64 ((i : Int) + 1) = ((i + 1 : Nat) : Int) by rw [w64 (by omega) (by omega)]; omega, Int.toNat_natCast, set_snoc l i t tl (by omega)]
      exact ih (i + 1) tl (by simpa using ht) (by omega)
theorem toint (l : List Int) (hl : l.length ≤ 1048576) : Ev (fun k => laws_toIntS.f k l) l := by
  simp only [laws_toIntS.f]
  refine ev_pos (by omega) (ev_pos (by omega) ?_)
  have := toint_loop l hl l.length 0 (List.replicate l.length 0) (by simp) (by omega)
  simpa using this

theorem eqint_loop (l : List Int) (hl : l.length ≤ 1048576) : ∀ (d i : Nat), i + d = l.length → Ev (fun k => laws_eqIntS.l0 k l l (i : Int)) true := by
  intro d
  induction d with
  | zero =>
    intro i hi
    refine Ev.step (fun k => by rw [laws_eqIntS.l0]) ?_
    exact ev_neg (by omega) (Ev.now _)
  | succ d ih =>
    intro i hi
    refine Ev.step (fun k => by rw [laws_eqIntS.l0]) ?_
    refine ev_pos (by omega) (ev_pos (by omega) (ev_pos (by omega) (ev_pos rfl ?_)))
    rw [show wrap64 ((i : Int) + 1) = ((i + 1 : Nat) : Int) by rw [w64 (by omega) (by omega)]; omega]
    exact ih (i + 1) (by omega)
theorem eqint (l : List Int) (hl : l.length ≤ 1048576) : Ev (fun k => laws_eqIntS.f k l l) true := by
  simp only [laws_eqIntS.f]
  refine ev_pos trivial ?_
  exact eqint_loop l hl l.length 0 (by omega)

def runI : Int → Nat → List Int
  | _, 0 => []
  | a, n + 1 => a :: runI (a + 1) n
theorem runI_len : ∀ (n : Nat) (a : Int), (runI a n).length = n
  | 0, _ => rfl
  | n + 1, a => by simp [runI, runI_len n]
theorem runI_snoc : ∀ (n : Nat) (a : Int), runI a (n + 1) = runI a n ++ [a + n]
  | 0, a => by simp [runI]
  | n + 1, a => by
    rw [runI, runI_snoc n (a + 1), runI]
    simp; omega
theorem mark_loop (l : List Int) (a : Int) (ha : 0 ≤ a) (hl : a + l.length ≤ 9223372036854775806) : ∀ (d i : Nat), i + d = l.length →
    Ev (fun k => laws_markIntS.l0 k (runI a i ++ l.drop i) (a + i) (i : Int)) (a + l.length, runI a l.length) := by
  intro d
  induction d with
  | zero =>
    intro i hi
    refine Ev.step (fun k => by rw [laws_markIntS.l0]) ?_
    obtain rfl : i = l.length := by omega
    refine ev_neg ?_ ?_
    · simp [runI_len]
    · simp; exact Ev.now _
  | succ d ih =>
    intro i hi
    refine Ev.step (fun k => by rw [laws_markIntS.l0]) ?_
    refine ev_pos ?_ (ev_pos (by omega) ?_)
    · simp [runI_len]; omega
    · rw [show wrap64 ((i : Int) + 1) = ((i + 1 : Nat) : Int) by rw [w64 (by omega) (by omega)]; omega,
        show wrap64 (a + i + 1) = a + ((i + 1 : Nat) : Int) by rw [w64 (by omega) (by omega)]; omega, Int.toNat_natCast,
        List.set_append_right _ _ (by rw [runI_len]; omega), runI_len, Nat.sub_self, List.drop_eq_getElem_cons (show i < l.length by omega), List.set_cons_zero]
      have := ih (i + 1) (by omega)
      rw [runI_snoc, List.append_assoc] at this
      exact this
theorem mark (l : List Int) (a : Int) (ha : 0 ≤ a) (hl : a + l.length ≤ 9223372036854775806) : Ev (fun k => laws_markIntS.f k l a) (a + l.length, runI a l.length) := by
  simp only [laws_markIntS.f]
  have := mark_loop l a ha hl l.length 0 (by omega)
  simpa [runI] using this

/-! A letter: weighed, made anew, compared, marked. -/
theorem less_step (b : Int) (w : Nat) (h0 : 0 ≤ b) (h1 : b ≤ 1048576) (hw : w ≤ 9223372036854775807) : wrap64 (b - (w : Int)) = b - (w : Int) := w64 (by omega) (by omega)
theorem sz_cert (a0 : Int) (a1 a2 : ByteArray) (a3 a4 : Int) (a5 : ByteArray) (a6 : Bool) (a7 a8 : Int) (l9 : List Int) (l10 l11 : List ByteArray) (a12 : ByteArray)
    (s1 : a1.size ≤ 9223372036854775807) (s2 : a2.size ≤ 9223372036854775807) (s5 : a5.size ≤ 9223372036854775807) (s12 : a12.size ≤ 9223372036854775807) (h9 : l9.length ≤ 9223372036854775807)
    (h10 : l10.length ≤ 9223372036854775807) (w10 : ∀ s ∈ l10, s.size ≤ 9223372036854775807) (h11 : l11.length ≤ 9223372036854775807) (w11 : ∀ s ∈ l11, s.size ≤ 9223372036854775807) :
    ∃ n : Int, Ev (fun k => laws_szCert.f k a0 a1 a2 a3 a4 a5 a6 a7 a8 l9 l10 l11 a12 1048576) n ∧ (¬ n < 0 → wtC a1 a2 a5 l9 l10 l11 a12 ≤ 1048576) := by
  simp only [laws_szCert.f, laws_szIntS.f]
  rw [less_step 1048576 a1.size (by omega) (by omega) s1]
  by_cases c1 : (1048576 : Int) - (a1.size : Int) < 0
  · exact ⟨-1, ev_pos c1 (Ev.now _), fun h => absurd (by omega) h⟩
  obtain ⟨b1, e1⟩ : ∃ b : Int, (1048576 : Int) - (a1.size : Int) = b := ⟨_, rfl⟩
  rw [e1] at c1 ⊢
  rw [less_step b1 a2.size (by omega) (by omega) s2]
  by_cases c2 : b1 - (a2.size : Int) < 0
  · exact ⟨-1, ev_neg c1 (ev_pos c2 (Ev.now _)), fun h => absurd (by omega) h⟩
  obtain ⟨b2, e2⟩ : ∃ b : Int, b1 - (a2.size : Int) = b := ⟨_, rfl⟩
  rw [e2] at c2 ⊢
  rw [less_step b2 a5.size (by omega) (by omega) s5]
  by_cases c5 : b2 - (a5.size : Int) < 0
  · exact ⟨-1, ev_neg c1 (ev_neg c2 (ev_pos c5 (Ev.now _))), fun h => absurd (by omega) h⟩
  obtain ⟨b5, e5⟩ : ∃ b : Int, b2 - (a5.size : Int) = b := ⟨_, rfl⟩
  rw [e5] at c5 ⊢
  rw [less_step b5 l9.length (by omega) (by omega) h9]
  by_cases c9 : b5 - (l9.length : Int) < 0
  · exact ⟨-1, ev_neg c1 (ev_neg c2 (ev_neg c5 (Ev.bind (g := fun _ => if b5 - (l9.length : Int) < 0 then some (-1) else some (b5 - (l9.length : Int))) (a := -1) (ev_pos c9 (Ev.now _)) (ev_pos (by omega) (Ev.now _))))), fun h => absurd (by omega) h⟩
  obtain ⟨b9, e9⟩ : ∃ b : Int, b5 - (l9.length : Int) = b := ⟨_, rfl⟩
  rw [e9] at c9 ⊢
  have g9 : Ev (fun _ : Nat => if b9 < 0 then some (-1) else some b9) b9 := ev_neg c9 (Ev.now _)
  have v10 := sz_strs l10 h10 w10 b9 (by omega) (by omega)
  by_cases c10 : ((l10.length + wtS l10 : Nat) : Int) ≤ b9
  · have x10 : lessV b9 (l10.length + wtS l10) = b9 - ((l10.length + wtS l10 : Nat) : Int) := if_pos c10
    rw [x10] at v10
    obtain ⟨b10, e10⟩ : ∃ b : Int, b9 - ((l10.length + wtS l10 : Nat) : Int) = b := ⟨_, rfl⟩
    rw [e10] at v10
    have v11 := sz_strs l11 h11 w11 b10 (by omega) (by omega)
    by_cases c11 : ((l11.length + wtS l11 : Nat) : Int) ≤ b10
    · have x11 : lessV b10 (l11.length + wtS l11) = b10 - ((l11.length + wtS l11 : Nat) : Int) := if_pos c11
      rw [x11] at v11
      obtain ⟨b11, e11⟩ : ∃ b : Int, b10 - ((l11.length + wtS l11 : Nat) : Int) = b := ⟨_, rfl⟩
      rw [e11] at v11
      have y12 := less_step b11 a12.size (by omega) (by omega) s12
      by_cases c12 : b11 - (a12.size : Int) < 0
      · refine ⟨-1, ev_neg c1 (ev_neg c2 (ev_neg c5 (Ev.bind g9 (ev_neg c9 (Ev.bind v10 (ev_neg (by omega) (Ev.bind v11 (ev_neg (by omega) ?_)))))))), fun h => absurd (by omega) h⟩
        rw [y12]
        exact ev_pos c12 (Ev.now _)
      · refine ⟨b11 - (a12.size : Int), ev_neg c1 (ev_neg c2 (ev_neg c5 (Ev.bind g9 (ev_neg c9 (Ev.bind v10 (ev_neg (by omega) (Ev.bind v11 (ev_neg (by omega) ?_)))))))), fun _ => ?_⟩
        · rw [y12]
          exact ev_neg c12 (Ev.now _)
        · unfold wtC
          omega
    · have x11 : lessV b10 (l11.length + wtS l11) = -1 := if_neg c11
      rw [x11] at v11
      exact ⟨-1, ev_neg c1 (ev_neg c2 (ev_neg c5 (Ev.bind g9 (ev_neg c9 (Ev.bind v10 (ev_neg (by omega) (Ev.bind v11 (ev_pos (by omega) (Ev.now _))))))))), fun h => absurd (by omega) h⟩
  · have x10 : lessV b9 (l10.length + wtS l10) = -1 := if_neg c10
    rw [x10] at v10
    exact ⟨-1, ev_neg c1 (ev_neg c2 (ev_neg c5 (Ev.bind g9 (ev_neg c9 (Ev.bind v10 (ev_pos (by omega) (Ev.now _))))))), fun h => absurd (by omega) h⟩
theorem to_cert (a0 : Int) (a1 a2 : ByteArray) (a3 a4 : Int) (a5 : ByteArray) (a6 : Bool) (a7 a8 : Int) (l9 : List Int) (l10 l11 : List ByteArray) (a12 : ByteArray) (h9 : l9.length ≤ 1048576) (h10 : l10.length ≤ 1048576) (h11 : l11.length ≤ 1048576) :
    Ev (fun k => laws_toCert.f k a0 a1 a2 a3 a4 a5 a6 a7 a8 l9 l10 l11 a12) (a0, a1, a2, a3, a4, a5, a6, a7, a8, l9, l10, l11, a12) := by
  simp only [laws_toCert.f]
  exact Ev.bind (toint l9 h9) (Ev.bind (tostr l10 h10) (Ev.bind (tostr l11 h11) (Ev.now _)))

theorem eq_cert (a0 : Int) (a1 a2 : ByteArray) (a3 a4 : Int) (a5 : ByteArray) (a6 : Bool) (a7 a8 : Int) (l9 : List Int) (l10 l11 : List ByteArray) (a12 : ByteArray) (h9 : l9.length ≤ 1048576) (h10 : l10.length ≤ 1048576) (h11 : l11.length ≤ 1048576) :
    Ev (fun k => laws_eqCert.f k a0 a1 a2 a3 a4 a5 a6 a7 a8 l9 l10 l11 a12 a0 a1 a2 a3 a4 a5 a6 a7 a8 l9 l10 l11 a12) true := by
  simp only [laws_eqCert.f]
  refine ev_pos (by first | rfl | trivial) (ev_pos (by first | rfl | trivial) (ev_pos (by first | rfl | trivial) (ev_pos (by first | rfl | trivial) (ev_pos (by first | rfl | trivial) (ev_pos (by first | rfl | trivial) (ev_neg (by simp) (ev_pos (by first | rfl | trivial) (ev_pos (by first | rfl | trivial) ?_))))))))
  exact Ev.bind (eqint l9 h9) (ev_pos rfl (Ev.bind (eqstr l10 h10) (ev_pos rfl (Ev.bind (eqstr l11 h11) (ev_pos rfl (ev_pos (by first | rfl | trivial) (Ev.now _)))))))
theorem mark_strs (l : List ByteArray) (hl : l.length ≤ 1048576) (m : Int) (h0 : 0 ≤ m) (h1 : m ≤ 1099511627776) : ∃ l' : List ByteArray, Ev (fun k => laws_markStringS.f k l m) (m + l.length, l') := by
  have loop : ∀ (d i : Nat) (xs : List ByteArray), xs.length = l.length → i + d = l.length → ∃ l' : List ByteArray, Ev (fun k => laws_markStringS.l0 k xs (m + (i : Int)) (i : Int)) (m + l.length, l') := by
    intro d
    induction d with
    | zero =>
      intro i xs hx hi
      refine ⟨xs, Ev.step (fun k => by rw [laws_markStringS.l0]) (ev_neg (by omega) ?_)⟩
      rw [show i = l.length by omega]
      exact Ev.now _
    | succ d ih =>
      intro i xs hx hi
      obtain ⟨t, et⟩ := mtext (m + (i : Int)) (by omega)
      obtain ⟨l', e⟩ := ih (i + 1) (xs.set ((i : Int)).toNat t) (by rw [List.length_set]; exact hx) (by omega)
      refine ⟨l', Ev.step (fun k => by rw [laws_markStringS.l0]) (ev_pos (by omega) (Ev.bind et ?_))⟩
      refine ev_pos (show (0 : Int) ≤ (i : Int) by omega) ?_
      rw [show wrap64 ((i : Int) + 1) = ((i + 1 : Nat) : Int) by rw [w64 (by omega) (by omega)]; omega, show wrap64 (m + (i : Int) + 1) = m + ((i + 1 : Nat) : Int) by rw [w64 (by omega) (by omega)]; omega]
      exact e
  obtain ⟨l', e⟩ := loop l.length 0 l rfl (by omega)
  refine ⟨l', ?_⟩
  simp only [laws_markStringS.f]
  simpa using e
theorem mark_cert (a0 : Int) (a1 a2 : ByteArray) (a3 a4 : Int) (a5 : ByteArray) (a6 : Bool) (a7 a8 : Int) (l9 : List Int) (l10 l11 : List ByteArray) (a12 : ByteArray) (h9 : l9.length ≤ 1048576) (h10 : l10.length ≤ 1048576) (h11 : l11.length ≤ 1048576) :
    ∃ (m : Int) (p : List Int) (q r : List ByteArray), Ev (fun k => laws_markCert.f k a0 a1 a2 a3 a4 a5 a6 a7 a8 l9 l10 l11 a12 1) (m, p, q, r) ∧ ¬ m < 0 := by
  simp only [laws_markCert.f]
  have e9 := mark l9 1 (by omega) (by omega)
  obtain ⟨q, e10⟩ := mark_strs l10 h10 (1 + (l9.length : Int)) (by omega) (by omega)
  obtain ⟨r, e11⟩ := mark_strs l11 h11 (1 + (l9.length : Int) + (l10.length : Int)) (by omega) (by omega)
  exact ⟨_, _, q, r, Ev.bind e9 (Ev.bind e10 (Ev.bind e11 (Ev.now _))), by show ¬ 1 + (l9.length : Int) + (l10.length : Int) + (l11.length : Int) < 0; omega⟩

theorem FnExactBodyItem : laws_FnExactBodyItem.Pure := by
  intro a0 a1 a2 a3 a4 a5 a6 a7 a8 l9 l10 l11 a12 s1 s2 s5 s12 h9 h10 w10 h11 w11
  refine Ev.rounds (g := fun k => laws_FnExactBodyItem.f k a0 a1 a2 a3 a4 a5 a6 a7 a8 l9 l10 l11 a12) ?_
  simp only [laws_FnExactBodyItem.f]
  obtain ⟨n, en, hn⟩ := sz_cert a0 a1 a2 a3 a4 a5 a6 a7 a8 l9 l10 l11 a12 s1 s2 s5 s12 h9 h10 w10 h11 w11
  refine Ev.bind en ?_
  by_cases c : n < 0
  · exact ev_pos c (Ev.now _)
  have hw := hn c
  have b9 : l9.length ≤ 1048576 := by unfold wtC at hw; omega
  have b10 : l10.length ≤ 1048576 := by unfold wtC at hw; omega
  have b11 : l11.length ≤ 1048576 := by unfold wtC at hw; omega
  have hb := body_WL a0 a1 a2 a3 a4 a5 a6 a7 a8 l9 l10 l11 a12 hw
  have es := spec_body a0 a1 a2 a3 a4 a5 a6 a7 a8 l9 l10 l11 a12 b9 b10 b11
  have ei := impl_body a0 a1 a2 a3 a4 a5 a6 a7 a8 l9 l10 l11 a12 hw
  have wt := wt_body a0 a1 a2 a3 a4 a5 a6 a7 a8 l9 l10 l11 a12 hw
  have hl : (bodyL a0 a1 a2 a3 a4 a5 a6 a7 a8 l9 l10 l11).length ≤ 1048576 := by simp [bodyL]
  obtain ⟨L, hL⟩ : ∃ L, bodyL a0 a1 a2 a3 a4 a5 a6 a7 a8 l9 l10 l11 = L := ⟨_, rfl⟩
  rw [hL] at hb es ei wt hl
  obtain ⟨r, L', h1, mk, hd⟩ := marked 2 L hb wt
  obtain ⟨m, p, q, t, em, hm⟩ := mark_cert a0 a1 a2 a3 a4 a5 a6 a7 a8 l9 l10 l11 a12 b9 b10 b11
  refine ev_neg c (Ev.bind (to_cert a0 a1 a2 a3 a4 a5 a6 a7 a8 l9 l10 l11 a12 b9 b10 b11) (Ev.bind es (Ev.bind ei (Ev.bind (eq_item 3 ⟨48, (⟨#[]⟩ : ByteArray), L⟩ ⟨by show 0 ≤ 1048576; omega, hl, hb⟩) (ev_pos rfl (Ev.bind (eq_cert a0 a1 a2 a3 a4 a5 a6 a7 a8 l9 l10 l11 a12 b9 b10 b11) (ev_pos rfl (Ev.bind em (ev_neg hm ?_)))))))))
  have mi : Ev (fun k => laws_markItem.f k 48 (⟨#[]⟩ : ByteArray) L 1) (r, L') := by
    simp only [laws_markItem.f]
    exact mk
  refine Ev.bind mi (Ev.bind (a := r) ?_ (ev_neg (by omega) (ev_pos rfl (Ev.now _))))
  simp only [laws_heldItem.f]
  exact Ev.bind hd (ev_neg (by omega) (Ev.now _))

end Go.Proofs.Ytknalcnbkbkjdaa.Pure
