/- The law FnExactIntIn answers true for every argument: the program's IntIn and the reference's come to the same answer. -/
import Derived.Test.YtkhmcioeceiepaaGFnExactIntInx6
import Derived.Test.YtkhmcioeceiepaaOFnExactIntIn
set_option linter.unusedVariables false
set_option linter.unusedSimpArgs false
namespace Go.Proofs.Ytkhmcioeceiepaa.Pure
open Go.RowKit Go.ChangeShapes Go.Proofs.Ytkhmcioeceiepaa.GFnExactIntIn Go.Proofs.YtkhmcioeceiepaaW.PrintWords Go.Proofs.YtkhmcioeceiepaaW.PrintLast

theorem w64 {n : Int} (h0 : -9223372036854775808 ≤ n) (h1 : n ≤ 9223372036854775807) : wrap64 n = n := by unfold wrap64; omega
theorem ev_pos {α : Type} {c : Prop} [Decidable c] {f g : Nat → Option α} {r : α} (h : c) (k : Ev f r) : Ev (fun n => if c then f n else g n) r := by
  simpa only [if_pos h] using k
theorem ev_neg {α : Type} {c : Prop} [Decidable c] {f g : Nat → Option α} {r : α} (h : ¬ c) (k : Ev g r) : Ev (fun n => if c then f n else g n) r := by
  simpa only [if_neg h] using k
theorem tdivN (n m : Nat) : Int.tdiv (n : Int) (m : Int) = ((n / m : Nat) : Int) := rfl
theorem tmodN (n m : Nat) : Int.tmod (n : Int) (m : Int) = ((n % m : Nat) : Int) := rfl
theorem tdiv_pos' {n m : Int} (h : 0 ≤ n) : Int.tdiv n m = n / m := Int.tdiv_eq_ediv_of_nonneg h
theorem tmod_pos' {n m : Int} (h : 0 ≤ n) : Int.tmod n m = n % m := Int.tmod_eq_emod_of_nonneg h
theorem bt_rng (s : ByteArray) (i : Int) : 0 ≤ bt s i ∧ bt s i ≤ 255 := bt_range s i
theorem bt_bytes (s : ByteArray) (i : Nat) : bt s i = (bytesOf s).getD i 0 := (rd_bytesOf s i).symm
theorem drop_bytes (s : ByteArray) (i : Nat) (h : i < s.size) : (bytesOf s).drop i = bt s i :: (bytesOf s).drop (i + 1) := by
  have h' : i < (bytesOf s).length := by rw [bytesOf_length]; exact h
  rw [List.drop_eq_getElem_cons h', bt_bytes, List.getD_eq_getElem?_getD, List.getElem?_eq_getElem h']
  rfl

theorem toList_size (s : ByteArray) : s.toList.length = s.size := by rw [ByteArray.toList_eq, Array.length_toList]; rfl
theorem extract_toList (s : ByteArray) (i j : Nat) : (s.extract i j).toList = (s.toList.drop i).take (j - i) := by
  rw [ByteArray.toList_eq, ByteArray.toList_eq]; simp [ByteArray.data_extract, List.extract_eq_take_drop]
theorem append_toList (s t : ByteArray) : (s ++ t).toList = s.toList ++ t.toList := by
  rw [ByteArray.toList_eq, ByteArray.toList_eq, ByteArray.toList_eq]; simp [ByteArray.data_append]
theorem nums_toList (l : List Int) : (strOfNums l).toList = l.map fun n => UInt8.ofNat n.toNat := by rw [ByteArray.toList_eq, strOfNums_data]

def bN (s : ByteArray) : List Nat := s.data.toList.map UInt8.toNat
theorem bN_len (s : ByteArray) : (bN s).length = s.size := by rw [bN, List.length_map, Array.length_toList]; rfl
theorem bN_lt (s : ByteArray) : ∀ b ∈ bN s, b < 256 := by
  intro b hb
  obtain ⟨c, _, rfl⟩ := List.mem_map.1 hb
  exact c.toNat_lt
theorem bt_bN (s : ByteArray) (i : Nat) : bt s i = ((bN s).getD i 0 : Nat) := by
  unfold bt bN
  split
  · rename_i h
    have h' : i < s.data.toList.length := by rw [Array.length_toList]; exact h
    simp [List.getD_eq_getElem?_getD, List.getElem?_eq_getElem h']
    rfl
  · rename_i h
    have h' : s.data.toList.length ≤ i := by rw [Array.length_toList]; simpa using h
    simp [List.getD_eq_getElem?_getD, List.getElem?_eq_none h']
theorem bN_toList (s : ByteArray) : s.toList = (bN s).map UInt8.ofNat := by
  rw [ByteArray.toList_eq, bN, List.map_map]
  symm
  exact (List.map_congr_left (fun b _ => by simp)).trans (List.map_id _)
theorem drop_get (l : List Nat) (i : Nat) (pre : List Nat) (c : Nat) (rest : List Nat) (h : l.drop i = pre ++ c :: rest) : l.getD (i + pre.length) 0 = c := by
  have h2 : (l.drop i)[pre.length]? = some c := by rw [h, List.getElem?_append_right (Nat.le_refl _)]; simp
  rw [List.getElem?_drop] at h2
  rw [List.getD_eq_getElem?_getD, h2]; rfl

theorem str_append (l m : List Int) : strOfNums l ++ strOfNums m = strOfNums (l ++ m) := by
  apply ByteArray.ext
  rw [ByteArray.data_append]
  unfold strOfNums
  simp
theorem str_toList_nil (l : List Int) : (strOfNums l).toList = [] ↔ l = [] := by rw [nums_toList]; simp
theorem bt_str (l : List Int) (h : ∀ x ∈ l, 0 ≤ x ∧ x < 256) : bt (strOfNums l) 0 = l.getD 0 0 := by
  cases l with
  | nil => simp [bt, strOfNums, ByteArray.size]
  | cons x l =>
    have hx := h x (by simp)
    have e : bt (strOfNums (x :: l)) ((0 : Nat) : Int) = ((bN (strOfNums (x :: l))).getD 0 0 : Nat) := bt_bN _ 0
    have e2 : bN (strOfNums (x :: l)) = (x :: l).map fun n => (UInt8.ofNat n.toNat).toNat := by
      unfold bN
      rw [strOfNums_data, List.map_map]
      rfl
    rw [show bt (strOfNums (x :: l)) 0 = bt (strOfNums (x :: l)) ((0 : Nat) : Int) from rfl, e, e2]
    simp
    omega
def be (n : Nat) : List Int := if 0 < n then be (n / 256) ++ [((n % 256 : Nat) : Int)] else []
termination_by n
decreasing_by omega
theorem be_rng (n : Nat) : ∀ x ∈ be n, 0 ≤ x ∧ x < 256 := by
  induction n using Nat.strongRecOn with
  | _ n ih =>
    intro x hx
    rw [be] at hx
    split at hx
    · rcases List.mem_append.1 hx with h | h
      · exact ih (n / 256) (by omega) x h
      · simp at h; omega
    · simp at hx
theorem be_len (n : Nat) : (be n).length ≤ n := by
  induction n using Nat.strongRecOn with
  | _ n ih =>
    rw [be]
    split
    · have := ih (n / 256) (by omega)
      simp; omega
    · simp
theorem be_pos (n : Nat) (h : 0 < n) : be n ≠ [] := by rw [be, if_pos h]; simp
/-- The bytes of IntItem. -/
def intB (n : Nat) : List Int := if n = 0 then [0] else be n
def intL (n : Nat) : List Int := if 128 ≤ (intB n).getD 0 0 then 0 :: intB n else intB n
def intN (a : Int) : Nat := if 0 ≤ a ∧ a ≤ 1000000000 then a.toNat else 0
def intV (a : Int) : Int × ByteArray × List S39 := (2, strOfNums (intL (intN a)), [])

theorem impl_int (n : Nat) : ∀ acc : List Int, n + acc.length ≤ 2000000000 → acc ≠ [] → Ev (fun k => impl_IntItem.l0 k (n : Int) acc) (2, strOfNums (if 128 ≤ (be n ++ acc).getD 0 0 then 0 :: (be n ++ acc) else be n ++ acc), []) := by
  induction n using Nat.strongRecOn with
  | _ n ih =>
    intro acc hl ha
    refine Ev.step (fun k => by rw [impl_IntItem.l0]) ?_
    by_cases h : 0 < n
    · refine ev_pos (by omega) ?_
      have e1 : (n : Int) / 256 = ((n / 256 : Nat) : Int) := by omega
      have e2 : (n : Int) % 256 = ((n % 256 : Nat) : Int) := by omega
      rw [e1, e2]
      refine Ev.bind (g := fun _ => some [((n % 256 : Nat) : Int)]) (Ev.now _) (ev_pos (by simp; omega) ?_)
      have := ih (n / 256) (by omega) ([((n % 256 : Nat) : Int)] ++ acc) (by simp; omega) (by simp)
      rw [be, if_pos h, List.append_assoc]
      exact this
    · refine ev_neg (by omega) ?_
      have e0 : be n = [] := by rw [be, if_neg h]
      rw [e0, List.nil_append]
      refine ev_pos ?_ ?_
      · cases acc with
        | nil => exact absurd rfl ha
        | cons x l => simp
      · have er : rd acc 0 = acc.getD 0 0 := rfl
        rw [er]
        by_cases hb : acc.getD 0 0 ≥ 128
        · refine ev_pos hb (Ev.bind (g := fun _ => some [(0 : Int)]) (Ev.now _) (ev_pos (by simp; omega) ?_))
          rw [if_pos hb]
          exact Ev.now _
        · refine ev_neg hb ?_
          rw [if_neg hb]
          exact Ev.now _
theorem impl_int_ev (a : Int) : Ev (fun k => impl_IntItem.f k a) (intV a) := by
  have key : ∀ n : Nat, n ≤ 1000000000 → Ev (fun k => impl_IntItem.j0 k (n : Int)) (2, strOfNums (intL n), []) := by
    intro n hn
    refine Ev.step (fun k => by rw [impl_IntItem.j0]) ?_
    have e1 : (n : Int) / 256 = ((n / 256 : Nat) : Int) := by omega
    have e2 : (n : Int) % 256 = ((n % 256 : Nat) : Int) := by omega
    rw [e1, e2]
    have := impl_int (n / 256) [((n % 256 : Nat) : Int)] (by simp; omega) (by simp)
    have hv : be (n / 256) ++ [((n % 256 : Nat) : Int)] = intB n := by
      unfold intB
      by_cases h : n = 0
      · subst h
        rw [if_pos rfl, be, if_neg (by omega)]; rfl
      · rw [if_neg h, be.eq_1 n, if_pos (by omega)]
    rw [hv] at this
    exact this
  simp only [impl_IntItem.f, impl_within.f]
  unfold intV intN
  by_cases h0 : 0 ≤ a
  · by_cases h1 : a ≤ 1000000000
    · obtain ⟨m, rfl⟩ := Int.eq_ofNat_of_zero_le h0
      rw [if_pos (by omega), if_pos ⟨h0, h1⟩]
      exact Ev.bind (g := fun _ => some (decide ((m : Int) ≤ 1000000000))) (a := true) (by rw [decide_eq_true h1]; exact Ev.now _) (ev_pos rfl (key m (by omega)))
    · rw [if_pos (by omega), if_neg (fun h => h1 h.2)]
      exact Ev.bind (g := fun _ => some (decide (a ≤ 1000000000))) (a := false) (by rw [decide_eq_false h1]; exact Ev.now _) (ev_neg Bool.false_ne_true (key 0 (by omega)))
  · rw [if_neg (by omega), if_neg (fun h => h0 h.1)]
    exact Ev.bind (g := fun _ => some false) (Ev.now _) (ev_neg Bool.false_ne_true (key 0 (by omega)))

/-! Trees of items: their weight, their copy, their sameness. -/
theorem rdB (xs : List S34) (i : Nat) (h : i < xs.length) : rd_T34 xs (i : Int) = xs[i] := by
  simp [rd_T34, List.getD_eq_getElem?_getD, List.getElem?_eq_getElem h]
theorem rdL (xs : List S39) (i : Nat) (h : i < xs.length) : rd_T39 xs (i : Int) = xs[i] := by
  simp [rd_T39, List.getD_eq_getElem?_getD, List.getElem?_eq_getElem h]
theorem le_sum {α : Type} (f : α → Nat) : ∀ (l : List α) (y : α), y ∈ l → f y ≤ (l.map f).sum
  | [], _, h => by cases h
  | x :: l, y, h => by
    rcases List.mem_cons.1 h with rfl | h
    · simp
    · have := le_sum f l y h
      simp; omega
def wtB : Nat → S34 → Nat
  | 0, _ => 0
  | n + 1, x => x.f1.size + (x.f2.length + (x.f2.map (wtB n)).sum)
def lessV (b : Int) (w : Nat) : Int := if (w : Int) ≤ b then b - w else -1
theorem lessV_add (b : Int) (v w : Nat) (h : (v : Int) ≤ b) : lessV (b - v) w = lessV b (v + w) := by
  unfold lessV
  by_cases hw : (w : Int) ≤ b - v
  · rw [if_pos hw, if_pos (by omega)]; omega
  · rw [if_neg hw, if_neg (by omega)]
theorem lessV_no (b : Int) (w : Nat) (h : ¬ (w : Int) ≤ b) : lessV b w = -1 := if_neg h
theorem lessV_yes (b : Int) (w : Nat) (h : (w : Int) ≤ b) : lessV b w = b - w := if_pos h
theorem sz_row (n : Nat) (item : ∀ y, WF34 n y → ∀ b : Int, 0 ≤ b → b ≤ 1048576 → Ev (fun k => laws_szItem.f k y.f0 y.f1 y.f2 b) (lessV b (wtB n y)))
    (l : List S34) (hl : l.length ≤ maxLen) (hw : ∀ y ∈ l, WF34 n y) (b : Int) (h0 : 0 ≤ b) (h1 : b ≤ 1048576) : Ev (fun k => laws_szItemS.f k l b) (lessV b (l.length + (l.map (wtB n)).sum)) := by
  have hl' : l.length ≤ 9223372036854775807 := hl
  have loop : ∀ (d i : Nat) (b : Int), i + d = l.length → 0 ≤ b → b ≤ 1048576 → Ev (fun k => laws_szItemS.l0 k l b (i : Int)) (lessV b ((l.drop i).map (wtB n)).sum) := by
    intro d
    induction d with
    | zero =>
      intro i b hi h0 h1
      refine Ev.step (fun k => laws_szItemS.l0_eq k l b i) (ev_neg (by omega) ?_)
      rw [List.drop_eq_nil_of_le (by omega)]
      rw [show lessV b (([] : List S34).map (wtB n)).sum = b by rw [lessV_yes _ _ (by simpa using h0)]; simp]
      exact Ev.now _
    | succ d ih =>
      intro i b hi h0 h1
      have hlt : i < l.length := by omega
      refine Ev.step (fun k => laws_szItemS.l0_eq k l b i) (ev_pos (by omega) (ev_pos (by omega) ?_))
      rw [rdB l i hlt]
      refine Ev.bind (item l[i] (hw _ (List.getElem_mem hlt)) b h0 h1) ?_
      rw [List.drop_eq_getElem_cons hlt, List.map_cons, List.sum_cons]
      by_cases hc : (wtB n l[i] : Int) ≤ b
      · rw [lessV_yes _ _ hc, ← lessV_add _ _ _ hc]
        refine ev_neg (by omega) ?_
        rw [show wrap64 ((i : Int) + 1) = ((i + 1 : Nat) : Int) by rw [w64 (by omega) (by omega)]; omega]
        exact ih (i + 1) _ (by omega) (by omega) (by omega)
      · rw [lessV_no _ _ hc, lessV_no _ _ (by omega)]
        exact ev_pos (by omega) (Ev.now _)
  refine Ev.step (fun k => by rw [laws_szItemS.f]) ?_
  rw [w64 (n := b - (l.length : Int)) (by omega) (by omega)]
  by_cases hc : (l.length : Int) ≤ b
  · refine ev_neg (by omega) ?_
    rw [← lessV_add _ _ _ hc]
    have := loop l.length 0 (b - l.length) (by omega) (by omega) (by omega)
    rwa [List.drop_zero] at this
  · rw [lessV_no _ _ (by omega)]
    exact ev_pos (by omega) (Ev.now _)
theorem sz_item : ∀ (n : Nat) (x : S34), WF34 n x → ∀ b : Int, 0 ≤ b → b ≤ 1048576 → Ev (fun k => laws_szItem.f k x.f0 x.f1 x.f2 b) (lessV b (wtB n x))
  | 0, _, h, _, _, _ => h.elim
  | n + 1, x, ⟨_, hs, hl, hk⟩, b, h0, h1 => by
    have hs' : x.f1.size ≤ 9223372036854775807 := hs
    simp only [laws_szItem.f]
    rw [w64 (n := b - (x.f1.size : Int)) (by omega) (by omega)]
    have e : wtB (n + 1) x = x.f1.size + (x.f2.length + (x.f2.map (wtB n)).sum) := rfl
    rw [e]
    by_cases hc : (x.f1.size : Int) ≤ b
    · refine ev_neg (by omega) (Ev.bind (sz_row n (sz_item n) x.f2 hl hk _ (by omega) (by omega)) ?_)
      rw [lessV_add _ _ _ hc]
      by_cases hd : ((x.f1.size + (x.f2.length + (x.f2.map (wtB n)).sum) : Nat) : Int) ≤ b
      · rw [lessV_yes _ _ hd]
        exact ev_neg (by omega) (Ev.now _)
      · rw [lessV_no _ _ hd]
        exact ev_pos (by omega) (Ev.now _)
    · rw [lessV_no _ _ (by omega)]
      exact ev_pos (by omega) (Ev.now _)
theorem sz_rows (n : Nat) (l : List S34) (hl : l.length ≤ maxLen) (hw : ∀ y ∈ l, WF34 n y) (b : Int) (h0 : 0 ≤ b) (h1 : b ≤ 1048576) : Ev (fun k => laws_szItemS.f k l b) (lessV b (l.length + (l.map (wtB n)).sum)) :=
  sz_row n (sz_item n) l hl hw b h0 h1
/-! The copy. -/
theorem etaL (x : S39) : (⟨x.f0, x.f1, x.f2⟩ : S39) = x := by cases x; rfl
def cv : Nat → S34 → S39
  | 0, _ => z39
  | n + 1, x => ⟨x.f0, x.f1, x.f2.map (cv n)⟩
theorem set_next {α β : Type} (l : List α) (f : α → β) (i : Nat) (t : β) (tl : List β) (h : i < l.length) : ((l.take i).map f ++ t :: tl).set i (f l[i]) = (l.take (i + 1)).map f ++ tl := by
  have hl : ((l.take i).map f).length = i := by rw [List.length_map, List.length_take]; omega
  rw [List.set_append_right _ _ (by omega), hl, Nat.sub_self, List.set_cons_zero, List.take_succ_eq_append_getElem h, List.map_append, List.append_assoc]
  rfl
theorem to_row (n : Nat) (item : ∀ y, WF34 n y → wtB n y ≤ 1048576 → Ev (fun k => laws_toItem.f k y.f0 y.f1 y.f2) ((cv n y).f0, (cv n y).f1, (cv n y).f2))
    (l : List S34) (hw : ∀ y ∈ l, WF34 n y) (hb : l.length + (l.map (wtB n)).sum ≤ 1048576) : Ev (fun k => laws_toItemS.f k l) (l.map (cv n)) := by
  have loop : ∀ (d i : Nat) (tl : List S39), tl.length = d → i + d = l.length → Ev (fun k => laws_toItemS.l0 k l ((l.take i).map (cv n) ++ tl) (i : Int)) (l.map (cv n)) := by
    intro d
    induction d with
    | zero =>
      intro i tl ht hi
      obtain rfl : tl = [] := List.eq_nil_of_length_eq_zero ht
      refine Ev.step (fun k => laws_toItemS.l0_eq k l _ i) (ev_neg (by omega) ?_)
      rw [List.append_nil, List.take_of_length_le (by omega)]
      exact Ev.now _
    | succ d ih =>
      intro i tl ht hi
      have hlt : i < l.length := by omega
      obtain ⟨t, tl, rfl⟩ : ∃ t tl', tl = t :: tl' := by cases tl with | nil => simp at ht | cons t tl => exact ⟨t, tl, rfl⟩
      refine Ev.step (fun k => laws_toItemS.l0_eq k l _ i) (ev_pos (by omega) (ev_pos (by omega) ?_))
      rw [rdB l i hlt]
      have hm := List.getElem_mem hlt
      refine Ev.bind (item l[i] (hw _ hm) (by have := le_sum (wtB n) l _ hm; omega)) (ev_pos ?_ ?_)
      · simp at ht; simp [List.length_take]; omega
      · rw [show wrap64 ((i : Int) + 1) = ((i + 1 : Nat) : Int) by rw [w64 (by omega) (by omega)]; omega, Int.toNat_natCast]
        show Ev (fun m => laws_toItemS.l0 m l (((l.take i).map (cv n) ++ t :: tl).set i ⟨(cv n l[i]).f0, (cv n l[i]).f1, (cv n l[i]).f2⟩) ((i + 1 : Nat) : Int)) (l.map (cv n))
        rw [etaL, set_next l (cv n) i t tl hlt]
        exact ih (i + 1) tl (by simpa using ht) (by omega)
  refine Ev.step (fun k => by rw [laws_toItemS.f]) (ev_pos (by omega) (ev_pos (by omega) ?_))
  have := loop l.length 0 (List.replicate l.length z39) (by simp) (by omega)
  simpa using this
theorem to_item : ∀ (n : Nat) (x : S34), WF34 n x → wtB n x ≤ 1048576 → Ev (fun k => laws_toItem.f k x.f0 x.f1 x.f2) ((cv n x).f0, (cv n x).f1, (cv n x).f2)
  | 0, _, h, _ => h.elim
  | n + 1, x, ⟨_, _, _, hk⟩, hb => by
    have e : wtB (n + 1) x = x.f1.size + (x.f2.length + (x.f2.map (wtB n)).sum) := rfl
    simp only [laws_toItem.f]
    exact Ev.bind (to_row n (to_item n) x.f2 hk (by omega)) (Ev.now _)
theorem to_rows (n : Nat) (l : List S34) (hw : ∀ y ∈ l, WF34 n y) (hb : l.length + (l.map (wtB n)).sum ≤ 1048576) : Ev (fun k => laws_toItemS.f k l) (l.map (cv n)) :=
  to_row n (to_item n) l hw hb
/-! The little trees, of the copy. -/
def WL : Nat → S39 → Prop
  | 0, _ => False
  | n + 1, x => x.f1.size ≤ 1048576 ∧ x.f2.length ≤ 1048576 ∧ ∀ y ∈ x.f2, WL n y
theorem cv_WL : ∀ (n : Nat) (x : S34), WF34 n x → wtB n x ≤ 1048576 → WL n (cv n x)
  | 0, _, h, _ => h.elim
  | n + 1, x, ⟨_, _, _, hk⟩, hb => by
    have e : wtB (n + 1) x = x.f1.size + (x.f2.length + (x.f2.map (wtB n)).sum) := rfl
    refine ⟨by show x.f1.size ≤ 1048576; omega, by show (x.f2.map (cv n)).length ≤ 1048576; rw [List.length_map]; omega, fun y hy => ?_⟩
    obtain ⟨z, hz, rfl⟩ := List.mem_map.1 hy
    exact cv_WL n z (hk z hz) (by have := le_sum (wtB n) x.f2 z hz; omega)
theorem eq_row (n : Nat) (item : ∀ y, WL n y → Ev (fun k => laws_eqItem.f k y.f0 y.f1 y.f2 y.f0 y.f1 y.f2) true) (l : List S39) (hl : l.length ≤ 1048576) (hw : ∀ y ∈ l, WL n y) : Ev (fun k => laws_eqItemS.f k l l) true := by
  have loop : ∀ (d i : Nat), i + d = l.length → Ev (fun k => laws_eqItemS.l0 k l l (i : Int)) true := by
    intro d
    induction d with
    | zero =>
      intro i hi
      exact Ev.step (fun k => laws_eqItemS.l0_eq k l l i) (ev_neg (by omega) (Ev.now _))
    | succ d ih =>
      intro i hi
      have hlt : i < l.length := by omega
      refine Ev.step (fun k => laws_eqItemS.l0_eq k l l i) (ev_pos (by omega) (ev_pos (by omega) (ev_pos (by omega) ?_)))
      rw [rdL l i hlt]
      refine Ev.bind (item l[i] (hw _ (List.getElem_mem hlt))) (ev_pos rfl ?_)
      rw [show wrap64 ((i : Int) + 1) = ((i + 1 : Nat) : Int) by rw [w64 (by omega) (by omega)]; omega]
      exact ih (i + 1) (by omega)
  refine Ev.step (fun k => by rw [laws_eqItemS.f]) ?_
  exact ev_pos rfl (loop l.length 0 (by omega))
theorem eq_item : ∀ (n : Nat) (x : S39), WL n x → Ev (fun k => laws_eqItem.f k x.f0 x.f1 x.f2 x.f0 x.f1 x.f2) true
  | 0, _, h => h.elim
  | n + 1, x, ⟨_, hl, hk⟩ => by
    simp only [laws_eqItem.f]
    exact ev_pos trivial (ev_pos trivial (Ev.bind (eq_row n (eq_item n) x.f2 hl hk) (ev_pos rfl (Ev.now _))))
theorem eq_rows (n : Nat) (l : List S39) (hl : l.length ≤ 1048576) (hw : ∀ y ∈ l, WL n y) : Ev (fun k => laws_eqItemS.f k l l) true := eq_row n (eq_item n) l hl hw

/-! What is a right item: both sides answer by the same word. -/
def plainV (x : S39) : Bool :=
  if x.f0 = 1 then (if x.f1.toList = ([0] : List UInt8) then true else x.f1.toList == ([255] : List UInt8))
  else if x.f0 = 2 then (decide (1 ≤ x.f1.size ∧ x.f1.size ≤ 5 ∧ bt x.f1 0 < 128) && (decide (bt x.f1 0 ≠ 0 ∨ x.f1.size = 1) || decide (bt x.f1 1 ≥ 128)))
  else if x.f0 = 12 then (bN x.f1).all (fun b => decide (32 ≤ b ∧ b ≤ 126))
  else x.f0 == 4
def okV : Nat → S39 → Int → Bool
  | 0, _, _ => false
  | n + 1, x, d => if x.f0 = 48 then (if x.f1.toList = ([] : List UInt8) ∧ x.f2.length ≤ 40 ∧ d < 6 then x.f2.all (fun y => okV n y (d + 1)) else false) else (if x.f2.length = 0 then plainV x else false)
theorem three_no (s : ByteArray) (h : ¬ bt s 0 < 128) : decide (1 ≤ s.size ∧ s.size ≤ 5 ∧ bt s 0 < 128) = false := decide_eq_false (fun q => h q.2.2)
theorem three_yes (s : ByteArray) (h1 : 1 ≤ s.size) (h2 : s.size ≤ 5) (h : bt s 0 < 128) : decide (1 ≤ s.size ∧ s.size ≤ 5 ∧ bt s 0 < 128) = true := decide_eq_true ⟨h1, h2, h⟩
theorem or_no (s : ByteArray) (h1 : bt s 0 = 0) (h : s.size ≠ 1) : decide (bt s 0 ≠ 0 ∨ s.size = 1) = false := decide_eq_false (fun q => q.elim (fun x => x h1) h)
theorem two_ev {g : Nat → Option Bool} (s : ByteArray) (yes : 1 ≤ s.size → s.size ≤ 5 → Ev g (decide (1 ≤ s.size ∧ s.size ≤ 5 ∧ bt s 0 < 128) && (decide (bt s 0 ≠ 0 ∨ s.size = 1) || decide (bt s 1 ≥ 128)))) :
    Ev (fun k => (if (s.size : Int) ≥ 1 then some (decide ((s.size : Int) ≤ 5)) else some false).bind fun t => if t = true then g k else some false) (decide (1 ≤ s.size ∧ s.size ≤ 5 ∧ bt s 0 < 128) && (decide (bt s 0 ≠ 0 ∨ s.size = 1) || decide (bt s 1 ≥ 128))) := by
  by_cases h1 : 1 ≤ s.size
  · by_cases h5 : s.size ≤ 5
    · refine Ev.bind (g := fun _ => if (s.size : Int) ≥ 1 then some (decide ((s.size : Int) ≤ 5)) else some false) (a := true) (by rw [if_pos (by omega), decide_eq_true (by omega)]; exact Ev.now _) (ev_pos rfl (yes h1 h5))
    · refine Ev.bind (g := fun _ => if (s.size : Int) ≥ 1 then some (decide ((s.size : Int) ≤ 5)) else some false) (a := false) (by rw [if_pos (by omega), decide_eq_false (by omega)]; exact Ev.now _) (ev_neg Bool.false_ne_true ?_)
      rw [decide_eq_false (fun h => h5 h.2.1), Bool.false_and]
      exact Ev.now _
  · refine Ev.bind (g := fun _ => if (s.size : Int) ≥ 1 then some (decide ((s.size : Int) ≤ 5)) else some false) (a := false) (by rw [if_neg (by omega)]; exact Ev.now _) (ev_neg Bool.false_ne_true ?_)
    rw [decide_eq_false (fun h => h1 h.1), Bool.false_and]
    exact Ev.now _
theorem drop_b (s : ByteArray) (i : Nat) (h : i < s.size) : ∃ b : Nat, b < 256 ∧ bt s i = (b : Int) ∧ (bN s).drop i = b :: (bN s).drop (i + 1) := by
  have h' : i < (bN s).length := by rw [bN_len]; exact h
  refine ⟨(bN s)[i], bN_lt s _ (List.getElem_mem h'), ?_, List.drop_eq_getElem_cons h'⟩
  rw [bt_bN, List.getD_eq_getElem?_getD, List.getElem?_eq_getElem h']
  rfl

theorem spec_plain (x : S39) (hs : x.f1.size ≤ 1048576) : Ev (fun k => spec_l07Plain.f k x.f0 x.f1 x.f2) (plainV x) := by
  have loop : ∀ (d i : Nat), i + d = x.f1.size → Ev (fun k => spec_l07Plain.l0 k (i : Int) x.f0 x.f1 x.f2) (((bN x.f1).drop i).all (fun b => decide (32 ≤ b ∧ b ≤ 126))) := by
    intro d
    induction d with
    | zero =>
      intro i hi
      refine Ev.step (fun k => by rw [spec_l07Plain.l0]) (ev_neg (by omega) ?_)
      rw [List.drop_eq_nil_of_le (by rw [bN_len]; omega)]
      exact Ev.now _
    | succ d ih =>
      intro i hi
      obtain ⟨b, _, e, ed⟩ := drop_b x.f1 i (by omega)
      refine Ev.step (fun k => by rw [spec_l07Plain.l0]) (ev_pos (by omega) (ev_pos (by omega) ?_))
      rw [e, ed, List.all_cons]
      by_cases h0 : b < 32
      · rw [decide_eq_false (by omega), Bool.false_and]
        exact ev_pos (by omega) (Ev.now _)
      refine ev_neg (by omega) ?_
      by_cases h1 : 126 < b
      · rw [decide_eq_false (by omega), Bool.false_and]
        exact ev_pos (by omega) (Ev.now _)
      refine ev_neg (by omega) ?_
      rw [decide_eq_true (by omega), Bool.true_and]
      rw [show wrap64 ((i : Int) + 1) = ((i + 1 : Nat) : Int) by rw [w64 (by omega) (by omega)]; omega]
      exact ih (i + 1) (by omega)
  simp only [spec_l07Plain.f, spec_l01In.f]
  unfold plainV
  by_cases c1 : x.f0 = 1
  · refine ev_pos c1 ?_
    rw [if_pos c1]
    by_cases e : x.f1.toList = ([0] : List UInt8)
    · refine ev_pos e ?_
      rw [if_pos e]
      exact Ev.now _
    · refine ev_neg e ?_
      rw [if_neg e]
      exact Ev.now _
  refine ev_neg c1 ?_
  rw [if_neg c1]
  by_cases c2 : x.f0 = 2
  · refine ev_pos c2 ?_
    rw [if_pos c2]
    refine two_ev x.f1 (fun h1 h5 => ?_)
    refine ev_pos (by omega) ?_
    by_cases ha : bt x.f1 0 ≥ 128
    · rw [three_no _ (by omega), Bool.false_and]
      exact ev_pos ha (Ev.now _)
    refine ev_neg ha ?_
    rw [three_yes _ h1 h5 (by omega), Bool.true_and]
    by_cases hz : bt x.f1 0 = 0
    · refine ev_pos hz ?_
      by_cases hn : x.f1.size = 1
      · rw [decide_eq_true (Or.inr hn), Bool.true_or]
        exact ev_pos (by omega) (Ev.now _)
      · rw [or_no _ hz hn, Bool.false_or]
        exact ev_neg (by omega) (ev_pos (by omega) (Ev.now _))
    · rw [decide_eq_true (Or.inl hz), Bool.true_or]
      exact ev_neg hz (Ev.now _)
  refine ev_neg c2 ?_
  rw [if_neg c2]
  by_cases c3 : x.f0 = 12
  · refine ev_pos c3 ?_
    rw [if_pos c3]
    have := loop x.f1.size 0 (by omega)
    rwa [List.drop_zero] at this
  refine ev_neg c3 ?_
  rw [if_neg c3]
  exact Ev.now _
theorem spec_ok : ∀ (n : Nat) (x : S39) (d : Int), WL n x → 0 ≤ d → d ≤ 6 → Ev (fun k => spec_l07Right.f k x.f0 x.f1 x.f2 d) (okV n x d)
  | 0, _, _, h, _, _ => h.elim
  | n + 1, x, d, ⟨hs, hl, hk⟩, d0, d1 => by
    have loop : d < 6 → ∀ (m i : Nat), i + m = x.f2.length → Ev (fun k => spec_l07Right.l0 k d (i : Int) x.f0 x.f1 x.f2) ((x.f2.drop i).all (fun y => okV n y (d + 1))) := by
      intro hd m
      induction m with
      | zero =>
        intro i hi
        refine Ev.step (fun k => by rw [spec_l07Right.l0]) (ev_neg (by omega) ?_)
        rw [List.drop_eq_nil_of_le (by omega)]
        exact Ev.now _
      | succ m ih =>
        intro i hi
        have hlt : i < x.f2.length := by omega
        refine Ev.step (fun k => by rw [spec_l07Right.l0]) (ev_pos (by omega) (ev_pos (by omega) ?_))
        rw [rdL x.f2 i hlt, w64 (n := d + 1) (by omega) (by omega)]
        refine Ev.bind (spec_ok n x.f2[i] (d + 1) (hk _ (List.getElem_mem hlt)) (by omega) (by omega)) ?_
        rw [List.drop_eq_getElem_cons hlt, List.all_cons]
        cases he : okV n x.f2[i] (d + 1) with
        | true =>
          rw [Bool.true_and]
          refine ev_pos rfl ?_
          rw [show wrap64 ((i : Int) + 1) = ((i + 1 : Nat) : Int) by rw [w64 (by omega) (by omega)]; omega]
          exact ih (i + 1) (by omega)
        | false =>
          rw [Bool.false_and]
          exact ev_neg Bool.false_ne_true (Ev.now _)
    have no : Ev (fun k => spec_l07Right.j0 k d true x.f0 x.f1 x.f2) false := by
      refine Ev.step (fun k => by rw [spec_l07Right.j0]) ?_
      exact ev_pos rfl (Ev.now _)
    refine Ev.step (fun k => by rw [spec_l07Right.f]) ?_
    show Ev _ (if x.f0 = 48 then (if x.f1.toList = ([] : List UInt8) ∧ x.f2.length ≤ 40 ∧ d < 6 then x.f2.all (fun y => okV n y (d + 1)) else false) else (if x.f2.length = 0 then plainV x else false))
    by_cases c : x.f0 = 48
    · refine ev_pos c ?_
      rw [if_pos c]
      by_cases c1 : x.f1.toList = ([] : List UInt8)
      · refine ev_pos c1 ?_
        by_cases c2 : x.f2.length ≤ 40
        · refine ev_neg (by omega) ?_
          by_cases c3 : d < 6
          · rw [if_pos ⟨c1, c2, c3⟩, decide_eq_false (by omega)]
            refine Ev.step (fun k => by rw [spec_l07Right.j0]) ?_
            refine ev_neg Bool.false_ne_true ?_
            have := loop c3 x.f2.length 0 (by omega)
            rwa [List.drop_zero] at this
          · rw [if_neg (fun h => c3 h.2.2), decide_eq_true (by omega)]
            exact no
        · rw [if_neg (fun h => c2 h.2.1)]
          exact ev_pos (by omega) no
      · rw [if_neg (fun h => c1 h.1)]
        exact ev_neg c1 no
    · refine ev_neg c ?_
      rw [if_neg c]
      by_cases c1 : x.f2.length = 0
      · rw [if_pos c1]
        exact ev_pos (by omega) (Ev.bind (spec_plain x hs) (Ev.now _))
      · rw [if_neg c1]
        exact ev_neg (by omega) (Ev.now _)

/-! A number out of bytes, and back. -/
theorem rev_ind {P : List Nat → Prop} (h0 : P []) (h1 : ∀ l b, P l → P (l ++ [b])) (l : List Nat) : P l := by
  have : ∀ r : List Nat, P r.reverse := by
    intro r
    induction r with
    | nil => exact h0
    | cons b r ih => rw [List.reverse_cons]; exact h1 _ _ ih
  have h := this l.reverse
  rwa [List.reverse_reverse] at h
def val (l : List Nat) : Nat := l.foldl (fun n b => 256 * n + b) 0
theorem val_snoc (l : List Nat) (b : Nat) : val (l ++ [b]) = 256 * val l + b := by unfold val; rw [List.foldl_append]; rfl
def ints (l : List Nat) : List Int := l.map fun (b : Nat) => (b : Int)
theorem val_pos : ∀ (l : List Nat), l.headD 0 ≠ 0 → 0 < val l := by
  intro l
  induction l using rev_ind with
  | h0 => intro h; exact absurd rfl h
  | h1 l b ih =>
    intro h
    rw [val_snoc]
    cases l with
    | nil => simp at h; omega
    | cons a l => have := ih (by simpa using h); omega
theorem be_val : ∀ (l : List Nat), (∀ b ∈ l, b < 256) → l.headD 0 ≠ 0 → be (val l) = ints l := by
  intro l
  induction l using rev_ind with
  | h0 => intro _ h; exact absurd rfl h
  | h1 l b ih =>
    intro hb h
    have hb0 : b < 256 := hb b (by simp)
    rw [val_snoc]
    cases l with
    | nil =>
      have h' : b ≠ 0 := by simpa using h
      rw [be, if_pos (by show 0 < 256 * 0 + b; omega)]
      have e : (256 * val [] + b) / 256 = 0 := by show (256 * 0 + b) / 256 = 0; omega
      have e2 : (256 * val [] + b) % 256 = b := by show (256 * 0 + b) % 256 = b; omega
      rw [e, e2, be, if_neg (by omega)]
      rfl
    | cons a l =>
      have hp : 0 < val (a :: l) := val_pos _ (by simpa using h)
      rw [be, if_pos (by omega)]
      have e : (256 * val (a :: l) + b) / 256 = val (a :: l) := by omega
      have e2 : (256 * val (a :: l) + b) % 256 = b := by omega
      rw [e, e2, ih (fun c hc => hb c (by simp at hc ⊢; exact hc.elim (fun h => Or.inl h) (fun h => Or.inr (Or.inl h)))) (by simpa using h)]
      simp [ints]
theorem same_flat (x : S39) (a1 : Int) (s : ByteArray) : Ev (fun k => impl_SameItem.f k x.f0 x.f1 x.f2 a1 s []) (decide (x.f0 = a1 ∧ x.f1.toList = s.toList ∧ x.f2.length = 0)) := by
  simp only [impl_SameItem.f]
  by_cases c0 : x.f0 = a1
  · by_cases c1 : x.f1.toList = s.toList
    · by_cases c2 : x.f2.length = 0
      · rw [decide_eq_true ⟨c0, c1, c2⟩]
        refine ev_pos c0 (ev_pos c1 (Ev.bind (a := true) ?_ (Ev.now _)))
        refine Ev.step (fun k => by rw [impl_Item.f]) ?_
        refine ev_pos (by simp [c2]) ?_
        refine Ev.step (fun k => impl_Item.l0_eq k _ _ _ _) ?_
        exact ev_neg (by omega) (Ev.now _)
      · rw [show decide (x.f0 = a1 ∧ x.f1.toList = s.toList ∧ x.f2.length = 0) = false from decide_eq_false (fun h => c2 h.2.2)]
        refine ev_pos c0 (ev_pos c1 (Ev.bind (a := false) ?_ (Ev.now _)))
        refine Ev.step (fun k => by rw [impl_Item.f]) ?_
        exact ev_neg (by simp; intro h; exact c2 (by rw [h]; rfl)) (Ev.now _)
    · rw [show decide (x.f0 = a1 ∧ x.f1.toList = s.toList ∧ x.f2.length = 0) = false from decide_eq_false (fun h => c1 h.2.1)]
      exact ev_pos c0 (ev_neg c1 (Ev.now _))
  · rw [show decide (x.f0 = a1 ∧ x.f1.toList = s.toList ∧ x.f2.length = 0) = false from decide_eq_false (fun h => c0 h.1)]
    exact ev_neg c0 (Ev.now _)
def valI (l : List Nat) : Nat := val l
theorem val_lt : ∀ l : List Nat, (∀ b ∈ l, b < 256) → val l < 256 ^ l.length := by
  intro l
  induction l using rev_ind with
  | h0 => intro _; decide
  | h1 l b ih =>
    intro h
    have h1 := ih (fun c hc => h c (by simp [hc]))
    have h2 := h b (by simp)
    rw [val_snoc, List.length_append, List.length_singleton, Nat.pow_succ]
    omega
theorem val_take (l : List Nat) (i : Nat) (h : i < l.length) : val (l.take (i + 1)) = 256 * val (l.take i) + l[i] := by
  rw [List.take_succ_eq_append_getElem h, val_snoc]
theorem or_256 (v b : Nat) (hv : v < 1099511627776) (hb : b < 256) : Go.bits .or .i64 (wrap64 ((v : Int) * 256)) (wrap64 (b : Int)) = ((256 * v + b : Nat) : Int) := by
  rw [w64 (n := (v : Int) * 256) (by omega) (by omega), w64 (n := (b : Int)) (by omega) (by omega)]
  have e : Go.bits .or .i64 ((v : Int) * 256) (b : Int) = IntKind.i64.wrap ((BitVec.ofInt 64 ((v : Int) * 256) ||| BitVec.ofInt 64 (b : Int)).toNat : Int) := rfl
  have e1 : (BitVec.ofInt 64 ((v : Int) * 256)).toNat = v * 256 := by
    rw [BitVec.toNat_ofInt]; omega
  have e2 : (BitVec.ofInt 64 (b : Int)).toNat = b := by
    rw [BitVec.toNat_ofInt]; omega
  rw [e, BitVec.toNat_or, e1, e2]
  have e3 : v * 256 ||| b = v * 256 + b := by
    have := Nat.two_pow_add_eq_or_of_lt (i := 8) (b := b) (by omega) v
    rw [show (2 : Nat) ^ 8 * v = v * 256 by omega] at this
    exact this.symm
  rw [e3]
  rw [i64_w, w64 (by omega) (by omega)]
  omega
theorem be_ex (n : Nat) : ∃ l : List Nat, be n = ints l ∧ (∀ b ∈ l, b < 256) ∧ val l = n ∧ (0 < n → l.headD 0 ≠ 0) := by
  induction n using Nat.strongRecOn with
  | _ n ih =>
    rw [be]
    by_cases h : 0 < n
    · rw [if_pos h]
      obtain ⟨l, h1, h2, h3, h4⟩ := ih (n / 256) (by omega)
      refine ⟨l ++ [n % 256], ?_, ?_, ?_, fun _ => ?_⟩
      · rw [h1]; simp [ints]
      · intro b hb
        rcases List.mem_append.1 hb with hb | hb
        · exact h2 b hb
        · have : b = n % 256 := by simpa using hb
          omega
      · rw [val_snoc, h3]; omega
      · cases l with
        | nil =>
          have : n / 256 = 0 := by rw [← h3]; rfl
          simp; omega
        | cons a l =>
          have hp : 0 < n / 256 := by
            rcases Nat.eq_zero_or_pos (n / 256) with h0 | h0
            · rw [h0, be, if_neg (by omega)] at h1
              simp [ints] at h1
            · exact h0
          simpa using h4 hp
    · rw [if_neg h]
      exact ⟨[], rfl, by simp, by show 0 = n; omega, fun h' => absurd h' h⟩
def canon (l : List Nat) : Prop := 1 ≤ l.length ∧ l.getD 0 0 < 128 ∧ (l.getD 0 0 ≠ 0 ∨ l.length = 1 ∨ 128 ≤ l.getD 1 0)
theorem ints_get (l : List Nat) (i : Nat) : (ints l).getD i 0 = ((l.getD i 0 : Nat) : Int) := by
  unfold ints
  rw [List.getD_eq_getElem?_getD, List.getD_eq_getElem?_getD, List.getElem?_map]
  cases l[i]? <;> rfl
theorem head_get (l : List Nat) : l.headD 0 = l.getD 0 0 := by cases l <;> rfl
theorem intL_ex (n : Nat) : ∃ l : List Nat, intL n = ints l ∧ (∀ b ∈ l, b < 256) ∧ val l = n ∧ canon l := by
  obtain ⟨l, h1, h2, h3, h4⟩ := be_ex n
  unfold intL intB
  by_cases h0 : n = 0
  · subst h0
    rw [if_pos rfl, if_neg (by decide)]
    exact ⟨[0], rfl, by simp, rfl, by unfold canon; simp⟩
  · rw [if_neg h0, h1, ints_get]
    have hh := h4 (by omega)
    rw [head_get] at hh
    have hl : 1 ≤ l.length := by
      cases l with
      | nil => exact absurd rfl hh
      | cons a l => simp
    by_cases hc : 128 ≤ l.getD 0 0
    · rw [if_pos (by omega)]
      refine ⟨0 :: l, rfl, fun b hb => ?_, ?_, by simp, by simp, Or.inr (Or.inr (by simpa using hc))⟩
      · rcases List.mem_cons.1 hb with rfl | hb
        · omega
        · exact h2 b hb
      · rw [← h3]; rfl
    · rw [if_neg (by omega)]
      exact ⟨l, rfl, h2, h3, hl, by omega, Or.inl hh⟩
theorem intL_val (l : List Nat) (hb : ∀ b ∈ l, b < 256) (hc : canon l) : intL (val l) = ints l := by
  obtain ⟨hl, h1, h2⟩ := hc
  unfold intL intB
  by_cases h0 : l.getD 0 0 = 0
  · rcases h2 with h2 | h2 | h2
    · exact absurd h0 h2
    · match l, h2 with
      | [a], _ =>
        have : a = 0 := by simpa using h0
        subst this
        rfl
    · match l, hl with
      | a :: r, _ =>
        have : a = 0 := by simpa using h0
        subst this
        have hr : 128 ≤ r.getD 0 0 := by simpa using h2
        have e : val (0 :: r) = val r := rfl
        have hp : r.headD 0 ≠ 0 := by rw [head_get]; omega
        have hv := val_pos r hp
        have hI : (if val r = 0 then ([0] : List Int) else be (val r)) = ints r := by rw [if_neg (by omega), be_val r (fun b h => hb b (List.mem_cons_of_mem _ h)) hp]
        rw [e, hI, ints_get, if_pos (by omega)]
        rfl
  · have hp : l.headD 0 ≠ 0 := by rw [head_get]; exact h0
    have hv := val_pos l hp
    have hI : (if val l = 0 then ([0] : List Int) else be (val l)) = ints l := by rw [if_neg (by omega), be_val l hb hp]
    rw [hI, ints_get, if_neg (by omega)]
theorem bytes_ints (s : ByteArray) : bytesOf s = ints (bN s) := by unfold bytesOf ints bN; rw [List.map_map]; rfl
theorem str_ints (s : ByteArray) : strOfNums (ints (bN s)) = s := by
  rw [← bytes_ints]
  apply ByteArray.ext
  unfold strOfNums bytesOf
  rw [List.map_map]
  have : (fun n : Int => UInt8.ofNat n.toNat) ∘ (fun b : UInt8 => (b.toNat : Int)) = id := by
    funext b; simp
  rw [this]; simp
theorem bN_of (s : ByteArray) (l : List Nat) (hl : ∀ b ∈ l, b < 256) (h : s.toList = (strOfNums (ints l)).toList) : bN s = l := by
  rw [nums_toList, ByteArray.toList_eq] at h
  unfold bN
  rw [h]
  unfold ints
  rw [List.map_map, List.map_map]
  refine (List.map_congr_left (fun b hb => ?_)).trans (List.map_id l)
  have := hl b hb
  show (UInt8.ofNat ((b : Int)).toNat).toNat = b
  rw [Int.toNat_natCast, UInt8.toNat_ofNat']
  omega
theorem bN_extract (s : ByteArray) (m : Nat) : bN (s.extract 0 m) = (bN s).take m := by
  have h := extract_toList s 0 m
  rw [ByteArray.toList_eq, ByteArray.toList_eq] at h
  unfold bN
  rw [h, List.drop_zero, Nat.sub_zero, List.map_take]
theorem val_small (l : List Nat) (hb : ∀ b ∈ l, b < 256) (h : l.length ≤ 5) : val l < 1099511627776 := by
  have h1 := val_lt l hb
  have h2 : 256 ^ l.length ≤ 256 ^ 5 := Nat.pow_le_pow_right (by decide) h
  have h3 : (256 : Nat) ^ 5 = 1099511627776 := by decide
  omega
theorem take_rng (s : ByteArray) (i : Nat) : ∀ b ∈ (bN s).take i, b < 256 := fun b h => bN_lt s b (List.mem_of_mem_take h)
theorem get_bt (s : ByteArray) (i : Nat) (h : i < s.size) : ∃ h' : i < (bN s).length, bt s i = ((bN s)[i] : Nat) := by
  have h' : i < (bN s).length := by rw [bN_len]; exact h
  refine ⟨h', ?_⟩
  rw [bt_bN, List.getD_eq_getElem?_getD, List.getElem?_eq_getElem h']
  rfl
def outV (v : Nat) : Int × Bool := if v ≤ 1000000000 then ((v : Int), true) else (0, false)
theorem spec_in_loop (x : S39) (hs : x.f1.size ≤ 5) : ∀ (d i : Nat), i + d = x.f1.size → Ev (fun k => spec_IntIn.l0 k ((val ((bN x.f1).take i) : Nat) : Int) (i : Int) x.f0 x.f1 x.f2) (outV (val (bN x.f1))) := by
  intro d
  induction d with
  | zero =>
    intro i hi
    refine Ev.step (fun k => by rw [spec_IntIn.l0]) (ev_neg (by omega) ?_)
    rw [List.take_of_length_le (by rw [bN_len]; omega)]
    by_cases h : val (bN x.f1) ≤ 1000000000
    · refine ev_neg (by omega) ?_
      unfold outV
      rw [if_pos h]
      exact Ev.now _
    · refine ev_pos (by omega) ?_
      unfold outV
      rw [if_neg h]
      exact Ev.now _
  | succ d ih =>
    intro i hi
    obtain ⟨h', hb⟩ := get_bt x.f1 i (by omega)
    have hv := val_small _ (take_rng x.f1 i) (by rw [List.length_take]; omega)
    have hl := bN_lt x.f1 _ (List.getElem_mem h')
    refine Ev.step (fun k => by rw [spec_IntIn.l0]) (ev_pos (by omega) (ev_pos (by omega) ?_))
    rw [hb]
    have e := val_take _ i h'
    have n := ih (i + 1) (by omega)
    rw [e] at n
    rw [w64 (n := 256 * ((val ((bN x.f1).take i) : Nat) : Int)) (by omega) (by omega), w64 (n := (((bN x.f1)[i] : Nat) : Int)) (by omega) (by omega), w64 (n := 256 * ((val ((bN x.f1).take i) : Nat) : Int) + _) (by omega) (by omega), w64 (n := (i : Int) + 1) (by omega) (by omega)]
    have e2 : (256 * ((val ((bN x.f1).take i) : Nat) : Int) + (((bN x.f1)[i] : Nat) : Int)) = ((256 * val ((bN x.f1).take i) + (bN x.f1)[i] : Nat) : Int) := by omega
    rw [e2]
    exact n
theorem impl_in_loop (x : S39) (s : ByteArray) (hs : s.size ≤ 5) (r : Int × Bool)
    (hr : Ev (fun k => (impl_within.f ((val (bN s) : Nat) : Int) 0 1000000000).bind fun t164 => (if t164 = true then ((impl_IntItem.f k ((val (bN s) : Nat) : Int)).bind fun bt165 => ((impl_SameItem.f k x.f0 x.f1 x.f2 bt165.1 bt165.2.1 bt165.2.2).bind fun t170 => (if t170 = true then (some (((val (bN s) : Nat) : Int), true)) else (some (0, false))))) else (some (0, false)))) r) :
    ∀ (d i : Nat), i + d = s.size → Ev (fun k => impl_IntIn.l0 k ((val ((bN s).take i) : Nat) : Int) s (s.size : Int) (i : Int) x.f0 x.f1 x.f2) r := by
  intro d
  induction d with
  | zero =>
    intro i hi
    refine Ev.step (fun k => by rw [impl_IntIn.l0]) (ev_neg (by omega) ?_)
    rw [List.take_of_length_le (by rw [bN_len]; omega)]
    exact hr
  | succ d ih =>
    intro i hi
    obtain ⟨h', hb⟩ := get_bt s i (by omega)
    have hv := val_small _ (take_rng s i) (by rw [List.length_take]; omega)
    have hl := bN_lt s _ (List.getElem_mem h')
    refine Ev.step (fun k => by rw [impl_IntIn.l0]) (ev_pos (by omega) (ev_pos (by omega) (ev_pos (by omega) ?_)))
    have n := ih (i + 1) (by omega)
    rw [val_take _ i h'] at n
    rw [hb, or_256 _ _ hv hl, w64 (n := (i : Int) + 1) (by omega) (by omega)]
    exact n

theorem be_short : ∀ (k n : Nat), n < 256 ^ k → (be n).length ≤ k
  | 0, n, h => by
    have : n = 0 := by simpa using h
    subst this
    rw [be, if_neg (by omega)]
    simp
  | k + 1, n, h => by
    rw [be]
    by_cases h0 : 0 < n
    · rw [if_pos h0, List.length_append]
      have := be_short k (n / 256) (by rw [Nat.pow_succ] at h; omega)
      simp
      exact this
    · rw [if_neg h0]
      simp
theorem intL_len (n : Nat) (h : n ≤ 1000000000) : (intL n).length ≤ 5 := by
  have e4 : (256 : Nat) ^ 4 = 4294967296 := by decide
  have := be_short 4 n (by rw [e4]; omega)
  unfold intL intB
  by_cases h0 : n = 0
  · rw [if_pos h0]
    decide
  · rw [if_neg h0]
    by_cases hc : 128 ≤ (be n).getD 0 0
    · rw [if_pos hc, List.length_cons]
      omega
    · rw [if_neg hc]
      omega
theorem ok2 (n : Nat) (x : S39) (h2 : x.f0 = 2) : okV (n + 1) x 0 = true ↔ x.f2.length = 0 ∧ x.f1.size ≤ 5 ∧ canon (bN x.f1) := by
  have b0 : bt x.f1 0 = (((bN x.f1).getD 0 0 : Nat) : Int) := bt_bN x.f1 0
  have b1 : bt x.f1 1 = (((bN x.f1).getD 1 0 : Nat) : Int) := bt_bN x.f1 1
  rw [okV, if_neg (by omega)]
  by_cases hl : x.f2.length = 0
  · rw [if_pos hl]
    unfold plainV canon
    rw [if_neg (by omega), if_pos h2, b0, b1, bN_len]
    simp only [Bool.and_eq_true, Bool.or_eq_true, decide_eq_true_eq]
    omega
  · rw [if_neg hl]
    exact ⟨fun h => absurd h Bool.false_ne_true, fun h => absurd h.1 hl⟩
def inV (n : Nat) (x : S39) : Int × Bool := if x.f0 = 2 ∧ okV n x 0 = true then outV (val (bN x.f1)) else (0, false)
theorem spec_intin_ev (n : Nat) (x : S39) (wl : WL (n + 1) x) : Ev (fun k => spec_IntIn.f k x.f0 x.f1 x.f2) (inV (n + 1) x) := by
  have no : Ev (fun k => spec_IntIn.j0 k true x.f0 x.f1 x.f2) (0, false) := Ev.step (fun k => by rw [spec_IntIn.j0]) (ev_pos rfl (Ev.now _))
  simp only [spec_IntIn.f, spec_ItemOk.f]
  unfold inV
  by_cases h2 : x.f0 = 2
  · refine ev_pos h2 (Ev.bind (Ev.bind (spec_ok (n + 1) _ 0 wl (by omega) (by omega)) (Ev.now _)) ?_)
    by_cases hk : okV (n + 1) x 0 = true
    · rw [if_pos ⟨h2, hk⟩, hk]
      obtain ⟨_, hs, _⟩ := (ok2 n x h2).1 hk
      show Ev (fun k => spec_IntIn.j0 k false x.f0 x.f1 x.f2) _
      refine Ev.step (fun k => by rw [spec_IntIn.j0]) (ev_neg Bool.false_ne_true ?_)
      exact spec_in_loop x hs x.f1.size 0 (by omega)
    · rw [if_neg (fun h => hk h.2), Bool.eq_false_iff.2 hk]
      exact no
  · rw [if_neg (fun h => h2 h.1)]
    exact ev_neg h2 no
theorem impl_intin_ev (n : Nat) (x : S39) (wl : WL (n + 1) x) : Ev (fun k => impl_IntIn.f k x.f0 x.f1 x.f2) (inV (n + 1) x) := by
  obtain ⟨m, hm⟩ : ∃ m : Nat, m = min x.f1.size 5 := ⟨_, rfl⟩
  have em : mn (x.f1.size : Int) 5 = (m : Int) := by unfold mn; omega
  have hz : (x.f1.extract 0 m).size = m := by rw [ByteArray.size_extract]; omega
  simp only [impl_IntIn.f]
  rw [em, Int.toNat_natCast]
  refine ev_pos (by omega) (ev_pos (by omega) ?_)
  have hb : bN (x.f1.extract 0 m) = (bN x.f1).take m := bN_extract x.f1 m
  have full : x.f1.size ≤ 5 → bN (x.f1.extract 0 m) = bN x.f1 := fun h => by rw [hb, List.take_of_length_le (by rw [bN_len]; omega)]
  have h0 := impl_in_loop x (x.f1.extract 0 m) (by omega) (inV (n + 1) x) ?_ (x.f1.extract 0 m).size 0 (by omega)
  · exact h0
  have hv := val_small (bN (x.f1.extract 0 m)) (bN_lt _) (by rw [bN_len]; omega)
  generalize hw : val (bN (x.f1.extract 0 m)) = v at hv ⊢
  have inV_of : x.f0 = 2 → okV (n + 1) x 0 = true → inV (n + 1) x = outV v := fun h2 hk => by
    unfold inV
    rw [if_pos ⟨h2, hk⟩, ← hw, full ((ok2 n x h2).1 hk).2.1]
  by_cases hc : v ≤ 1000000000
  · refine Ev.bind (g := fun _ => impl_within.f (v : Int) 0 1000000000) (a := true) (by unfold impl_within.f; rw [if_pos (by omega), decide_eq_true (by omega)]; exact Ev.now _) (ev_pos rfl (Ev.bind (impl_int_ev (v : Int)) ?_))
    have ei : intV (v : Int) = (2, strOfNums (intL v), []) := by unfold intV intN; rw [if_pos (by omega), Int.toNat_natCast]
    rw [ei]
    refine Ev.bind (same_flat x 2 (strOfNums (intL v))) ?_
    by_cases hs : x.f0 = 2 ∧ x.f1.toList = (strOfNums (intL v)).toList ∧ x.f2.length = 0
    · rw [decide_eq_true hs]
      refine ev_pos rfl ?_
      obtain ⟨h2, ht, hl⟩ := hs
      obtain ⟨l, e1, e2, e3, e4⟩ := intL_ex v
      have hln := intL_len v hc
      rw [e1] at ht hln
      have hbl : bN x.f1 = l := bN_of x.f1 l e2 ht
      have hll : l.length ≤ 5 := by unfold ints at hln; rwa [List.length_map] at hln
      have hk : okV (n + 1) x 0 = true := (ok2 n x h2).2 ⟨hl, by rw [← bN_len, hbl]; exact hll, by rw [hbl]; exact e4⟩
      rw [inV_of h2 hk]
      unfold outV
      rw [if_pos hc]
      exact Ev.now _
    · rw [decide_eq_false hs]
      refine ev_neg Bool.false_ne_true ?_
      have hn : ¬ (x.f0 = 2 ∧ okV (n + 1) x 0 = true) := by
        rintro ⟨h2, hk⟩
        obtain ⟨hl, h5, hcan⟩ := (ok2 n x h2).1 hk
        refine hs ⟨h2, ?_, hl⟩
        have e : v = val (bN x.f1) := by rw [← hw, full h5]
        rw [e, intL_val _ (bN_lt _) hcan, str_ints]
      unfold inV
      rw [if_neg hn]
      exact Ev.now _
  · refine Ev.bind (g := fun _ => impl_within.f (v : Int) 0 1000000000) (a := false) (by unfold impl_within.f; rw [if_pos (by omega), decide_eq_false (by omega)]; exact Ev.now _) (ev_neg Bool.false_ne_true ?_)
    have e : inV (n + 1) x = (0, false) := by
      by_cases h2 : x.f0 = 2 ∧ okV (n + 1) x 0 = true
      · rw [inV_of h2.1 h2.2]
        unfold outV
        rw [if_neg hc]
      · unfold inV
        rw [if_neg h2]
    rw [e]
    exact Ev.now _

theorem FnExactIntIn : laws_FnExactIntIn.Pure := by
  intro x n hw
  cases n with
  | zero => exact hw.elim
  | succ n =>
  refine Ev.rounds (g := fun k => laws_FnExactIntIn.f k x.f0 x.f1 x.f2) ?_
  simp only [laws_FnExactIntIn.f]
  refine Ev.bind (sz_item (n + 1) x hw 1048576 (by omega) (by omega)) ?_
  by_cases hb : (wtB (n + 1) x : Int) ≤ 1048576
  · rw [lessV_yes _ _ hb]
    have hb' : wtB (n + 1) x ≤ 1048576 := by omega
    have t := to_item (n + 1) x hw hb'
    have wl := cv_WL (n + 1) x hw hb'
    refine ev_neg (by omega) (Ev.bind t (Ev.bind (spec_intin_ev n _ wl) (Ev.bind t (Ev.bind (impl_intin_ev n _ wl) (ev_pos rfl ?_)))))
    rw [show ((inV (n + 1) (cv (n + 1) x)).2 != (inV (n + 1) (cv (n + 1) x)).2) = false by simp]
    refine Ev.step (fun k => by rw [laws_FnExactIntIn.j0]) ?_
    exact ev_neg Bool.false_ne_true (Ev.bind t (Ev.bind (eq_item (n + 1) _ wl) (ev_pos rfl (Ev.now _))))
  · rw [lessV_no _ _ hb]
    exact ev_pos (by omega) (Ev.now _)

end Go.Proofs.Ytkhmcioeceiepaa.Pure
