/- The law FnExactItemText answers true for every argument: the program's ItemText and the reference's come to the same answer. -/
import Derived.Test.YtgjmkljhllbanaaGFnExactItemTextx7
import Derived.Test.YtgjmkljhllbanaaOFnExactItemText
set_option linter.unusedVariables false
set_option linter.unusedSimpArgs false
namespace Go.Proofs.Ytgjmkljhllbanaa.Pure
open Go.RowKit Go.ChangeShapes Go.Proofs.Ytgjmkljhllbanaa.GFnExactItemText Go.Proofs.YtgjmkljhllbanaaW.PrintWords Go.Proofs.YtgjmkljhllbanaaW.PrintLast

theorem w64 {n : Int} (h0 : -9223372036854775808 ≤ n) (h1 : n ≤ 9223372036854775807) : wrap64 n = n := by unfold wrap64; omega
theorem ev_pos {α : Type} {c : Prop} [Decidable c] {f g : Nat → Option α} {r : α} (h : c) (k : Ev f r) : Ev (fun n => if c then f n else g n) r := by
  simpa only [if_pos h] using k
theorem ev_neg {α : Type} {c : Prop} [Decidable c] {f g : Nat → Option α} {r : α} (h : ¬ c) (k : Ev g r) : Ev (fun n => if c then f n else g n) r := by
  simpa only [if_neg h] using k
theorem tdivN (n m : Nat) : Int.tdiv (n : Int) (m : Int) = ((n / m : Nat) : Int) := rfl
theorem tmodN (n m : Nat) : Int.tmod (n : Int) (m : Int) = ((n % m : Nat) : Int) := rfl
theorem tdiv_pos' {n m : Int} (h : 0 ≤ n) : Int.tdiv n m = n / m := Int.tdiv_eq_ediv_of_nonneg h
theorem tmod_pos' {n m : Int} (h : 0 ≤ n) : Int.tmod n m = n % m := Int.tmod_eq_emod_of_nonneg h
theorem bt_rng (s : ByteArray) (i : Int) : 0 ≤ bt s i ∧ bt s i ≤ 255 := bt_range s i
theorem bt_bytes (s : ByteArray) (i : Nat) : bt s i = (bytesOf s).getD i 0 := (rd_bytesOf s i).symm
theorem drop_bytes (s : ByteArray) (i : Nat) (h : i < s.size) : (bytesOf s).drop i = bt s i :: (bytesOf s).drop (i + 1) := by
  have h' : i < (bytesOf s).length := by rw [bytesOf_length]; exact h
  rw [List.drop_eq_getElem_cons h', bt_bytes, List.getD_eq_getElem?_getD, List.getElem?_eq_getElem h']
  rfl

theorem toList_size (s : ByteArray) : s.toList.length = s.size := by rw [ByteArray.toList_eq, Array.length_toList]; rfl
theorem extract_toList (s : ByteArray) (i j : Nat) : (s.extract i j).toList = (s.toList.drop i).take (j - i) := by
  rw [ByteArray.toList_eq, ByteArray.toList_eq]; simp [ByteArray.data_extract, List.extract_eq_take_drop]
theorem append_toList (s t : ByteArray) : (s ++ t).toList = s.toList ++ t.toList := by
  rw [ByteArray.toList_eq, ByteArray.toList_eq, ByteArray.toList_eq]; simp [ByteArray.data_append]
theorem nums_toList (l : List Int) : (strOfNums l).toList = l.map fun n => UInt8.ofNat n.toNat := by rw [ByteArray.toList_eq, strOfNums_data]

def bN (s : ByteArray) : List Nat := s.data.toList.map UInt8.toNat
theorem bN_len (s : ByteArray) : (bN s).length = s.size := by rw [bN, List.length_map, Array.length_toList]; rfl
theorem bN_lt (s : ByteArray) : ∀ b ∈ bN s, b < 256 := by
  intro b hb
  obtain ⟨c, _, rfl⟩ := List.mem_map.1 hb
  exact c.toNat_lt
theorem bt_bN (s : ByteArray) (i : Nat) : bt s i = ((bN s).getD i 0 : Nat) := by
  unfold bt bN
  split
  · rename_i h
    have h' : i < s.data.toList.length := by rw [Array.length_toList]; exact h
    simp [List.getD_eq_getElem?_getD, List.getElem?_eq_getElem h']
    rfl
  · rename_i h
    have h' : s.data.toList.length ≤ i := by rw [Array.length_toList]; simpa using h
    simp [List.getD_eq_getElem?_getD, List.getElem?_eq_none h']
theorem bN_toList (s : ByteArray) : s.toList = (bN s).map UInt8.ofNat := by
  rw [ByteArray.toList_eq, bN, List.map_map]
  symm
  exact (List.map_congr_left (fun b _ => by simp)).trans (List.map_id _)
theorem drop_get (l : List Nat) (i : Nat) (pre : List Nat) (c : Nat) (rest : List Nat) (h : l.drop i = pre ++ c :: rest) : l.getD (i + pre.length) 0 = c := by
  have h2 : (l.drop i)[pre.length]? = some c := by rw [h, List.getElem?_append_right (Nat.le_refl _)]; simp
  rw [List.getElem?_drop] at h2
  rw [List.getD_eq_getElem?_getD, h2]; rfl

theorem str_append (l m : List Int) : strOfNums l ++ strOfNums m = strOfNums (l ++ m) := by
  apply ByteArray.ext
  rw [ByteArray.data_append]
  unfold strOfNums
  simp
theorem str_toList_nil (l : List Int) : (strOfNums l).toList = [] ↔ l = [] := by rw [nums_toList]; simp
theorem bt_str (l : List Int) (h : ∀ x ∈ l, 0 ≤ x ∧ x < 256) : bt (strOfNums l) 0 = l.getD 0 0 := by
  cases l with
  | nil => simp [bt, strOfNums, ByteArray.size]
  | cons x l =>
    have hx := h x (by simp)
    have e : bt (strOfNums (x :: l)) ((0 : Nat) : Int) = ((bN (strOfNums (x :: l))).getD 0 0 : Nat) := bt_bN _ 0
    have e2 : bN (strOfNums (x :: l)) = (x :: l).map fun n => (UInt8.ofNat n.toNat).toNat := by
      unfold bN
      rw [strOfNums_data, List.map_map]
      rfl
    rw [show bt (strOfNums (x :: l)) 0 = bt (strOfNums (x :: l)) ((0 : Nat) : Int) from rfl, e, e2]
    simp
    omega
def be (n : Nat) : List Int := if 0 < n then be (n / 256) ++ [((n % 256 : Nat) : Int)] else []
termination_by n
decreasing_by omega
theorem be_rng (n : Nat) : ∀ x ∈ be n, 0 ≤ x ∧ x < 256 := by
  induction n using Nat.strongRecOn with
  | _ n ih =>
    intro x hx
    rw [be] at hx
    split at hx
    · rcases List.mem_append.1 hx with h | h
      · exact ih (n / 256) (by omega) x h
      · simp at h; omega
    · simp at hx
theorem be_len (n : Nat) : (be n).length ≤ n := by
  induction n using Nat.strongRecOn with
  | _ n ih =>
    rw [be]
    split
    · have := ih (n / 256) (by omega)
      simp; omega
    · simp
theorem be_pos (n : Nat) (h : 0 < n) : be n ≠ [] := by rw [be, if_pos h]; simp
/-- The bytes of IntItem. -/
def intB (n : Nat) : List Int := if n = 0 then [0] else be n
def intL (n : Nat) : List Int := if 128 ≤ (intB n).getD 0 0 then 0 :: intB n else intB n
def intN (a : Int) : Nat := if 0 ≤ a ∧ a ≤ 1000000000 then a.toNat else 0
def intV (a : Int) : Int × ByteArray × List S40 := (2, strOfNums (intL (intN a)), [])

/-! Trees of items: their weight, their copy, their sameness. -/
theorem rdB (xs : List S48) (i : Nat) (h : i < xs.length) : rd_T48 xs (i : Int) = xs[i] := by
  simp [rd_T48, List.getD_eq_getElem?_getD, List.getElem?_eq_getElem h]
theorem rdL (xs : List S40) (i : Nat) (h : i < xs.length) : rd_T40 xs (i : Int) = xs[i] := by
  simp [rd_T40, List.getD_eq_getElem?_getD, List.getElem?_eq_getElem h]
theorem le_sum {α : Type} (f : α → Nat) : ∀ (l : List α) (y : α), y ∈ l → f y ≤ (l.map f).sum
  | [], _, h => by cases h
  | x :: l, y, h => by
    rcases List.mem_cons.1 h with rfl | h
    · simp
    · have := le_sum f l y h
      simp; omega
def wtB : Nat → S48 → Nat
  | 0, _ => 0
  | n + 1, x => x.f1.size + (x.f2.length + (x.f2.map (wtB n)).sum)
def lessV (b : Int) (w : Nat) : Int := if (w : Int) ≤ b then b - w else -1
theorem lessV_add (b : Int) (v w : Nat) (h : (v : Int) ≤ b) : lessV (b - v) w = lessV b (v + w) := by
  unfold lessV
  by_cases hw : (w : Int) ≤ b - v
  · rw [if_pos hw, if_pos (by omega)]; omega
  · rw [if_neg hw, if_neg (by omega)]
theorem lessV_no (b : Int) (w : Nat) (h : ¬ (w : Int) ≤ b) : lessV b w = -1 := if_neg h
theorem lessV_yes (b : Int) (w : Nat) (h : (w : Int) ≤ b) : lessV b w = b - w := if_pos h
theorem sz_row (n : Nat) (item : ∀ y, WF48 n y → ∀ b : Int, 0 ≤ b → b ≤ 1048576 → Ev (fun k => laws_szItem.f k y.f0 y.f1 y.f2 b) (lessV b (wtB n y)))
    (l : List S48) (hl : l.length ≤ maxLen) (hw : ∀ y ∈ l, WF48 n y) (b : Int) (h0 : 0 ≤ b) (h1 : b ≤ 1048576) : Ev (fun k => laws_szItemS.f k l b) (lessV b (l.length + (l.map (wtB n)).sum)) := by
  have hl' : l.length ≤ 9223372036854775807 := hl
  have loop : ∀ (d i : Nat) (b : Int), i + d = l.length → 0 ≤ b → b ≤ 1048576 → Ev (fun k => laws_szItemS.l0 k l b (i : Int)) (lessV b ((l.drop i).map (wtB n)).sum) := by
    intro d
    induction d with
    | zero =>
      intro i b hi h0 h1
      refine Ev.step (fun k => laws_szItemS.l0_eq k l b i) (ev_neg (by omega) ?_)
      rw [List.drop_eq_nil_of_le (by omega)]
      rw [show lessV b (([] : List S48).map (wtB n)).sum = b by rw [lessV_yes _ _ (by simpa using h0)]; simp]
      exact Ev.now _
    | succ d ih =>
      intro i b hi h0 h1
      have hlt : i < l.length := by omega
      refine Ev.step (fun k => laws_szItemS.l0_eq k l b i) (ev_pos (by omega) (ev_pos (by omega) ?_))
      rw [rdB l i hlt]
      refine Ev.bind (item l[i] (hw _ (List.getElem_mem hlt)) b h0 h1) ?_
      rw [List.drop_eq_getElem_cons hlt, List.map_cons, List.sum_cons]
      by_cases hc : (wtB n l[i] : Int) ≤ b
      · rw [lessV_yes _ _ hc, ← lessV_add _ _ _ hc]
        refine ev_neg (by omega) ?_
        rw [show wrap64 ((i : Int) + 1) = ((i + 1 : Nat) : Int) by rw [w64 (by omega) (by omega)]; omega]
        exact ih (i + 1) _ (by omega) (by omega) (by omega)
      · rw [lessV_no _ _ hc, lessV_no _ _ (by omega)]
        exact ev_pos (by omega) (Ev.now _)
  refine Ev.step (fun k => by rw [laws_szItemS.f]) ?_
  rw [w64 (n := b - (l.length : Int)) (by omega) (by omega)]
  by_cases hc : (l.length : Int) ≤ b
  · refine ev_neg (by omega) ?_
    rw [← lessV_add _ _ _ hc]
    have := loop l.length 0 (b - l.length) (by omega) (by omega) (by omega)
    rwa [List.drop_zero] at this
  · rw [lessV_no _ _ (by omega)]
    exact ev_pos (by omega) (Ev.now _)
theorem sz_item : ∀ (n : Nat) (x : S48), WF48 n x → ∀ b : Int, 0 ≤ b → b ≤ 1048576 → Ev (fun k => laws_szItem.f k x.f0 x.f1 x.f2 b) (lessV b (wtB n x))
  | 0, _, h, _, _, _ => h.elim
  | n + 1, x, ⟨_, hs, hl, hk⟩, b, h0, h1 => by
    have hs' : x.f1.size ≤ 9223372036854775807 := hs
    simp only [laws_szItem.f]
    rw [w64 (n := b - (x.f1.size : Int)) (by omega) (by omega)]
    have e : wtB (n + 1) x = x.f1.size + (x.f2.length + (x.f2.map (wtB n)).sum) := rfl
    rw [e]
    by_cases hc : (x.f1.size : Int) ≤ b
    · refine ev_neg (by omega) (Ev.bind (sz_row n (sz_item n) x.f2 hl hk _ (by omega) (by omega)) ?_)
      rw [lessV_add _ _ _ hc]
      by_cases hd : ((x.f1.size + (x.f2.length + (x.f2.map (wtB n)).sum) : Nat) : Int) ≤ b
      · rw [lessV_yes _ _ hd]
        exact ev_neg (by omega) (Ev.now _)
      · rw [lessV_no _ _ hd]
        exact ev_pos (by omega) (Ev.now _)
    · rw [lessV_no _ _ (by omega)]
      exact ev_pos (by omega) (Ev.now _)
theorem sz_rows (n : Nat) (l : List S48) (hl : l.length ≤ maxLen) (hw : ∀ y ∈ l, WF48 n y) (b : Int) (h0 : 0 ≤ b) (h1 : b ≤ 1048576) : Ev (fun k => laws_szItemS.f k l b) (lessV b (l.length + (l.map (wtB n)).sum)) :=
  sz_row n (sz_item n) l hl hw b h0 h1
/-! The copy. -/
theorem etaL (x : S40) : (⟨x.f0, x.f1, x.f2⟩ : S40) = x := by cases x; rfl
def cv : Nat → S48 → S40
  | 0, _ => z40
  | n + 1, x => ⟨x.f0, x.f1, x.f2.map (cv n)⟩
theorem set_next {α β : Type} (l : List α) (f : α → β) (i : Nat) (t : β) (tl : List β) (h : i < l.length) : ((l.take i).map f ++ t :: tl).set i (f l[i]) = (l.take (i + 1)).map f ++ tl := by
  have hl : ((l.take i).map f).length = i := by rw [List.length_map, List.length_take]; omega
  rw [List.set_append_right _ _ (by omega), hl, Nat.sub_self, List.set_cons_zero, List.take_succ_eq_append_getElem h, List.map_append, List.append_assoc]
  rfl
theorem to_row (n : Nat) (item : ∀ y, WF48 n y → wtB n y ≤ 1048576 → Ev (fun k => laws_toItem.f k y.f0 y.f1 y.f2) ((cv n y).f0, (cv n y).f1, (cv n y).f2))
    (l : List S48) (hw : ∀ y ∈ l, WF48 n y) (hb : l.length + (l.map (wtB n)).sum ≤ 1048576) : Ev (fun k => laws_toItemS.f k l) (l.map (cv n)) := by
  have loop : ∀ (d i : Nat) (tl : List S40), tl.length = d → i + d = l.length → Ev (fun k => laws_toItemS.l0 k l ((l.take i).map (cv n) ++ tl) (i : Int)) (l.map (cv n)) := by
    intro d
    induction d with
    | zero =>
      intro i tl ht hi
      obtain rfl : tl = [] := List.eq_nil_of_length_eq_zero ht
      refine Ev.step (fun k => laws_toItemS.l0_eq k l _ i) (ev_neg (by omega) ?_)
      rw [List.append_nil, List.take_of_length_le (by omega)]
      exact Ev.now _
    | succ d ih =>
      intro i tl ht hi
      have hlt : i < l.length := by omega
      obtain ⟨t, tl, rfl⟩ : ∃ t tl', tl = t :: tl' := by cases tl with | nil => simp at ht | cons t tl => exact ⟨t, tl, rfl⟩
      refine Ev.step (fun k => laws_toItemS.l0_eq k l _ i) (ev_pos (by omega) (ev_pos (by omega) ?_))
      rw [rdB l i hlt]
      have hm := List.getElem_mem hlt
      refine Ev.bind (item l[i] (hw _ hm) (by have := le_sum (wtB n) l _ hm; omega)) (ev_pos ?_ ?_)
      · simp at ht; simp [List.length_take]; omega
      · rw [show wrap64 ((i : Int) + 1) = ((i + 1 : Nat) : Int) by rw [w64 (by omega) (by omega)]; omega, Int.toNat_natCast]
        show Ev (fun m => laws_toItemS.l0 m l (((l.take i).map (cv n) ++ t :: tl).set i ⟨(cv n l[i]).f0, (cv n l[i]).f1, (cv n l[i]).f2⟩) ((i + 1 : Nat) : Int)) (l.map (cv n))
        rw [etaL, set_next l (cv n) i t tl hlt]
        exact ih (i + 1) tl (by simpa using ht) (by omega)
  refine Ev.step (fun k => by rw [laws_toItemS.f]) (ev_pos (by omega) (ev_pos (by omega) ?_))
  have := loop l.length 0 (List.replicate l.length z40) (by simp) (by omega)
  simpa using this
theorem to_item : ∀ (n : Nat) (x : S48), WF48 n x → wtB n x ≤ 1048576 → Ev (fun k => laws_toItem.f k x.f0 x.f1 x.f2) ((cv n x).f0, (cv n x).f1, (cv n x).f2)
  | 0, _, h, _ => h.elim
  | n + 1, x, ⟨_, _, _, hk⟩, hb => by
    have e : wtB (n + 1) x = x.f1.size + (x.f2.length + (x.f2.map (wtB n)).sum) := rfl
    simp only [laws_toItem.f]
    exact Ev.bind (to_row n (to_item n) x.f2 hk (by omega)) (Ev.now _)
theorem to_rows (n : Nat) (l : List S48) (hw : ∀ y ∈ l, WF48 n y) (hb : l.length + (l.map (wtB n)).sum ≤ 1048576) : Ev (fun k => laws_toItemS.f k l) (l.map (cv n)) :=
  to_row n (to_item n) l hw hb
/-! The little trees, of the copy. -/
def WL : Nat → S40 → Prop
  | 0, _ => False
  | n + 1, x => x.f1.size ≤ 1048576 ∧ x.f2.length ≤ 1048576 ∧ ∀ y ∈ x.f2, WL n y
theorem cv_WL : ∀ (n : Nat) (x : S48), WF48 n x → wtB n x ≤ 1048576 → WL n (cv n x)
  | 0, _, h, _ => h.elim
  | n + 1, x, ⟨_, _, _, hk⟩, hb => by
    have e : wtB (n + 1) x = x.f1.size + (x.f2.length + (x.f2.map (wtB n)).sum) := rfl
    refine ⟨by show x.f1.size ≤ 1048576; omega, by show (x.f2.map (cv n)).length ≤ 1048576; rw [List.length_map]; omega, fun y hy => ?_⟩
    obtain ⟨z, hz, rfl⟩ := List.mem_map.1 hy
    exact cv_WL n z (hk z hz) (by have := le_sum (wtB n) x.f2 z hz; omega)
theorem eq_row (n : Nat) (item : ∀ y, WL n y → Ev (fun k => laws_eqItem.f k y.f0 y.f1 y.f2 y.f0 y.f1 y.f2) true) (l : List S40) (hl : l.length ≤ 1048576) (hw : ∀ y ∈ l, WL n y) : Ev (fun k => laws_eqItemS.f k l l) true := by
  have loop : ∀ (d i : Nat), i + d = l.length → Ev (fun k => laws_eqItemS.l0 k l l (i : Int)) true := by
    intro d
    induction d with
    | zero =>
      intro i hi
      exact Ev.step (fun k => laws_eqItemS.l0_eq k l l i) (ev_neg (by omega) (Ev.now _))
    | succ d ih =>
      intro i hi
      have hlt : i < l.length := by omega
      refine Ev.step (fun k => laws_eqItemS.l0_eq k l l i) (ev_pos (by omega) (ev_pos (by omega) (ev_pos (by omega) ?_)))
      rw [rdL l i hlt]
      refine Ev.bind (item l[i] (hw _ (List.getElem_mem hlt))) (ev_pos rfl ?_)
      rw [show wrap64 ((i : Int) + 1) = ((i + 1 : Nat) : Int) by rw [w64 (by omega) (by omega)]; omega]
      exact ih (i + 1) (by omega)
  refine Ev.step (fun k => by rw [laws_eqItemS.f]) ?_
  exact ev_pos rfl (loop l.length 0 (by omega))
theorem eq_item : ∀ (n : Nat) (x : S40), WL n x → Ev (fun k => laws_eqItem.f k x.f0 x.f1 x.f2 x.f0 x.f1 x.f2) true
  | 0, _, h => h.elim
  | n + 1, x, ⟨_, hl, hk⟩ => by
    simp only [laws_eqItem.f]
    exact ev_pos trivial (ev_pos trivial (Ev.bind (eq_row n (eq_item n) x.f2 hl hk) (ev_pos rfl (Ev.now _))))
theorem eq_rows (n : Nat) (l : List S40) (hl : l.length ≤ 1048576) (hw : ∀ y ∈ l, WL n y) : Ev (fun k => laws_eqItemS.f k l l) true := eq_row n (eq_item n) l hl hw

/-! What is a right item: both sides answer by the same word. -/
def plainV (x : S40) : Bool :=
  if x.f0 = 1 then (if x.f1.toList = ([0] : List UInt8) then true else x.f1.toList == ([255] : List UInt8))
  else if x.f0 = 2 then (decide (1 ≤ x.f1.size ∧ x.f1.size ≤ 5 ∧ bt x.f1 0 < 128) && (decide (bt x.f1 0 ≠ 0 ∨ x.f1.size = 1) || decide (bt x.f1 1 ≥ 128)))
  else if x.f0 = 12 then (bN x.f1).all (fun b => decide (32 ≤ b ∧ b ≤ 126))
  else x.f0 == 4
def okV : Nat → S40 → Int → Bool
  | 0, _, _ => false
  | n + 1, x, d => if x.f0 = 48 then (if x.f1.toList = ([] : List UInt8) ∧ x.f2.length ≤ 40 ∧ d < 6 then x.f2.all (fun y => okV n y (d + 1)) else false) else (if x.f2.length = 0 then plainV x else false)
theorem three_no (s : ByteArray) (h : ¬ bt s 0 < 128) : decide (1 ≤ s.size ∧ s.size ≤ 5 ∧ bt s 0 < 128) = false := decide_eq_false (fun q => h q.2.2)
theorem three_yes (s : ByteArray) (h1 : 1 ≤ s.size) (h2 : s.size ≤ 5) (h : bt s 0 < 128) : decide (1 ≤ s.size ∧ s.size ≤ 5 ∧ bt s 0 < 128) = true := decide_eq_true ⟨h1, h2, h⟩
theorem or_no (s : ByteArray) (h1 : bt s 0 = 0) (h : s.size ≠ 1) : decide (bt s 0 ≠ 0 ∨ s.size = 1) = false := decide_eq_false (fun q => q.elim (fun x => x h1) h)
theorem two_ev {g : Nat → Option Bool} (s : ByteArray) (yes : 1 ≤ s.size → s.size ≤ 5 → Ev g (decide (1 ≤ s.size ∧ s.size ≤ 5 ∧ bt s 0 < 128) && (decide (bt s 0 ≠ 0 ∨ s.size = 1) || decide (bt s 1 ≥ 128)))) :
    Ev (fun k => (if (s.size : Int) ≥ 1 then some (decide ((s.size : Int) ≤ 5)) else some false).bind fun t => if t = true then g k else some false) (decide (1 ≤ s.size ∧ s.size ≤ 5 ∧ bt s 0 < 128) && (decide (bt s 0 ≠ 0 ∨ s.size = 1) || decide (bt s 1 ≥ 128))) := by
  by_cases h1 : 1 ≤ s.size
  · by_cases h5 : s.size ≤ 5
    · refine Ev.bind (g := fun _ => if (s.size : Int) ≥ 1 then some (decide ((s.size : Int) ≤ 5)) else some false) (a := true) (by rw [if_pos (by omega), decide_eq_true (by omega)]; exact Ev.now _) (ev_pos rfl (yes h1 h5))
    · refine Ev.bind (g := fun _ => if (s.size : Int) ≥ 1 then some (decide ((s.size : Int) ≤ 5)) else some false) (a := false) (by rw [if_pos (by omega), decide_eq_false (by omega)]; exact Ev.now _) (ev_neg Bool.false_ne_true ?_)
      rw [decide_eq_false (fun h => h5 h.2.1), Bool.false_and]
      exact Ev.now _
  · refine Ev.bind (g := fun _ => if (s.size : Int) ≥ 1 then some (decide ((s.size : Int) ≤ 5)) else some false) (a := false) (by rw [if_neg (by omega)]; exact Ev.now _) (ev_neg Bool.false_ne_true ?_)
    rw [decide_eq_false (fun h => h1 h.1), Bool.false_and]
    exact Ev.now _
theorem drop_b (s : ByteArray) (i : Nat) (h : i < s.size) : ∃ b : Nat, b < 256 ∧ bt s i = (b : Int) ∧ (bN s).drop i = b :: (bN s).drop (i + 1) := by
  have h' : i < (bN s).length := by rw [bN_len]; exact h
  refine ⟨(bN s)[i], bN_lt s _ (List.getElem_mem h'), ?_, List.drop_eq_getElem_cons h'⟩
  rw [bt_bN, List.getD_eq_getElem?_getD, List.getElem?_eq_getElem h']
  rfl
theorem spec_plain (x : S40) (hs : x.f1.size ≤ 1048576) : Ev (fun k => spec_l07Plain.f k x.f0 x.f1 x.f2) (plainV x) := by
  have loop : ∀ (d i : Nat), i + d = x.f1.size → Ev (fun k => spec_l07Plain.l0 k (i : Int) x.f0 x.f1 x.f2) (((bN x.f1).drop i).all (fun b => decide (32 ≤ b ∧ b ≤ 126))) := by
    intro d
    induction d with
    | zero =>
      intro i hi
      refine Ev.step (fun k => by rw [spec_l07Plain.l0]) (ev_neg (by omega) ?_)
      rw [List.drop_eq_nil_of_le (by rw [bN_len]; omega)]
      exact Ev.now _
    | succ d ih =>
      intro i hi
      obtain ⟨b, _, e, ed⟩ := drop_b x.f1 i (by omega)
      refine Ev.step (fun k => by rw [spec_l07Plain.l0]) (ev_pos (by omega) (ev_pos (by omega) ?_))
      rw [e, ed, List.all_cons]
      by_cases h0 : b < 32
      · rw [decide_eq_false (by omega), Bool.false_and]
        exact ev_pos (by omega) (Ev.now _)
      refine ev_neg (by omega) ?_
      by_cases h1 : 126 < b
      · rw [decide_eq_false (by omega), Bool.false_and]
        exact ev_pos (by omega) (Ev.now _)
      refine ev_neg (by omega) ?_
      rw [decide_eq_true (by omega), Bool.true_and]
      rw [show wrap64 ((i : Int) + 1) = ((i + 1 : Nat) : Int) by rw [w64 (by omega) (by omega)]; omega]
      exact ih (i + 1) (by omega)
  simp only [spec_l07Plain.f, spec_l01In.f]
  unfold plainV
  by_cases c1 : x.f0 = 1
  · refine ev_pos c1 ?_
    rw [if_pos c1]
    by_cases e : x.f1.toList = ([0] : List UInt8)
    · refine ev_pos e ?_
      rw [if_pos e]
      exact Ev.now _
    · refine ev_neg e ?_
      rw [if_neg e]
      exact Ev.now _
  refine ev_neg c1 ?_
  rw [if_neg c1]
  by_cases c2 : x.f0 = 2
  · refine ev_pos c2 ?_
    rw [if_pos c2]
    refine two_ev x.f1 (fun h1 h5 => ?_)
    refine ev_pos (by omega) ?_
    by_cases ha : bt x.f1 0 ≥ 128
    · rw [three_no _ (by omega), Bool.false_and]
      exact ev_pos ha (Ev.now _)
    refine ev_neg ha ?_
    rw [three_yes _ h1 h5 (by omega), Bool.true_and]
    by_cases hz : bt x.f1 0 = 0
    · refine ev_pos hz ?_
      by_cases hn : x.f1.size = 1
      · rw [decide_eq_true (Or.inr hn), Bool.true_or]
        exact ev_pos (by omega) (Ev.now _)
      · rw [or_no _ hz hn, Bool.false_or]
        exact ev_neg (by omega) (ev_pos (by omega) (Ev.now _))
    · rw [decide_eq_true (Or.inl hz), Bool.true_or]
      exact ev_neg hz (Ev.now _)
  refine ev_neg c2 ?_
  rw [if_neg c2]
  by_cases c3 : x.f0 = 12
  · refine ev_pos c3 ?_
    rw [if_pos c3]
    have := loop x.f1.size 0 (by omega)
    rwa [List.drop_zero] at this
  refine ev_neg c3 ?_
  rw [if_neg c3]
  exact Ev.now _
theorem bytes_in (s : ByteArray) (hs : s.size ≤ 1048576) : Ev (fun k => impl_bytesIn.f k s 32 126) ((bN s).all (fun b => decide (32 ≤ b ∧ b ≤ 126))) := by
  have loop : ∀ (d i : Nat), i + d = s.size → Ev (fun k => impl_bytesIn.l0 k s 32 126 (i : Int)) (((bN s).drop i).all (fun b => decide (32 ≤ b ∧ b ≤ 126))) := by
    intro d
    induction d with
    | zero =>
      intro i hi
      refine Ev.step (fun k => by rw [impl_bytesIn.l0]) (ev_neg (by omega) ?_)
      rw [List.drop_eq_nil_of_le (by rw [bN_len]; omega)]
      exact Ev.now _
    | succ d ih =>
      intro i hi
      obtain ⟨b, hb, e, ed⟩ := drop_b s i (by omega)
      refine Ev.step (fun k => by rw [impl_bytesIn.l0]) (ev_pos (by omega) (ev_pos (by omega) ?_))
      rw [e, ed, List.all_cons, w64 (n := (b : Int)) (by omega) (by omega)]
      have hw : Ev (fun _ => impl_within.f (b : Int) 32 126) (decide (32 ≤ b ∧ b ≤ 126)) := by
        simp only [impl_within.f]
        by_cases h0 : 32 ≤ b
        · refine ev_pos (by omega) ?_
          rw [show decide ((b : Int) ≤ 126) = decide (32 ≤ b ∧ b ≤ 126) from decide_eq_decide.2 (by omega)]
          exact Ev.now _
        · rw [show decide (32 ≤ b ∧ b ≤ 126) = false from decide_eq_false (by omega)]
          exact ev_neg (by omega) (Ev.now _)
      refine Ev.bind hw ?_
      by_cases h : 32 ≤ b ∧ b ≤ 126
      · rw [decide_eq_true h, Bool.true_and]
        refine ev_pos rfl ?_
        rw [show wrap64 ((i : Int) + 1) = ((i + 1 : Nat) : Int) by rw [w64 (by omega) (by omega)]; omega]
        exact ih (i + 1) (by omega)
      · rw [decide_eq_false h, Bool.false_and]
        exact ev_neg Bool.false_ne_true (Ev.now _)
  simp only [impl_bytesIn.f]
  have := loop s.size 0 (by omega)
  rwa [List.drop_zero] at this
theorem spec_ok : ∀ (n : Nat) (x : S40) (d : Int), WL n x → 0 ≤ d → d ≤ 6 → Ev (fun k => spec_l07Right.f k x.f0 x.f1 x.f2 d) (okV n x d)
  | 0, _, _, h, _, _ => h.elim
  | n + 1, x, d, ⟨hs, hl, hk⟩, d0, d1 => by
    have loop : d < 6 → ∀ (m i : Nat), i + m = x.f2.length → Ev (fun k => spec_l07Right.l0 k d (i : Int) x.f0 x.f1 x.f2) ((x.f2.drop i).all (fun y => okV n y (d + 1))) := by
      intro hd m
      induction m with
      | zero =>
        intro i hi
        refine Ev.step (fun k => by rw [spec_l07Right.l0]) (ev_neg (by omega) ?_)
        rw [List.drop_eq_nil_of_le (by omega)]
        exact Ev.now _
      | succ m ih =>
        intro i hi
        have hlt : i < x.f2.length := by omega
        refine Ev.step (fun k => by rw [spec_l07Right.l0]) (ev_pos (by omega) (ev_pos (by omega) ?_))
        rw [rdL x.f2 i hlt, w64 (n := d + 1) (by omega) (by omega)]
        refine Ev.bind (spec_ok n x.f2[i] (d + 1) (hk _ (List.getElem_mem hlt)) (by omega) (by omega)) ?_
        rw [List.drop_eq_getElem_cons hlt, List.all_cons]
        cases he : okV n x.f2[i] (d + 1) with
        | true =>
          rw [Bool.true_and]
          refine ev_pos rfl ?_
          rw [show wrap64 ((i : Int) + 1) = ((i + 1 : Nat) : Int) by rw [w64 (by omega) (by omega)]; omega]
          exact ih (i + 1) (by omega)
        | false =>
          rw [Bool.false_and]
          exact ev_neg Bool.false_ne_true (Ev.now _)
    have no : Ev (fun k => spec_l07Right.j0 k d true x.f0 x.f1 x.f2) false := by
      refine Ev.step (fun k => by rw [spec_l07Right.j0]) ?_
      exact ev_pos rfl (Ev.now _)
    refine Ev.step (fun k => by rw [spec_l07Right.f]) ?_
    show Ev _ (if x.f0 = 48 then (if x.f1.toList = ([] : List UInt8) ∧ x.f2.length ≤ 40 ∧ d < 6 then x.f2.all (fun y => okV n y (d + 1)) else false) else (if x.f2.length = 0 then plainV x else false))
    by_cases c : x.f0 = 48
    · refine ev_pos c ?_
      rw [if_pos c]
      by_cases c1 : x.f1.toList = ([] : List UInt8)
      · refine ev_pos c1 ?_
        by_cases c2 : x.f2.length ≤ 40
        · refine ev_neg (by omega) ?_
          by_cases c3 : d < 6
          · rw [if_pos ⟨c1, c2, c3⟩, decide_eq_false (by omega)]
            refine Ev.step (fun k => by rw [spec_l07Right.j0]) ?_
            refine ev_neg Bool.false_ne_true ?_
            have := loop c3 x.f2.length 0 (by omega)
            rwa [List.drop_zero] at this
          · rw [if_neg (fun h => c3 h.2.2), decide_eq_true (by omega)]
            exact no
        · rw [if_neg (fun h => c2 h.2.1)]
          exact ev_pos (by omega) no
      · rw [if_neg (fun h => c1 h.1)]
        exact ev_neg c1 no
    · refine ev_neg c ?_
      rw [if_neg c]
      by_cases c1 : x.f2.length = 0
      · rw [if_pos c1]
        exact ev_pos (by omega) (Ev.bind (spec_plain x hs) (Ev.now _))
      · rw [if_neg c1]
        exact ev_neg (by omega) (Ev.now _)
theorem impl_ok : ∀ (n : Nat) (x : S40) (d : Int), WL n x → 0 ≤ d → d ≤ 6 → Ev (fun k => impl_itemOk.f k x.f0 x.f1 x.f2 d) (okV n x d)
  | 0, _, _, h, _, _ => h.elim
  | n + 1, x, d, ⟨hs, hl, hk⟩, d0, d1 => by
    have loop : d < 6 → ∀ (m i : Nat), i + m = x.f2.length → Ev (fun k => impl_itemOk.l0 k d x.f2 (x.f2.length : Int) (i : Int)) ((x.f2.drop i).all (fun y => okV n y (d + 1))) := by
      intro hd m
      induction m with
      | zero =>
        intro i hi
        refine Ev.step (fun k => by rw [impl_itemOk.l0]) (ev_neg (by omega) ?_)
        rw [List.drop_eq_nil_of_le (by omega)]
        exact Ev.now _
      | succ m ih =>
        intro i hi
        have hlt : i < x.f2.length := by omega
        refine Ev.step (fun k => by rw [impl_itemOk.l0]) (ev_pos (by omega) (ev_pos (by omega) (ev_pos (by omega) ?_)))
        rw [rdL x.f2 i hlt, w64 (n := d + 1) (by omega) (by omega)]
        refine Ev.bind (impl_ok n x.f2[i] (d + 1) (hk _ (List.getElem_mem hlt)) (by omega) (by omega)) ?_
        rw [List.drop_eq_getElem_cons hlt, List.all_cons]
        cases he : okV n x.f2[i] (d + 1) with
        | true =>
          rw [Bool.true_and]
          refine ev_pos rfl ?_
          rw [show wrap64 ((i : Int) + 1) = ((i + 1 : Nat) : Int) by rw [w64 (by omega) (by omega)]; omega]
          exact ih (i + 1) (by omega)
        | false =>
          rw [Bool.false_and]
          exact ev_neg Bool.false_ne_true (Ev.now _)
    have no : Ev (fun k => impl_itemOk.j0 k d true x.f0 x.f1 x.f2) false := by
      refine Ev.step (fun k => by rw [impl_itemOk.j0]) ?_
      exact ev_pos rfl (Ev.now _)
    refine Ev.step (fun k => by rw [impl_itemOk.f]) ?_
    show Ev _ (if x.f0 = 48 then (if x.f1.toList = ([] : List UInt8) ∧ x.f2.length ≤ 40 ∧ d < 6 then x.f2.all (fun y => okV n y (d + 1)) else false) else (if x.f2.length = 0 then plainV x else false))
    by_cases c : x.f0 = 48
    · refine ev_pos c ?_
      rw [if_pos c]
      by_cases c1 : x.f1.toList = ([] : List UInt8)
      · refine ev_pos c1 ?_
        by_cases c2 : x.f2.length ≤ 40
        · refine ev_neg (by omega) ?_
          by_cases c3 : d < 6
          · rw [if_pos ⟨c1, c2, c3⟩, decide_eq_false (by omega)]
            refine Ev.step (fun k => by rw [impl_itemOk.j0]) ?_
            refine ev_neg Bool.false_ne_true ?_
            have := loop c3 x.f2.length 0 (by omega)
            rwa [List.drop_zero] at this
          · rw [if_neg (fun h => c3 h.2.2), decide_eq_true (by omega)]
            exact no
        · rw [if_neg (fun h => c2 h.2.1)]
          exact ev_pos (by omega) no
      · rw [if_neg (fun h => c1 h.1)]
        exact ev_neg c1 no
    · refine ev_neg c ?_
      rw [if_neg c]
      by_cases c1 : x.f2.length = 0
      · rw [if_pos c1]
        refine ev_neg (by omega) ?_
        unfold plainV
        by_cases t1 : x.f0 = 1
        · refine ev_pos t1 ?_
          rw [if_pos t1]
          by_cases e : x.f1.toList = ([0] : List UInt8)
          · refine ev_pos e ?_
            rw [if_pos e]
            exact Ev.now _
          · refine ev_neg e ?_
            rw [if_neg e]
            exact Ev.now _
        refine ev_neg t1 ?_
        rw [if_neg t1]
        by_cases t2 : x.f0 = 2
        · refine ev_pos t2 ?_
          rw [if_pos t2]
          simp only [impl_within.f]
          refine two_ev x.f1 (fun h1 h5 => ?_)
          refine ev_pos (by omega) ?_
          by_cases ha : bt x.f1 0 < 128
          · refine ev_pos ha ?_
            rw [three_yes _ h1 h5 ha, Bool.true_and]
            by_cases hz : bt x.f1 0 = 0
            · refine ev_pos hz ?_
              by_cases hn : x.f1.size = 1
              · rw [decide_eq_true (Or.inr hn), Bool.true_or]
                exact ev_pos (by omega) (Ev.now _)
              · rw [or_no _ hz hn, Bool.false_or]
                exact ev_neg (by omega) (ev_pos (by omega) (Ev.now _))
            · rw [decide_eq_true (Or.inl hz), Bool.true_or]
              exact ev_neg hz (Ev.now _)
          · rw [three_no _ ha, Bool.false_and]
            exact ev_neg ha (Ev.now _)
        refine ev_neg t2 ?_
        rw [if_neg t2]
        by_cases t4 : x.f0 = 4
        · rw [t4]
          exact ev_pos rfl (Ev.now _)
        refine ev_neg t4 ?_
        by_cases t3 : x.f0 = 12
        · rw [if_pos t3]
          exact ev_pos t3 (Ev.bind (bytes_in x.f1 hs) (Ev.now _))
        rw [if_neg t3, show (x.f0 == 4) = false by simpa using t4]
        exact ev_neg t3 (Ev.now _)
      · rw [if_neg c1]
        exact ev_pos (by omega) (Ev.now _)

/-! The text of an item. -/
theorem str_bytes (t : ByteArray) : strOfNums (bytesOf t) = t := by
  apply ByteArray.ext
  unfold strOfNums bytesOf
  rw [List.map_map]
  have : (fun n : Int => UInt8.ofNat n.toNat) ∘ (fun b : UInt8 => (b.toNat : Int)) = id := by
    funext b; simp
  rw [this]; simp
theorem bytes_rng (t : ByteArray) : ∀ x ∈ bytesOf t, 0 ≤ x ∧ x < 256 := by
  intro x hx
  obtain ⟨b, _, rfl⟩ := List.mem_map.1 hx
  have := b.toNat_lt
  omega
theorem bytes_str (l : List Int) (h : ∀ x ∈ l, 0 ≤ x ∧ x < 256) : bytesOf (strOfNums l) = l := by
  unfold bytesOf
  rw [strOfNums_data, List.map_map]
  refine (List.map_congr_left (fun x hx => ?_)).trans (List.map_id l)
  have := h x hx
  show (((UInt8.ofNat x.toNat).toNat : Nat) : Int) = x
  rw [UInt8.toNat_ofNat']
  omega
theorem be_len_k : ∀ (k n : Nat), n < 256 ^ k → (be n).length ≤ k
  | 0, n, h => by
    have : n = 0 := by simpa using h
    subst this
    rw [be, if_neg (by omega)]; simp
  | k + 1, n, h => by
    rw [be]
    split
    · have h2 : n / 256 < 256 ^ k := by
        rw [Nat.pow_succ] at h
        exact Nat.div_lt_of_lt_mul (by rw [Nat.mul_comm]; exact h)
      have := be_len_k k (n / 256) h2
      simp; omega
    · simp
def lenL (n : Nat) : List Int := if n < 128 then [(n : Int) % 256] else (128 + ((be n).length : Int)) % 256 :: be n
theorem lenL_len (n : Nat) (h : n < 1099511627776) : (lenL n).length ≤ 6 := by
  have := be_len_k 5 n (by rw [show (256 : Nat) ^ 5 = 1099511627776 by decide]; exact h)
  unfold lenL
  split
  · simp
  · simp; omega
theorem lenL_rng (n : Nat) : ∀ x ∈ lenL n, 0 ≤ x ∧ x < 256 := by
  intro x hx
  unfold lenL at hx
  split at hx
  · have : x = (n : Int) % 256 := by simpa using hx
    omega
  · rcases List.mem_cons.1 hx with rfl | h
    · omega
    · exact be_rng n x h
theorem spec_len_loop (n : Nat) : ∀ acc : List Int, (be n ++ acc).length ≤ 1000 → n < 1099511627776 → Ev (fun k => spec_l07Length.l0 k (n : Int) (strOfNums acc)) (strOfNums ((128 + ((be n ++ acc).length : Int)) % 256 :: (be n ++ acc))) := by
  induction n using Nat.strongRecOn with
  | _ n ih =>
    intro acc hl hn
    refine Ev.step (fun k => by rw [spec_l07Length.l0]) ?_
    by_cases h : 0 < n
    · refine ev_pos (by omega) ?_
      have e1 : wrap64 (Int.tdiv (n : Int) 256) = ((n / 256 : Nat) : Int) := by rw [show (256 : Int) = ((256 : Nat) : Int) from rfl, tdivN]; exact w64 (by omega) (by omega)
      have e2 : Int.tmod (n : Int) 256 % 256 = ((n % 256 : Nat) : Int) := by
        rw [show (256 : Int) = ((256 : Nat) : Int) from rfl, tmodN]; omega
      rw [e1, e2]
      refine Ev.bind (g := fun _ => some [((n % 256 : Nat) : Int)]) (Ev.now _) ?_
      rw [str_append]
      rw [be, if_pos h, List.append_assoc] at hl
      have hz : (strOfNums [((n % 256 : Nat) : Int)]).size + (strOfNums acc).size ≤ 9223372036854775807 := by
        rw [strOfNums_size, strOfNums_size]
        have := hl
        simp at this ⊢
        omega
      refine ev_pos hz ?_
      have := ih (n / 256) (by omega) ([((n % 256 : Nat) : Int)] ++ acc) hl (by omega)
      rw [be, if_pos h, List.append_assoc]
      exact this
    · refine ev_neg (by omega) ?_
      have e0 : be n = [] := by rw [be, if_neg h]
      rw [e0, List.nil_append] at hl ⊢
      rw [strOfNums_size, w64 (by omega) (by omega)]
      refine Ev.bind (g := fun _ => some [(128 + (acc.length : Int)) % 256]) (Ev.now _) ?_
      refine ev_pos (by rw [strOfNums_size]; simp; omega) ?_
      rw [str_append]
      exact Ev.now _
theorem spec_len (n : Nat) (hn : n < 1099511627776) : Ev (fun k => spec_l07Length.f k (n : Int)) (strOfNums (lenL n)) := by
  simp only [spec_l07Length.f]
  unfold lenL
  by_cases h : n < 128
  · rw [if_pos h]
    exact ev_pos (by omega) (Ev.now _)
  · rw [if_neg h]
    refine ev_neg (by omega) ?_
    have hb := be_len_k 5 n (by rw [show (256 : Nat) ^ 5 = 1099511627776 by decide]; exact hn)
    have := spec_len_loop n [] (by rw [List.append_nil]; omega) hn
    rw [List.append_nil] at this
    exact this
theorem impl_len_loop (n : Nat) : ∀ acc : List Int, (be n ++ acc).length ≤ 1000 → n < 1099511627776 → Ev (fun k => impl_lengthText.l0 k acc (n : Int)) (strOfNums ((128 + ((be n ++ acc).length : Int)) % 256 :: (be n ++ acc))) := by
  induction n using Nat.strongRecOn with
  | _ n ih =>
    intro acc hl hn
    refine Ev.step (fun k => by rw [impl_lengthText.l0]) ?_
    by_cases h : 0 < n
    · refine ev_pos (by omega) ?_
      have e1 : (n : Int) / 256 = ((n / 256 : Nat) : Int) := by omega
      have e2 : (n : Int) % 256 = ((n % 256 : Nat) : Int) := by omega
      rw [e1, e2]
      refine Ev.bind (g := fun _ => some [((n % 256 : Nat) : Int)]) (Ev.now _) ?_
      rw [be, if_pos h, List.append_assoc] at hl
      refine ev_pos (by have := hl; simp at this ⊢; omega) ?_
      have := ih (n / 256) (by omega) ([((n % 256 : Nat) : Int)] ++ acc) hl (by omega)
      rw [be, if_pos h, List.append_assoc]
      exact this
    · refine ev_neg (by omega) ?_
      have e0 : be n = [] := by rw [be, if_neg h]
      rw [e0, List.nil_append] at hl ⊢
      rw [w64 (by omega) (by omega)]
      refine Ev.bind (g := fun _ => some [(128 + (acc.length : Int)) % 256]) (Ev.now _) ?_
      exact ev_pos (by simp; omega) (Ev.now _)
theorem impl_len (n : Nat) (hn : n < 1099511627776) : Ev (fun k => impl_lengthText.f k (n : Int)) (strOfNums (lenL n)) := by
  simp only [impl_lengthText.f]
  unfold lenL
  by_cases h : n < 128
  · rw [if_pos h]
    exact ev_pos (by omega) (Ev.now _)
  · rw [if_neg h]
    refine ev_neg (by omega) ?_
    have hb := be_len_k 5 n (by rw [show (256 : Nat) ^ 5 = 1099511627776 by decide]; exact hn)
    have := impl_len_loop n [] (by rw [List.append_nil]; omega) hn
    rw [List.append_nil] at this
    exact this
def inL (tag : Int) (s : List Int) : List Int := tag % 256 :: (lenL s.length ++ s)
def textL : Nat → S40 → List Int
  | 0, _ => []
  | n + 1, x => inL x.f0 (if x.f0 = 48 then x.f2.flatMap (textL n) else bytesOf x.f1)
def wtL : Nat → S40 → Nat
  | 0, _ => 0
  | n + 1, x => x.f1.size + (x.f2.length + (x.f2.map (wtL n)).sum)
theorem wt_cv : ∀ (n : Nat) (x : S48), wtL n (cv n x) = wtB n x
  | 0, _ => rfl
  | n + 1, x => by
    show x.f1.size + ((x.f2.map (cv n)).length + ((x.f2.map (cv n)).map (wtL n)).sum) = x.f1.size + (x.f2.length + (x.f2.map (wtB n)).sum)
    rw [List.length_map, List.map_map, List.map_congr_left (f := wtL n ∘ cv n) (g := wtB n) (fun y _ => wt_cv n y)]
theorem flat_len {α : Type} (f : α → List Int) (g : α → Nat) : ∀ l : List α, (∀ y ∈ l, (f y).length ≤ 7 * (1 + g y)) → (l.flatMap f).length ≤ 7 * (l.length + (l.map g).sum)
  | [], _ => by simp
  | y :: l, h => by
    have h1 := h y List.mem_cons_self
    have h2 := flat_len f g l (fun z hz => h z (List.mem_cons_of_mem _ hz))
    rw [List.flatMap_cons, List.length_append, List.length_cons, List.map_cons, List.sum_cons]
    omega
theorem inL_len (tag : Int) (s : List Int) (h : s.length < 1099511627776) : (inL tag s).length ≤ 7 + s.length := by
  have := lenL_len s.length h
  unfold inL
  simp; omega
theorem text_len : ∀ (n : Nat) (x : S40), wtL n x ≤ 1048576 → (textL n x).length ≤ 7 * (1 + wtL n x)
  | 0, _, _ => by simp [textL]
  | n + 1, x, hb => by
    have e : wtL (n + 1) x = x.f1.size + (x.f2.length + (x.f2.map (wtL n)).sum) := rfl
    have f := flat_len (textL n) (wtL n) x.f2 (fun y hy => text_len n y (by have := le_sum (wtL n) x.f2 y hy; omega))
    have b := bytesOf_length x.f1
    show (inL x.f0 (if x.f0 = 48 then x.f2.flatMap (textL n) else bytesOf x.f1)).length ≤ _
    split
    · have := inL_len x.f0 (x.f2.flatMap (textL n)) (by omega)
      omega
    · have := inL_len x.f0 (bytesOf x.f1) (by omega)
      omega
theorem spec_in {g : Nat → Option ByteArray} (tag : Int) (s : List Int) (h : s.length < 1000000000) (hg : Ev g (strOfNums (lenL s.length))) :
    Ev (fun k => (some ([tag % 256] : List Int)).bind fun y => (g k).bind fun t => if (strOfNums y).size + t.size ≤ 9223372036854775807 then (if ((strOfNums y) ++ t).size + (strOfNums s).size ≤ 9223372036854775807 then some (((strOfNums y) ++ t) ++ strOfNums s) else none) else none) (strOfNums (inL tag s)) := by
  have hl := lenL_len s.length (by omega)
  refine Ev.bind (g := fun _ => some [tag % 256]) (Ev.now _) (Ev.bind hg ?_)
  rw [str_append, str_append, strOfNums_size, strOfNums_size, strOfNums_size, strOfNums_size]
  refine ev_pos (by simp; omega) (ev_pos (by simp; omega) ?_)
  rw [show [tag % 256] ++ lenL s.length ++ s = inL tag s by unfold inL; simp]
  exact Ev.now _
theorem ok_nil {n : Nat} {x : S40} {d : Int} (h : okV (n + 1) x d = true) (c : x.f0 = 48) : x.f1.toList = ([] : List UInt8) ∧ ∀ y ∈ x.f2, okV n y (d + 1) = true := by
  have h2 : (if x.f0 = 48 then (if x.f1.toList = ([] : List UInt8) ∧ x.f2.length ≤ 40 ∧ d < 6 then x.f2.all (fun y => okV n y (d + 1)) else false) else (if x.f2.length = 0 then plainV x else false)) = true := h
  rw [if_pos c] at h2
  split at h2
  · rename_i q
    exact ⟨q.1, List.all_eq_true.1 h2⟩
  · cases h2
theorem empty_of (t : ByteArray) (h : t.toList = ([] : List UInt8)) : t = strOfNums [] := by
  rw [ByteArray.toList_eq] at h
  apply ByteArray.ext
  exact Array.toList_inj.1 h
theorem flat_step {l : List S40} {n i : Nat} (h : i < l.length) : (l.take (i + 1)).flatMap (textL n) = (l.take i).flatMap (textL n) ++ textL n l[i] := by
  rw [List.take_succ_eq_append_getElem h, List.flatMap_append]
  simp
theorem flat_take {l : List S40} (n i : Nat) (hb : l.length + (l.map (wtL n)).sum ≤ 1048576) : ((l.take i).flatMap (textL n)).length ≤ 8388608 := by
  have h := flat_len (textL n) (wtL n) l (fun y hy => text_len n y (by have := le_sum (wtL n) l y hy; omega))
  have e : l.flatMap (textL n) = (l.take i).flatMap (textL n) ++ (l.drop i).flatMap (textL n) := by rw [← List.flatMap_append, List.take_append_drop]
  rw [e, List.length_append] at h
  omega
theorem inL_rng (tag : Int) (s : List Int) (h : ∀ x ∈ s, 0 ≤ x ∧ x < 256) : ∀ x ∈ inL tag s, 0 ≤ x ∧ x < 256 := by
  intro x hx
  unfold inL at hx
  rcases List.mem_cons.1 hx with rfl | hx
  · omega
  · rcases List.mem_append.1 hx with hx | hx
    · exact lenL_rng _ x hx
    · exact h x hx
theorem text_rng : ∀ (n : Nat) (x : S40), ∀ b ∈ textL n x, 0 ≤ b ∧ b < 256
  | 0, _, b, h => by cases h
  | n + 1, x, b, h => by
    refine inL_rng x.f0 (if x.f0 = 48 then x.f2.flatMap (textL n) else bytesOf x.f1) (fun c hc => ?_) b h
    split at hc
    · obtain ⟨y, _, hy⟩ := List.mem_flatMap.1 hc
      exact text_rng n y c hy
    · exact bytes_rng _ c hc
theorem spec_text : ∀ (n : Nat) (x : S40) (d : Int), WL n x → okV n x d = true → wtL n x ≤ 1048576 → Ev (fun k => spec_l07Text.f k x.f0 x.f1 x.f2) (strOfNums (textL n x))
  | 0, _, _, h, _, _ => h.elim
  | n + 1, x, d, ⟨hs, hl, hk⟩, ho, hb => by
    have e : wtL (n + 1) x = x.f1.size + (x.f2.length + (x.f2.map (wtL n)).sum) := rfl
    refine Ev.step (fun k => by rw [spec_l07Text.f]) ?_
    show Ev _ (strOfNums (inL x.f0 (if x.f0 = 48 then x.f2.flatMap (textL n) else bytesOf x.f1)))
    by_cases c : x.f0 = 48
    · obtain ⟨he, hko⟩ := ok_nil ho c
      refine ev_pos c ?_
      rw [if_pos c]
      have loop : ∀ (m i : Nat), i + m = x.f2.length → Ev (fun k => spec_l07Text.l0 k (strOfNums ((x.f2.take i).flatMap (textL n))) (i : Int) x.f0 x.f1 x.f2) (strOfNums (inL x.f0 (x.f2.flatMap (textL n)))) := by
        intro m
        induction m with
        | zero =>
          intro i hi
          refine Ev.step (fun k => by rw [spec_l07Text.l0]) (ev_neg (by omega) ?_)
          have hlen := flat_take (l := x.f2) n i (by omega)
          rw [List.take_of_length_le (by omega)] at hlen ⊢
          refine spec_in _ _ (by omega) ?_
          rw [strOfNums_size]
          exact spec_len _ (by omega)
        | succ m ih =>
          intro i hi
          have hlt : i < x.f2.length := by omega
          have hm := List.getElem_mem hlt
          refine Ev.step (fun k => by rw [spec_l07Text.l0]) (ev_pos (by omega) (ev_pos (by omega) ?_))
          rw [rdL x.f2 i hlt]
          have hw := le_sum (wtL n) x.f2 _ hm
          refine Ev.bind (spec_text n x.f2[i] (d + 1) (hk _ hm) (hko _ hm) (by omega)) ?_
          rw [str_append, ← flat_step hlt]
          have hlen := flat_take (l := x.f2) n (i + 1) (by omega)
          rw [flat_step hlt, List.length_append] at hlen
          rw [strOfNums_size, strOfNums_size]
          refine ev_pos (by omega) ?_
          rw [show wrap64 ((i : Int) + 1) = ((i + 1 : Nat) : Int) by rw [w64 (by omega) (by omega)]; omega]
          exact ih (i + 1) (by omega)
      have := loop x.f2.length 0 (by omega)
      rw [empty_of _ he] at this ⊢
      exact this
    · refine ev_neg c ?_
      rw [if_neg c]
      have b := bytesOf_length x.f1
      have := spec_in (g := fun k => spec_l07Length.f k (x.f1.size : Int)) x.f0 (bytesOf x.f1) (by omega) (by rw [b]; exact spec_len _ (by omega))
      rw [str_bytes] at this
      exact this
theorem impl_text : ∀ (n : Nat) (x : S40) (d : Int), WL n x → okV n x d = true → wtL n x ≤ 1048576 → Ev (fun k => impl_itemText.f k x.f0 x.f1 x.f2) (strOfNums (textL n x))
  | 0, _, _, h, _, _ => h.elim
  | n + 1, x, d, ⟨hs, hl, hk⟩, ho, hb => by
    have e : wtL (n + 1) x = x.f1.size + (x.f2.length + (x.f2.map (wtL n)).sum) := rfl
    refine Ev.step (fun k => by rw [impl_itemText.f]) ?_
    show Ev _ (strOfNums (inL x.f0 (if x.f0 = 48 then x.f2.flatMap (textL n) else bytesOf x.f1)))
    by_cases c : x.f0 = 48
    · obtain ⟨he, hko⟩ := ok_nil ho c
      refine ev_pos c ?_
      rw [if_pos c]
      have loop : ∀ (m i : Nat), i + m = x.f2.length → Ev (fun k => impl_itemText.l0 k ((x.f2.take i).flatMap (textL n)) x.f2 (x.f2.length : Int) (i : Int) x.f0 x.f1 x.f2) (strOfNums (inL x.f0 (x.f2.flatMap (textL n)))) := by
        intro m
        induction m with
        | zero =>
          intro i hi
          refine Ev.step (fun k => by rw [impl_itemText.l0]) (ev_neg (by omega) ?_)
          have hlen := flat_take (l := x.f2) n i (by omega)
          rw [List.take_of_length_le (by omega)] at hlen ⊢
          refine spec_in _ _ (by omega) ?_
          rw [strOfNums_size]
          exact impl_len _ (by omega)
        | succ m ih =>
          intro i hi
          have hlt : i < x.f2.length := by omega
          have hm := List.getElem_mem hlt
          refine Ev.step (fun k => by rw [impl_itemText.l0]) (ev_pos (by omega) (ev_pos (by omega) (ev_pos (by omega) ?_)))
          rw [rdL x.f2 i hlt]
          have hw := le_sum (wtL n) x.f2 _ hm
          refine Ev.bind (impl_text n x.f2[i] (d + 1) (hk _ hm) (hko _ hm) (by omega)) ?_
          rw [bytes_str _ (text_rng n _), ← flat_step hlt]
          have hlen := flat_take (l := x.f2) n (i + 1) (by omega)
          rw [flat_step hlt, List.length_append] at hlen
          rw [strOfNums_size]
          refine ev_pos (by omega) ?_
          rw [show wrap64 ((i : Int) + 1) = ((i + 1 : Nat) : Int) by rw [w64 (by omega) (by omega)]; omega]
          exact ih (i + 1) (by omega)
      exact loop x.f2.length 0 (by omega)
    · refine ev_neg c ?_
      rw [if_neg c]
      have b := bytesOf_length x.f1
      have := spec_in (g := fun k => impl_lengthText.f k (x.f1.size : Int)) x.f0 (bytesOf x.f1) (by omega) (by rw [b]; exact impl_len _ (by omega))
      rw [str_bytes] at this
      exact this
def itemTextV (n : Nat) (x : S40) : ByteArray × Bool := if okV n x 0 = true ∧ (textL n x).length ≤ 4000 then (strOfNums (textL n x), true) else (⟨#[]⟩, false)
theorem spec_ItemText_ev (n : Nat) (x : S40) (hw : WL n x) (hb : wtL n x ≤ 1048576) : Ev (fun k => spec_ItemText.f k x.f0 x.f1 x.f2) (itemTextV n x) := by
  simp only [spec_ItemText.f, spec_ItemOk.f]
  refine Ev.bind (Ev.bind (spec_ok n x 0 hw (by omega) (by omega)) (Ev.now _)) ?_
  unfold itemTextV
  cases ho : okV n x 0 with
  | false =>
    rw [if_neg (fun h => Bool.false_ne_true h.1)]
    exact ev_neg Bool.false_ne_true (Ev.now _)
  | true =>
    refine ev_pos rfl (Ev.bind (spec_text n x 0 hw ho hb) ?_)
    rw [strOfNums_size]
    by_cases h : (textL n x).length ≤ 4000
    · refine ev_neg (by omega) ?_
      rw [if_pos ⟨rfl, h⟩]
      exact Ev.now _
    · refine ev_pos (by omega) ?_
      rw [if_neg (fun q => h q.2)]
      exact Ev.now _
theorem impl_ItemText_ev (n : Nat) (x : S40) (hw : WL n x) (hb : wtL n x ≤ 1048576) : Ev (fun k => impl_ItemText.f k x.f0 x.f1 x.f2) (itemTextV n x) := by
  simp only [impl_ItemText.f, impl_ItemOk.f]
  refine Ev.bind (Ev.bind (impl_ok n x 0 hw (by omega) (by omega)) (Ev.now _)) ?_
  unfold itemTextV
  cases ho : okV n x 0 with
  | false =>
    rw [if_neg (fun h => Bool.false_ne_true h.1)]
    exact ev_neg Bool.false_ne_true (Ev.now _)
  | true =>
    refine ev_pos rfl (Ev.bind (impl_text n x 0 hw ho hb) ?_)
    rw [strOfNums_size]
    by_cases h : (textL n x).length ≤ 4000
    · refine ev_neg (by omega) ?_
      rw [if_pos ⟨rfl, h⟩]
      exact Ev.now _
    · refine ev_pos (by omega) ?_
      rw [if_neg (fun q => h q.2)]
      exact Ev.now _

theorem FnExactItemText : laws_FnExactItemText.Pure := by
  intro x n hw
  refine Ev.rounds (g := fun k => laws_FnExactItemText.f k x.f0 x.f1 x.f2) ?_
  simp only [laws_FnExactItemText.f]
  refine Ev.bind (sz_item n x hw 1048576 (by omega) (by omega)) ?_
  by_cases hb : (wtB n x : Int) ≤ 1048576
  · rw [lessV_yes _ _ hb]
    have hb' : wtB n x ≤ 1048576 := by omega
    have t := to_item n x hw hb'
    have wl := cv_WL n x hw hb'
    have hl : wtL n (cv n x) ≤ 1048576 := by rw [wt_cv]; exact hb'
    refine ev_neg (by omega) (Ev.bind t (Ev.bind (spec_ItemText_ev n _ wl hl) (Ev.bind t (Ev.bind (impl_ItemText_ev n _ wl hl) (ev_pos rfl ?_)))))
    rw [show ((itemTextV n (cv n x)).2 != (itemTextV n (cv n x)).2) = false by simp]
    refine Ev.step (fun k => by rw [laws_FnExactItemText.j0]) ?_
    exact ev_neg Bool.false_ne_true (Ev.bind t (Ev.bind (eq_item n _ wl) (ev_pos rfl (Ev.now _))))
  · rw [lessV_no _ _ hb]
    exact ev_pos (by omega) (Ev.now _)

end Go.Proofs.Ytgjmkljhllbanaa.Pure
