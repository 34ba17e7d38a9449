/- The law FnExactItemOk answers true for every argument: the program's ItemOk and the reference's come to the same answer. -/
import Derived.Test.YtgjmkljhllbanaaGFnExactItemOkx4
import Derived.Test.YtgjmkljhllbanaaOFnExactItemOk
set_option linter.unusedVariables false
set_option linter.unusedSimpArgs false
namespace Go.Proofs.Ytgjmkljhllbanaa.Pure
open Go.RowKit Go.ChangeShapes Go.Proofs.Ytgjmkljhllbanaa.GFnExactItemOk Go.Proofs.YtgjmkljhllbanaaW.PrintWords Go.Proofs.YtgjmkljhllbanaaW.PrintLast

theorem w64 {n : Int} (h0 : -9223372036854775808 ≤ n) (h1 : n ≤ 9223372036854775807) : wrap64 n = n := by unfold wrap64; omega
theorem ev_pos {α : Type} {c : Prop} [Decidable c] {f g : Nat → Option α} {r : α} (h : c) (k : Ev f r) : Ev (fun n => if c then f n else g n) r := by
  simpa only [if_pos h] using k
theorem ev_neg {α : Type} {c : Prop} [Decidable c] {f g : Nat → Option α} {r : α} (h : ¬ c) (k : Ev g r) : Ev (fun n => if c then f n else g n) r := by
  simpa only [if_neg h] using k
theorem tdivN (n m : Nat) : Int.tdiv (n : Int) (m : Int) = ((n / m : Nat) : Int) := rfl
theorem tmodN (n m : Nat) : Int.tmod (n : Int) (m : Int) = ((n % m : Nat) : Int) := rfl
theorem tdiv_pos' {n m : Int} (h : 0 ≤ n) : Int.tdiv n m = n / m := Int.tdiv_eq_ediv_of_nonneg h
theorem tmod_pos' {n m : Int} (h : 0 ≤ n) : Int.tmod n m = n % m := Int.tmod_eq_emod_of_nonneg h
theorem bt_rng (s : ByteArray) (i : Int) : 0 ≤ bt s i ∧ bt s i ≤ 255 := bt_range s i
theorem bt_bytes (s : ByteArray) (i : Nat) : bt s i = (bytesOf s).getD i 0 := (rd_bytesOf s i).symm
theorem drop_bytes (s : ByteArray) (i : Nat) (h : i < s.size) : (bytesOf s).drop i = bt s i :: (bytesOf s).drop (i + 1) := by
  have h' : i < (bytesOf s).length := by rw [bytesOf_length]; exact h
  rw [List.drop_eq_getElem_cons h', bt_bytes, List.getD_eq_getElem?_getD, List.getElem?_eq_getElem h']
  rfl

def bN (s : ByteArray) : List Nat := s.data.toList.map UInt8.toNat
theorem bN_len (s : ByteArray) : (bN s).length = s.size := by rw [bN, List.length_map, Array.length_toList]; rfl
theorem bN_lt (s : ByteArray) : ∀ b ∈ bN s, b < 256 := by
  intro b hb
  obtain ⟨c, _, rfl⟩ := List.mem_map.1 hb
  exact c.toNat_lt
theorem bt_bN (s : ByteArray) (i : Nat) : bt s i = ((bN s).getD i 0 : Nat) := by
  unfold bt bN
  split
  · rename_i h
    have h' : i < s.data.toList.length := by rw [Array.length_toList]; exact h
    simp [List.getD_eq_getElem?_getD, List.getElem?_eq_getElem h']
    rfl
  · rename_i h
    have h' : s.data.toList.length ≤ i := by rw [Array.length_toList]; simpa using h
    simp [List.getD_eq_getElem?_getD, List.getElem?_eq_none h']
theorem bN_toList (s : ByteArray) : s.toList = (bN s).map UInt8.ofNat := by
  rw [ByteArray.toList_eq, bN, List.map_map]
  symm
  exact (List.map_congr_left (fun b _ => by simp)).trans (List.map_id _)
theorem drop_get (l : List Nat) (i : Nat) (pre : List Nat) (c : Nat) (rest : List Nat) (h : l.drop i = pre ++ c :: rest) : l.getD (i + pre.length) 0 = c := by
  have h2 : (l.drop i)[pre.length]? = some c := by rw [h, List.getElem?_append_right (Nat.le_refl _)]; simp
  rw [List.getElem?_drop] at h2
  rw [List.getD_eq_getElem?_getD, h2]; rfl

/-! Trees of items: their weight, their copy, their sameness. -/
theorem rdB (xs : List S48) (i : Nat) (h : i < xs.length) : rd_T48 xs (i : Int) = xs[i] := by
  simp [rd_T48, List.getD_eq_getElem?_getD, List.getElem?_eq_getElem h]
theorem rdL (xs : List S40) (i : Nat) (h : i < xs.length) : rd_T40 xs (i : Int) = xs[i] := by
  simp [rd_T40, List.getD_eq_getElem?_getD, List.getElem?_eq_getElem h]
theorem le_sum {α : Type} (f : α → Nat) : ∀ (l : List α) (y : α), y ∈ l → f y ≤ (l.map f).sum
  | [], _, h => by cases h
  | x :: l, y, h => by
    rcases List.mem_cons.1 h with rfl | h
    · simp
    · have := le_sum f l y h
      simp; omega
def wtB : Nat → S48 → Nat
  | 0, _ => 0
  | n + 1, x => x.f1.size + (x.f2.length + (x.f2.map (wtB n)).sum)
def lessV (b : Int) (w : Nat) : Int := if (w : Int) ≤ b then b - w else -1
theorem lessV_add (b : Int) (v w : Nat) (h : (v : Int) ≤ b) : lessV (b - v) w = lessV b (v + w) := by
  unfold lessV
  by_cases hw : (w : Int) ≤ b - v
  · rw [if_pos hw, if_pos (by omega)]; omega
  · rw [if_neg hw, if_neg (by omega)]
theorem lessV_no (b : Int) (w : Nat) (h : ¬ (w : Int) ≤ b) : lessV b w = -1 := if_neg h
theorem lessV_yes (b : Int) (w : Nat) (h : (w : Int) ≤ b) : lessV b w = b - w := if_pos h
theorem sz_row (n : Nat) (item : ∀ y, WF48 n y → ∀ b : Int, 0 ≤ b → b ≤ 1048576 → Ev (fun k => laws_szItem.f k y.f0 y.f1 y.f2 b) (lessV b (wtB n y)))
    (l : List S48) (hl : l.length ≤ maxLen) (hw : ∀ y ∈ l, WF48 n y) (b : Int) (h0 : 0 ≤ b) (h1 : b ≤ 1048576) : Ev (fun k => laws_szItemS.f k l b) (lessV b (l.length + (l.map (wtB n)).sum)) := by
  have hl' : l.length ≤ 9223372036854775807 := hl
  have loop : ∀ (d i : Nat) (b : Int), i + d = l.length → 0 ≤ b → b ≤ 1048576 → Ev (fun k => laws_szItemS.l0 k l b (i : Int)) (lessV b ((l.drop i).map (wtB n)).sum) := by
    intro d
    induction d with
    | zero =>
      intro i b hi h0 h1
      refine Ev.step (fun k => laws_szItemS.l0_eq k l b i) (ev_neg (by omega) ?_)
      rw [List.drop_eq_nil_of_le (by omega)]
      rw [show lessV b (([] : List S48).map (wtB n)).sum = b by rw [lessV_yes _ _ (by simpa using h0)]; simp]
      exact Ev.now _
    | succ d ih =>
      intro i b hi h0 h1
      have hlt : i < l.length := by omega
      refine Ev.step (fun k => laws_szItemS.l0_eq k l b i) (ev_pos (by omega) (ev_pos (by omega) ?_))
      rw [rdB l i hlt]
      refine Ev.bind (item l[i] (hw _ (List.getElem_mem hlt)) b h0 h1) ?_
      rw [List.drop_eq_getElem_cons hlt, List.map_cons, List.sum_cons]
      by_cases hc : (wtB n l[i] : Int) ≤ b
      · rw [lessV_yes _ _ hc, ← lessV_add _ _ _ hc]
        refine ev_neg (by omega) ?_
        rw [show wrap64 ((i : Int) + 1) = ((i + 1 : Nat) : Int) by rw [w64 (by omega) (by omega)]; omega]
        exact ih (i + 1) _ (by omega) (by omega) (by omega)
      · rw [lessV_no _ _ hc, lessV_no _ _ (by omega)]
        exact ev_pos (by omega) (Ev.now _)
  refine Ev.step (fun k => by rw [laws_szItemS.f]) ?_
  rw [w64 (n := b - (l.length : Int)) (by omega) (by omega)]
  by_cases hc : (l.length : Int) ≤ b
  · refine ev_neg (by omega) ?_
    rw [← lessV_add _ _ _ hc]
    have := loop l.length 0 (b - l.length) (by omega) (by omega) (by omega)
    rwa [List.drop_zero] at this
  · rw [lessV_no _ _ (by omega)]
    exact ev_pos (by omega) (Ev.now _)
theorem sz_item : ∀ (n : Nat) (x : S48), WF48 n x → ∀ b : Int, 0 ≤ b → b ≤ 1048576 → Ev (fun k => laws_szItem.f k x.f0 x.f1 x.f2 b) (lessV b (wtB n x))
  | 0, _, h, _, _, _ => h.elim
  | n + 1, x, ⟨_, hs, hl, hk⟩, b, h0, h1 => by
    have hs' : x.f1.size ≤ 9223372036854775807 := hs
    simp only [laws_szItem.f]
    rw [w64 (n := b - (x.f1.size : Int)) (by omega) (by omega)]
    have e : wtB (n + 1) x = x.f1.size + (x.f2.length + (x.f2.map (wtB n)).sum) := rfl
    rw [e]
    by_cases hc : (x.f1.size : Int) ≤ b
    · refine ev_neg (by omega) (Ev.bind (sz_row n (sz_item n) x.f2 hl hk _ (by omega) (by omega)) ?_)
      rw [lessV_add _ _ _ hc]
      by_cases hd : ((x.f1.size + (x.f2.length + (x.f2.map (wtB n)).sum) : Nat) : Int) ≤ b
      · rw [lessV_yes _ _ hd]
        exact ev_neg (by omega) (Ev.now _)
      · rw [lessV_no _ _ hd]
        exact ev_pos (by omega) (Ev.now _)
    · rw [lessV_no _ _ (by omega)]
      exact ev_pos (by omega) (Ev.now _)
theorem sz_rows (n : Nat) (l : List S48) (hl : l.length ≤ maxLen) (hw : ∀ y ∈ l, WF48 n y) (b : Int) (h0 : 0 ≤ b) (h1 : b ≤ 1048576) : Ev (fun k => laws_szItemS.f k l b) (lessV b (l.length + (l.map (wtB n)).sum)) :=
  sz_row n (sz_item n) l hl hw b h0 h1
/-! The copy. -/
theorem etaL (x : S40) : (⟨x.f0, x.f1, x.f2⟩ : S40) = x := by cases x; rfl
def cv : Nat → S48 → S40
  | 0, _ => z40
  | n + 1, x => ⟨x.f0, x.f1, x.f2.map (cv n)⟩
theorem set_next {α β : Type} (l : List α) (f : α → β) (i : Nat) (t : β) (tl : List β) (h : i < l.length) : ((l.take i).map f ++ t :: tl).set i (f l[i]) = (l.take (i + 1)).map f ++ tl := by
  have hl : ((l.take i).map f).length = i := by rw [List.length_map, List.length_take]; omega
  rw [List.set_append_right _ _ (by omega), hl, Nat.sub_self, List.set_cons_zero, List.take_succ_eq_append_getElem h, List.map_append, List.append_assoc]
  rfl
theorem to_row (n : Nat) (item : ∀ y, WF48 n y → wtB n y ≤ 1048576 → Ev (fun k => laws_toItem.f k y.f0 y.f1 y.f2) ((cv n y).f0, (cv n y).f1, (cv n y).f2))
    (l : List S48) (hw : ∀ y ∈ l, WF48 n y) (hb : l.length + (l.map (wtB n)).sum ≤ 1048576) : Ev (fun k => laws_toItemS.f k l) (l.map (cv n)) := by
  have loop : ∀ (d i : Nat) (tl : List S40), tl.length = d → i + d = l.length → Ev (fun k => laws_toItemS.l0 k l ((l.take i).map (cv n) ++ tl) (i : Int)) (l.map (cv n)) := by
    intro d
    induction d with
    | zero =>
      intro i tl ht hi
      obtain rfl : tl = [] := List.eq_nil_of_length_eq_zero ht
      refine Ev.step (fun k => laws_toItemS.l0_eq k l _ i) (ev_neg (by omega) ?_)
      rw [List.append_nil, List.take_of_length_le (by omega)]
      exact Ev.now _
    | succ d ih =>
      intro i tl ht hi
      have hlt : i < l.length := by omega
      obtain ⟨t, tl, rfl⟩ : ∃ t tl', tl = t :: tl' := by cases tl with | nil => simp at ht | cons t tl => exact ⟨t, tl, rfl⟩
      refine Ev.step (fun k => laws_toItemS.l0_eq k l _ i) (ev_pos (by omega) (ev_pos (by omega) ?_))
      rw [rdB l i hlt]
      have hm := List.getElem_mem hlt
      refine Ev.bind (item l[i] (hw _ hm) (by have := le_sum (wtB n) l _ hm; omega)) (ev_pos ?_ ?_)
      · simp at ht; simp [List.length_take]; omega
      · rw [show wrap64 ((i : Int) + 1) = ((i + 1 : Nat) : Int) by rw [w64 (by omega) (by omega)]; omega, Int.toNat_natCast]
        show Ev (fun m => laws_toItemS.l0 m l (((l.take i).map (cv n) ++ t :: tl).set i ⟨(cv n l[i]).f0, (cv n l[i]).f1, (cv n l[i]).f2⟩) ((i + 1 : Nat) : Int)) (l.map (cv n))
        rw [etaL, set_next l (cv n) i t tl hlt]
        exact ih (i + 1) tl (by simpa using ht) (by omega)
  refine Ev.step (fun k => by rw [laws_toItemS.f]) (ev_pos (by omega) (ev_pos (by omega) ?_))
  have := loop l.length 0 (List.replicate l.length z40) (by simp) (by omega)
  simpa using this
theorem to_item : ∀ (n : Nat) (x : S48), WF48 n x → wtB n x ≤ 1048576 → Ev (fun k => laws_toItem.f k x.f0 x.f1 x.f2) ((cv n x).f0, (cv n x).f1, (cv n x).f2)
  | 0, _, h, _ => h.elim
  | n + 1, x, ⟨_, _, _, hk⟩, hb => by
    have e : wtB (n + 1) x = x.f1.size + (x.f2.length + (x.f2.map (wtB n)).sum) := rfl
    simp only [laws_toItem.f]
    exact Ev.bind (to_row n (to_item n) x.f2 hk (by omega)) (Ev.now _)
theorem to_rows (n : Nat) (l : List S48) (hw : ∀ y ∈ l, WF48 n y) (hb : l.length + (l.map (wtB n)).sum ≤ 1048576) : Ev (fun k => laws_toItemS.f k l) (l.map (cv n)) :=
  to_row n (to_item n) l hw hb
/-! The little trees, of the copy. -/
def WL : Nat → S40 → Prop
  | 0, _ => False
  | n + 1, x => x.f1.size ≤ 1048576 ∧ x.f2.length ≤ 1048576 ∧ ∀ y ∈ x.f2, WL n y
theorem cv_WL : ∀ (n : Nat) (x : S48), WF48 n x → wtB n x ≤ 1048576 → WL n (cv n x)
  | 0, _, h, _ => h.elim
  | n + 1, x, ⟨_, _, _, hk⟩, hb => by
    have e : wtB (n + 1) x = x.f1.size + (x.f2.length + (x.f2.map (wtB n)).sum) := rfl
    refine ⟨by show x.f1.size ≤ 1048576; omega, by show (x.f2.map (cv n)).length ≤ 1048576; rw [List.length_map]; omega, fun y hy => ?_⟩
    obtain ⟨z, hz, rfl⟩ := List.mem_map.1 hy
    exact cv_WL n z (hk z hz) (by have := le_sum (wtB n) x.f2 z hz; omega)
theorem eq_row (n : Nat) (item : ∀ y, WL n y → Ev (fun k => laws_eqItem.f k y.f0 y.f1 y.f2 y.f0 y.f1 y.f2) true) (l : List S40) (hl : l.length ≤ 1048576) (hw : ∀ y ∈ l, WL n y) : Ev (fun k => laws_eqItemS.f k l l) true := by
  have loop : ∀ (d i : Nat), i + d = l.length → Ev (fun k => laws_eqItemS.l0 k l l (i : Int)) true := by
    intro d
    induction d with
    | zero =>
      intro i hi
      exact Ev.step (fun k => laws_eqItemS.l0_eq k l l i) (ev_neg (by omega) (Ev.now _))
    | succ d ih =>
      intro i hi
      have hlt : i < l.length := by omega
      refine Ev.step (fun k => laws_eqItemS.l0_eq k l l i) (ev_pos (by omega) (ev_pos (by omega) (ev_pos (by omega) ?_)))
      rw [rdL l i hlt]
      refine Ev.bind (item l[i] (hw _ (List.getElem_mem hlt))) (ev_pos rfl ?_)
      rw [show wrap64 ((i : Int) + 1) = ((i + 1 : Nat) : Int) by rw [w64 (by omega) (by omega)]; omega]
      exact ih (i + 1) (by omega)
  refine Ev.step (fun k => by rw [laws_eqItemS.f]) ?_
  exact ev_pos rfl (loop l.length 0 (by omega))
theorem eq_item : ∀ (n : Nat) (x : S40), WL n x → Ev (fun k => laws_eqItem.f k x.f0 x.f1 x.f2 x.f0 x.f1 x.f2) true
  | 0, _, h => h.elim
  | n + 1, x, ⟨_, hl, hk⟩ => by
    simp only [laws_eqItem.f]
    exact ev_pos trivial (ev_pos trivial (Ev.bind (eq_row n (eq_item n) x.f2 hl hk) (ev_pos rfl (Ev.now _))))
theorem eq_rows (n : Nat) (l : List S40) (hl : l.length ≤ 1048576) (hw : ∀ y ∈ l, WL n y) : Ev (fun k => laws_eqItemS.f k l l) true := eq_row n (eq_item n) l hl hw

/-! What is a right item: both sides answer by the same word. -/
def plainV (x : S40) : Bool :=
  if x.f0 = 1 then (if x.f1.toList = ([0] : List UInt8) then true else x.f1.toList == ([255] : List UInt8))
  else if x.f0 = 2 then (decide (1 ≤ x.f1.size ∧ x.f1.size ≤ 5 ∧ bt x.f1 0 < 128) && (decide (bt x.f1 0 ≠ 0 ∨ x.f1.size = 1) || decide (bt x.f1 1 ≥ 128)))
  else if x.f0 = 12 then (bN x.f1).all (fun b => decide (32 ≤ b ∧ b ≤ 126))
  else x.f0 == 4
def okV : Nat → S40 → Int → Bool
  | 0, _, _ => false
  | n + 1, x, d => if x.f0 = 48 then (if x.f1.toList = ([] : List UInt8) ∧ x.f2.length ≤ 40 ∧ d < 6 then x.f2.all (fun y => okV n y (d + 1)) else false) else (if x.f2.length = 0 then plainV x else false)
theorem three_no (s : ByteArray) (h : ¬ bt s 0 < 128) : decide (1 ≤ s.size ∧ s.size ≤ 5 ∧ bt s 0 < 128) = false := decide_eq_false (fun q => h q.2.2)
theorem three_yes (s : ByteArray) (h1 : 1 ≤ s.size) (h2 : s.size ≤ 5) (h : bt s 0 < 128) : decide (1 ≤ s.size ∧ s.size ≤ 5 ∧ bt s 0 < 128) = true := decide_eq_true ⟨h1, h2, h⟩
theorem or_no (s : ByteArray) (h1 : bt s 0 = 0) (h : s.size ≠ 1) : decide (bt s 0 ≠ 0 ∨ s.size = 1) = false := decide_eq_false (fun q => q.elim (fun x => x h1) h)
theorem two_ev {g : Nat → Option Bool} (s : ByteArray) (yes : 1 ≤ s.size → s.size ≤ 5 → Ev g (decide (1 ≤ s.size ∧ s.size ≤ 5 ∧ bt s 0 < 128) && (decide (bt s 0 ≠ 0 ∨ s.size = 1) || decide (bt s 1 ≥ 128)))) :
    Ev (fun k => (if (s.size : Int) ≥ 1 then some (decide ((s.size : Int) ≤ 5)) else some false).bind fun t => if t = true then g k else some false) (decide (1 ≤ s.size ∧ s.size ≤ 5 ∧ bt s 0 < 128) && (decide (bt s 0 ≠ 0 ∨ s.size = 1) || decide (bt s 1 ≥ 128))) := by
  by_cases h1 : 1 ≤ s.size
  · by_cases h5 : s.size ≤ 5
    · refine Ev.bind (g := fun _ => if (s.size : Int) ≥ 1 then some (decide ((s.size : Int) ≤ 5)) else some false) (a := true) (by rw [if_pos (by omega), decide_eq_true (by omega)]; exact Ev.now _) (ev_pos rfl (yes h1 h5))
    · refine Ev.bind (g := fun _ => if (s.size : Int) ≥ 1 then some (decide ((s.size : Int) ≤ 5)) else some false) (a := false) (by rw [if_pos (by omega), decide_eq_false (by omega)]; exact Ev.now _) (ev_neg Bool.false_ne_true ?_)
      rw [decide_eq_false (fun h => h5 h.2.1), Bool.false_and]
      exact Ev.now _
  · refine Ev.bind (g := fun _ => if (s.size : Int) ≥ 1 then some (decide ((s.size : Int) ≤ 5)) else some false) (a := false) (by rw [if_neg (by omega)]; exact Ev.now _) (ev_neg Bool.false_ne_true ?_)
    rw [decide_eq_false (fun h => h1 h.1), Bool.false_and]
    exact Ev.now _
theorem drop_b (s : ByteArray) (i : Nat) (h : i < s.size) : ∃ b : Nat, b < 256 ∧ bt s i = (b : Int) ∧ (bN s).drop i = b :: (bN s).drop (i + 1) := by
  have h' : i < (bN s).length := by rw [bN_len]; exact h
  refine ⟨(bN s)[i], bN_lt s _ (List.getElem_mem h'), ?_, List.drop_eq_getElem_cons h'⟩
  rw [bt_bN, List.getD_eq_getElem?_getD, List.getElem?_eq_getElem h']
  rfl
theorem spec_plain (x : S40) (hs : x.f1.size ≤ 1048576) : Ev (fun k => spec_l07Plain.f k x.f0 x.f1 x.f2) (plainV x) := by
  have loop : ∀ (d i : Nat), i + d = x.f1.size → Ev (fun k => spec_l07Plain.l0 k (i : Int) x.f0 x.f1 x.f2) (((bN x.f1).drop i).all (fun b => decide (32 ≤ b ∧ b ≤ 126))) := by
    intro d
    induction d with
    | zero =>
      intro i hi
      refine Ev.step (fun k => by rw [spec_l07Plain.l0]) (ev_neg (by omega) ?_)
      rw [List.drop_eq_nil_of_le (by rw [bN_len]; omega)]
      exact Ev.now _
    | succ d ih =>
      intro i hi
      obtain ⟨b, _, e, ed⟩ := drop_b x.f1 i (by omega)
      refine Ev.step (fun k => by rw [spec_l07Plain.l0]) (ev_pos (by omega) (ev_pos (by omega) ?_))
      rw [e, ed, List.all_cons]
      by_cases h0 : b < 32
      · rw [decide_eq_false (by omega), Bool.false_and]
        exact ev_pos (by omega) (Ev.now _)
      refine ev_neg (by omega) ?_
      by_cases h1 : 126 < b
      · rw [decide_eq_false (by omega), Bool.false_and]
        exact ev_pos (by omega) (Ev.now _)
      refine ev_neg (by omega) ?_
      rw [decide_eq_true (by omega), Bool.true_and]
      rw [show wrap64 ((i : Int) + 1) = ((i + 1 : Nat) : Int) by rw [w64 (by omega) (by omega)]; omega]
      exact ih (i + 1) (by omega)
  simp only [spec_l07Plain.f, spec_l01In.f]
  unfold plainV
  by_cases c1 : x.f0 = 1
  · refine ev_pos c1 ?_
    rw [if_pos c1]
    by_cases e : x.f1.toList = ([0] : List UInt8)
    · refine ev_pos e ?_
      rw [if_pos e]
      exact Ev.now _
    · refine ev_neg e ?_
      rw [if_neg e]
      exact Ev.now _
  refine ev_neg c1 ?_
  rw [if_neg c1]
  by_cases c2 : x.f0 = 2
  · refine ev_pos c2 ?_
    rw [if_pos c2]
    refine two_ev x.f1 (fun h1 h5 => ?_)
    refine ev_pos (by omega) ?_
    by_cases ha : bt x.f1 0 ≥ 128
    · rw [three_no _ (by omega), Bool.false_and]
      exact ev_pos ha (Ev.now _)
    refine ev_neg ha ?_
    rw [three_yes _ h1 h5 (by omega), Bool.true_and]
    by_cases hz : bt x.f1 0 = 0
    · refine ev_pos hz ?_
      by_cases hn : x.f1.size = 1
      · rw [decide_eq_true (Or.inr hn), Bool.true_or]
        exact ev_pos (by omega) (Ev.now _)
      · rw [or_no _ hz hn, Bool.false_or]
        exact ev_neg (by omega) (ev_pos (by omega) (Ev.now _))
    · rw [decide_eq_true (Or.inl hz), Bool.true_or]
      exact ev_neg hz (Ev.now _)
  refine ev_neg c2 ?_
  rw [if_neg c2]
  by_cases c3 : x.f0 = 12
  · refine ev_pos c3 ?_
    rw [if_pos c3]
    have := loop x.f1.size 0 (by omega)
    rwa [List.drop_zero] at this
  refine ev_neg c3 ?_
  rw [if_neg c3]
  exact Ev.now _
theorem bytes_in (s : ByteArray) (hs : s.size ≤ 1048576) : Ev (fun k => impl_bytesIn.f k s 32 126) ((bN s).all (fun b => decide (32 ≤ b ∧ b ≤ 126))) := by
  have loop : ∀ (d i : Nat), i + d = s.size → Ev (fun k => impl_bytesIn.l0 k s 32 126 (i : Int)) (((bN s).drop i).all (fun b => decide (32 ≤ b ∧ b ≤ 126))) := by
    intro d
    induction d with
    | zero =>
      intro i hi
      refine Ev.step (fun k => by rw [impl_bytesIn.l0]) (ev_neg (by omega) ?_)
      rw [List.drop_eq_nil_of_le (by rw [bN_len]; omega)]
      exact Ev.now _
    | succ d ih =>
      intro i hi
      obtain ⟨b, hb, e, ed⟩ := drop_b s i (by omega)
      refine Ev.step (fun k => by rw [impl_bytesIn.l0]) (ev_pos (by omega) (ev_pos (by omega) ?_))
      rw [e, ed, List.all_cons, w64 (n := (b : Int)) (by omega) (by omega)]
      have hw : Ev (fun _ => impl_within.f (b : Int) 32 126) (decide (32 ≤ b ∧ b ≤ 126)) := by
        simp only [impl_within.f]
        by_cases h0 : 32 ≤ b
        · refine ev_pos (by omega) ?_
          rw [show decide ((b : Int) ≤ 126) = decide (32 ≤ b ∧ b ≤ 126) from decide_eq_decide.2 (by omega)]
          exact Ev.now _
        · rw [show decide (32 ≤ b ∧ b ≤ 126) = false from decide_eq_false (by omega)]
          exact ev_neg (by omega) (Ev.now _)
      refine Ev.bind hw ?_
      by_cases h : 32 ≤ b ∧ b ≤ 126
      · rw [decide_eq_true h, Bool.true_and]
        refine ev_pos rfl ?_
        rw [show wrap64 ((i : Int) + 1) = ((i + 1 : Nat) : Int) by rw [w64 (by omega) (by omega)]; omega]
        exact ih (i + 1) (by omega)
      · rw [decide_eq_false h, Bool.false_and]
        exact ev_neg Bool.false_ne_true (Ev.now _)
  simp only [impl_bytesIn.f]
  have := loop s.size 0 (by omega)
  rwa [List.drop_zero] at this
theorem spec_ok : ∀ (n : Nat) (x : S40) (d : Int), WL n x → 0 ≤ d → d ≤ 6 → Ev (fun k => spec_l07Right.f k x.f0 x.f1 x.f2 d) (okV n x d)
  | 0, _, _, h, _, _ => h.elim
  | n + 1, x, d, ⟨hs, hl, hk⟩, d0, d1 => by
    have loop : d < 6 → ∀ (m i : Nat), i + m = x.f2.length → Ev (fun k => spec_l07Right.l0 k d (i : Int) x.f0 x.f1 x.f2) ((x.f2.drop i).all (fun y => okV n y (d + 1))) := by
      intro hd m
      induction m with
      | zero =>
        intro i hi
        refine Ev.step (fun k => by rw [spec_l07Right.l0]) (ev_neg (by omega) ?_)
        rw [List.drop_eq_nil_of_le (by omega)]
        exact Ev.now _
      | succ m ih =>
        intro i hi
        have hlt : i < x.f2.length := by omega
        refine Ev.step (fun k => by rw [spec_l07Right.l0]) (ev_pos (by omega) (ev_pos (by omega) ?_))
        rw [rdL x.f2 i hlt, w64 (n := d + 1) (by omega) (by omega)]
        refine Ev.bind (spec_ok n x.f2[i] (d + 1) (hk _ (List.getElem_mem hlt)) (by omega) (by omega)) ?_
        rw [List.drop_eq_getElem_cons hlt, List.all_cons]
        cases he : okV n x.f2[i] (d + 1) with
        | true =>
          rw [Bool.true_and]
          refine ev_pos rfl ?_
          rw [show wrap64 ((i : Int) + 1) = ((i + 1 : Nat) : Int) by rw [w64 (by omega) (by omega)]; omega]
          exact ih (i + 1) (by omega)
        | false =>
          rw [Bool.false_and]
          exact ev_neg Bool.false_ne_true (Ev.now _)
    have no : Ev (fun k => spec_l07Right.j0 k d true x.f0 x.f1 x.f2) false := by
      refine Ev.step (fun k => by rw [spec_l07Right.j0]) ?_
      exact ev_pos rfl (Ev.now _)
    refine Ev.step (fun k => by rw [spec_l07Right.f]) ?_
    show Ev _ (if x.f0 = 48 then (if x.f1.toList = ([] : List UInt8) ∧ x.f2.length ≤ 40 ∧ d < 6 then x.f2.all (fun y => okV n y (d + 1)) else false) else (if x.f2.length = 0 then plainV x else false))
    by_cases c : x.f0 = 48
    · refine ev_pos c ?_
      rw [if_pos c]
      by_cases c1 : x.f1.toList = ([] : List UInt8)
      · refine ev_pos c1 ?_
        by_cases c2 : x.f2.length ≤ 40
        · refine ev_neg (by omega) ?_
          by_cases c3 : d < 6
          · rw [if_pos ⟨c1, c2, c3⟩, decide_eq_false (by omega)]
            refine Ev.step (fun k => by rw [spec_l07Right.j0]) ?_
            refine ev_neg Bool.false_ne_true ?_
            have := loop c3 x.f2.length 0 (by omega)
            rwa [List.drop_zero] at this
          · rw [if_neg (fun h => c3 h.2.2), decide_eq_true (by omega)]
            exact no
        · rw [if_neg (fun h => c2 h.2.1)]
          exact ev_pos (by omega) no
      · rw [if_neg (fun h => c1 h.1)]
        exact ev_neg c1 no
    · refine ev_neg c ?_
      rw [if_neg c]
      by_cases c1 : x.f2.length = 0
      · rw [if_pos c1]
        exact ev_pos (by omega) (Ev.bind (spec_plain x hs) (Ev.now _))
      · rw [if_neg c1]
        exact ev_neg (by omega) (Ev.now _)
theorem impl_ok : ∀ (n : Nat) (x : S40) (d : Int), WL n x → 0 ≤ d → d ≤ 6 → Ev (fun k => impl_itemOk.f k x.f0 x.f1 x.f2 d) (okV n x d)
  | 0, _, _, h, _, _ => h.elim
  | n + 1, x, d, ⟨hs, hl, hk⟩, d0, d1 => by
    have loop : d < 6 → ∀ (m i : Nat), i + m = x.f2.length → Ev (fun k => impl_itemOk.l0 k d x.f2 (x.f2.length : Int) (i : Int)) ((x.f2.drop i).all (fun y => okV n y (d + 1))) := by
      intro hd m
      induction m with
      | zero =>
        intro i hi
        refine Ev.step (fun k => by rw [impl_itemOk.l0]) (ev_neg (by omega) ?_)
        rw [List.drop_eq_nil_of_le (by omega)]
        exact Ev.now _
      | succ m ih =>
        intro i hi
        have hlt : i < x.f2.length := by omega
        refine Ev.step (fun k => by rw [impl_itemOk.l0]) (ev_pos (by omega) (ev_pos (by omega) (ev_pos (by omega) ?_)))
        rw [rdL x.f2 i hlt, w64 (n := d + 1) (by omega) (by omega)]
        refine Ev.bind (impl_ok n x.f2[i] (d + 1) (hk _ (List.getElem_mem hlt)) (by omega) (by omega)) ?_
        rw [List.drop_eq_getElem_cons hlt, List.all_cons]
        cases he : okV n x.f2[i] (d + 1) with
        | true =>
          rw [Bool.true_and]
          refine ev_pos rfl ?_
          rw [show wrap64 ((i : Int) + 1) = ((i + 1 : Nat) : Int) by rw [w64 (by omega) (by omega)]; omega]
          exact ih (i + 1) (by omega)
        | false =>
          rw [Bool.false_and]
          exact ev_neg Bool.false_ne_true (Ev.now _)
    have no : Ev (fun k => impl_itemOk.j0 k d true x.f0 x.f1 x.f2) false := by
      refine Ev.step (fun k => by rw [impl_itemOk.j0]) ?_
      exact ev_pos rfl (Ev.now _)
    refine Ev.step (fun k => by rw [impl_itemOk.f]) ?_
    show Ev _ (if x.f0 = 48 then (if x.f1.toList = ([] : List UInt8) ∧ x.f2.length ≤ 40 ∧ d < 6 then x.f2.all (fun y => okV n y (d + 1)) else false) else (if x.f2.length = 0 then plainV x else false))
    by_cases c : x.f0 = 48
    · refine ev_pos c ?_
      rw [if_pos c]
      by_cases c1 : x.f1.toList = ([] : List UInt8)
      · refine ev_pos c1 ?_
        by_cases c2 : x.f2.length ≤ 40
        · refine ev_neg (by omega) ?_
          by_cases c3 : d < 6
          · rw [if_pos ⟨c1, c2, c3⟩, decide_eq_false (by omega)]
            refine Ev.step (fun k => by rw [impl_itemOk.j0]) ?_
            refine ev_neg Bool.false_ne_true ?_
            have := loop c3 x.f2.length 0 (by omega)
            rwa [List.drop_zero] at this
          · rw [if_neg (fun h => c3 h.2.2), decide_eq_true (by omega)]
            exact no
        · rw [if_neg (fun h => c2 h.2.1)]
          exact ev_pos (by omega) no
      · rw [if_neg (fun h => c1 h.1)]
        exact ev_neg c1 no
    · refine ev_neg c ?_
      rw [if_neg c]
      by_cases c1 : x.f2.length = 0
      · rw [if_pos c1]
        refine ev_neg (by omega) ?_
        unfold plainV
        by_cases t1 : x.f0 = 1
        · refine ev_pos t1 ?_
          rw [if_pos t1]
          by_cases e : x.f1.toList = ([0] : List UInt8)
          · refine ev_pos e ?_
            rw [if_pos e]
            exact Ev.now _
          · refine ev_neg e ?_
            rw [if_neg e]
            exact Ev.now _
        refine ev_neg t1 ?_
        rw [if_neg t1]
        by_cases t2 : x.f0 = 2
        · refine ev_pos t2 ?_
          rw [if_pos t2]
          simp only [impl_within.f]
          refine two_ev x.f1 (fun h1 h5 => ?_)
          refine ev_pos (by omega) ?_
          by_cases ha : bt x.f1 0 < 128
          · refine ev_pos ha ?_
            rw [three_yes _ h1 h5 ha, Bool.true_and]
            by_cases hz : bt x.f1 0 = 0
            · refine ev_pos hz ?_
              by_cases hn : x.f1.size = 1
              · rw [decide_eq_true (Or.inr hn), Bool.true_or]
                exact ev_pos (by omega) (Ev.now _)
              · rw [or_no _ hz hn, Bool.false_or]
                exact ev_neg (by omega) (ev_pos (by omega) (Ev.now _))
            · rw [decide_eq_true (Or.inl hz), Bool.true_or]
              exact ev_neg hz (Ev.now _)
          · rw [three_no _ ha, Bool.false_and]
            exact ev_neg ha (Ev.now _)
        refine ev_neg t2 ?_
        rw [if_neg t2]
        by_cases t4 : x.f0 = 4
        · rw [t4]
          exact ev_pos rfl (Ev.now _)
        refine ev_neg t4 ?_
        by_cases t3 : x.f0 = 12
        · rw [if_pos t3]
          exact ev_pos t3 (Ev.bind (bytes_in x.f1 hs) (Ev.now _))
        rw [if_neg t3, show (x.f0 == 4) = false by simpa using t4]
        exact ev_neg t3 (Ev.now _)
      · rw [if_neg c1]
        exact ev_pos (by omega) (Ev.now _)

theorem FnExactItemOk : laws_FnExactItemOk.Pure := by
  intro x n hw
  refine Ev.rounds (g := fun k => laws_FnExactItemOk.f k x.f0 x.f1 x.f2) ?_
  simp only [laws_FnExactItemOk.f, spec_ItemOk.f, impl_ItemOk.f]
  refine Ev.bind (sz_item n x hw 1048576 (by omega) (by omega)) ?_
  by_cases hb : (wtB n x : Int) ≤ 1048576
  · rw [lessV_yes _ _ hb]
    have hb' : wtB n x ≤ 1048576 := by omega
    have t := to_item n x hw hb'
    have wl := cv_WL n x hw hb'
    have o := okV n (cv n x) 0
    refine ev_neg (by omega) (Ev.bind t (Ev.bind (Ev.bind (spec_ok n _ 0 wl (by omega) (by omega)) (Ev.now _)) (Ev.bind t (Ev.bind (Ev.bind (impl_ok n _ 0 wl (by omega) (by omega)) (Ev.now _)) ?_))))
    rw [show (okV n (cv n x) 0 != okV n (cv n x) 0) = false by simp]
    exact ev_neg Bool.false_ne_true (Ev.bind t (Ev.bind (eq_item n _ wl) (ev_pos rfl (Ev.now _))))
  · rw [lessV_no _ _ hb]
    exact ev_pos (by omega) (Ev.now _)

end Go.Proofs.Ytgjmkljhllbanaa.Pure
