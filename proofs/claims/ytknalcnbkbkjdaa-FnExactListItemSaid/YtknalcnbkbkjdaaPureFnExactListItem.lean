/- The law FnExactListItem answers true for every argument: the program's ListItem and the reference's come to the same answer. -/
import Derived.Test.YtknalcnbkbkjdaaOFnExactListItem
set_option linter.unusedVariables false
set_option linter.unusedSimpArgs false
namespace Go.Proofs.Ytknalcnbkbkjdaa.Pure
open Go.RowKit Go.ChangeShapes Go.Proofs.Ytknalcnbkbkjdaa.GFnExactListItem Go.Proofs.Ytknalcnbkbkjdaa.GAFnExactListItem Go.Proofs.YtknalcnbkbkjdaaW.PrintWords Go.Proofs.YtknalcnbkbkjdaaW.PrintLast

theorem w64 {n : Int} (h0 : -9223372036854775808 ≤ n) (h1 : n ≤ 9223372036854775807) : wrap64 n = n := by unfold wrap64; omega
theorem ev_pos {α : Type} {c : Prop} [Decidable c] {f g : Nat → Option α} {r : α} (h : c) (k : Ev f r) : Ev (fun n => if c then f n else g n) r := by
  simpa only [if_pos h] using k
theorem ev_neg {α : Type} {c : Prop} [Decidable c] {f g : Nat → Option α} {r : α} (h : ¬ c) (k : Ev g r) : Ev (fun n => if c then f n else g n) r := by
  simpa only [if_neg h] using k
theorem tdivN (n m : Nat) : Int.tdiv (n : Int) (m : Int) = ((n / m : Nat) : Int) := rfl
theorem tmodN (n m : Nat) : Int.tmod (n : Int) (m : Int) = ((n % m : Nat) : Int) := rfl
theorem tdiv_pos' {n m : Int} (h : 0 ≤ n) : Int.tdiv n m = n / m := Int.tdiv_eq_ediv_of_nonneg h
theorem tmod_pos' {n m : Int} (h : 0 ≤ n) : Int.tmod n m = n % m := Int.tmod_eq_emod_of_nonneg h
theorem bt_rng (s : ByteArray) (i : Int) : 0 ≤ bt s i ∧ bt s i ≤ 255 := bt_range s i
theorem bt_bytes (s : ByteArray) (i : Nat) : bt s i = (bytesOf s).getD i 0 := (rd_bytesOf s i).symm
theorem drop_bytes (s : ByteArray) (i : Nat) (h : i < s.size) : (bytesOf s).drop i = bt s i :: (bytesOf s).drop (i + 1) := by
  have h' : i < (bytesOf s).length := by rw [bytesOf_length]; exact h
  rw [List.drop_eq_getElem_cons h', bt_bytes, List.getD_eq_getElem?_getD, List.getElem?_eq_getElem h']
  rfl

/-! Trees of items: their weight, their copy, their sameness. -/
theorem rdB (xs : List S75) (i : Nat) (h : i < xs.length) : rd_T75 xs (i : Int) = xs[i] := by
  simp [rd_T75, List.getD_eq_getElem?_getD, List.getElem?_eq_getElem h]
theorem rdL (xs : List S26) (i : Nat) (h : i < xs.length) : rd_T26 xs (i : Int) = xs[i] := by
  simp [rd_T26, List.getD_eq_getElem?_getD, List.getElem?_eq_getElem h]
theorem le_sum {α : Type} (f : α → Nat) : ∀ (l : List α) (y : α), y ∈ l → f y ≤ (l.map f).sum
  | [], _, h => by cases h
  | x :: l, y, h => by
    rcases List.mem_cons.1 h with rfl | h
    · simp
    · have := le_sum f l y h
      simp; omega
def wtB : Nat → S75 → Nat
  | 0, _ => 0
  | n + 1, x => x.f1.size + (x.f2.length + (x.f2.map (wtB n)).sum)
def lessV (b : Int) (w : Nat) : Int := if (w : Int) ≤ b then b - w else -1
theorem lessV_add (b : Int) (v w : Nat) (h : (v : Int) ≤ b) : lessV (b - v) w = lessV b (v + w) := by
  unfold lessV
  by_cases hw : (w : Int) ≤ b - v
  · rw [if_pos hw, if_pos (by omega)]; omega
  · rw [if_neg hw, if_neg (by omega)]
theorem lessV_no (b : Int) (w : Nat) (h : ¬ (w : Int) ≤ b) : lessV b w = -1 := if_neg h
theorem lessV_yes (b : Int) (w : Nat) (h : (w : Int) ≤ b) : lessV b w = b - w := if_pos h
theorem sz_row (n : Nat) (item : ∀ y, WF75 n y → ∀ b : Int, 0 ≤ b → b ≤ 1048576 → Ev (fun k => laws_szItem.f k y.f0 y.f1 y.f2 b) (lessV b (wtB n y)))
    (l : List S75) (hl : l.length ≤ maxLen) (hw : ∀ y ∈ l, WF75 n y) (b : Int) (h0 : 0 ≤ b) (h1 : b ≤ 1048576) : Ev (fun k => laws_szItemS.f k l b) (lessV b (l.length + (l.map (wtB n)).sum)) := by
  have hl' : l.length ≤ 9223372036854775807 := hl
  have loop : ∀ (d i : Nat) (b : Int), i + d = l.length → 0 ≤ b → b ≤ 1048576 → Ev (fun k => laws_szItemS.l0 k l b (i : Int)) (lessV b ((l.drop i).map (wtB n)).sum) := by
    intro d
    induction d with
    | zero =>
      intro i b hi h0 h1
      refine Ev.step (fun k => laws_szItemS.l0_eq k l b i) (ev_neg (by omega) ?_)
      rw [List.drop_eq_nil_of_le (by omega)]
      rw [show lessV b (([] : List S75).map (wtB n)).sum = b by rw [lessV_yes _ _ (by simpa using h0)]; simp]
      exact Ev.now _
    | succ d ih =>
      intro i b hi h0 h1
      have hlt : i < l.length := by omega
      refine Ev.step (fun k => laws_szItemS.l0_eq k l b i) (ev_pos (by omega) (ev_pos (by omega) ?_))
      rw [rdB l i hlt]
      refine Ev.bind (item l[i] (hw _ (List.getElem_mem hlt)) b h0 h1) ?_
      rw [List.drop_eq_getElem_cons hlt, List.map_cons, List.sum_cons]
      by_cases hc : (wtB n l[i] : Int) ≤ b
      · rw [lessV_yes _ _ hc, ← lessV_add _ _ _ hc]
        refine ev_neg (by omega) ?_
        rw [show wrap64 ((i : Int) + 1) = ((i + 1 : Nat) : Int) by rw [w64 (by omega) (by omega)]; omega]
        exact ih (i + 1) _ (by omega) (by omega) (by omega)
      · rw [lessV_no _ _ hc, lessV_no _ _ (by omega)]
        exact ev_pos (by omega) (Ev.now _)
  refine Ev.step (fun k => by rw [laws_szItemS.f]) ?_
  rw [w64 (n := b - (l.length : Int)) (by omega) (by omega)]
  by_cases hc : (l.length : Int) ≤ b
  · refine ev_neg (by omega) ?_
    rw [← lessV_add _ _ _ hc]
    have := loop l.length 0 (b - l.length) (by omega) (by omega) (by omega)
    rwa [List.drop_zero] at this
  · rw [lessV_no _ _ (by omega)]
    exact ev_pos (by omega) (Ev.now _)
theorem sz_item : ∀ (n : Nat) (x : S75), WF75 n x → ∀ b : Int, 0 ≤ b → b ≤ 1048576 → Ev (fun k => laws_szItem.f k x.f0 x.f1 x.f2 b) (lessV b (wtB n x))
  | 0, _, h, _, _, _ => h.elim
  | n + 1, x, ⟨_, hs, hl, hk⟩, b, h0, h1 => by
    have hs' : x.f1.size ≤ 9223372036854775807 := hs
    simp only [laws_szItem.f]
    rw [w64 (n := b - (x.f1.size : Int)) (by omega) (by omega)]
    have e : wtB (n + 1) x = x.f1.size + (x.f2.length + (x.f2.map (wtB n)).sum) := rfl
    rw [e]
    by_cases hc : (x.f1.size : Int) ≤ b
    · refine ev_neg (by omega) (Ev.bind (sz_row n (sz_item n) x.f2 hl hk _ (by omega) (by omega)) ?_)
      rw [lessV_add _ _ _ hc]
      by_cases hd : ((x.f1.size + (x.f2.length + (x.f2.map (wtB n)).sum) : Nat) : Int) ≤ b
      · rw [lessV_yes _ _ hd]
        exact ev_neg (by omega) (Ev.now _)
      · rw [lessV_no _ _ hd]
        exact ev_pos (by omega) (Ev.now _)
    · rw [lessV_no _ _ (by omega)]
      exact ev_pos (by omega) (Ev.now _)
theorem sz_rows (n : Nat) (l : List S75) (hl : l.length ≤ maxLen) (hw : ∀ y ∈ l, WF75 n y) (b : Int) (h0 : 0 ≤ b) (h1 : b ≤ 1048576) : Ev (fun k => laws_szItemS.f k l b) (lessV b (l.length + (l.map (wtB n)).sum)) :=
  sz_row n (sz_item n) l hl hw b h0 h1
/-! The copy. -/
theorem etaL (x : S26) : (⟨x.f0, x.f1, x.f2⟩ : S26) = x := by cases x; rfl
def cv : Nat → S75 → S26
  | 0, _ => z26
  | n + 1, x => ⟨x.f0, x.f1, x.f2.map (cv n)⟩
theorem set_next {α β : Type} (l : List α) (f : α → β) (i : Nat) (t : β) (tl : List β) (h : i < l.length) : ((l.take i).map f ++ t :: tl).set i (f l[i]) = (l.take (i + 1)).map f ++ tl := by
  have hl : ((l.take i).map f).length = i := by rw [List.length_map, List.length_take]; omega
  rw [List.set_append_right _ _ (by omega), hl, Nat.sub_self, List.set_cons_zero, List.take_succ_eq_append_getElem h, List.map_append, List.append_assoc]
  rfl
theorem to_row (n : Nat) (item : ∀ y, WF75 n y → wtB n y ≤ 1048576 → Ev (fun k => laws_toItem.f k y.f0 y.f1 y.f2) ((cv n y).f0, (cv n y).f1, (cv n y).f2))
    (l : List S75) (hw : ∀ y ∈ l, WF75 n y) (hb : l.length + (l.map (wtB n)).sum ≤ 1048576) : Ev (fun k => laws_toItemS.f k l) (l.map (cv n)) := by
  have loop : ∀ (d i : Nat) (tl : List S26), tl.length = d → i + d = l.length → Ev (fun k => laws_toItemS.l0 k l ((l.take i).map (cv n) ++ tl) (i : Int)) (l.map (cv n)) := by
    intro d
    induction d with
    | zero =>
      intro i tl ht hi
      obtain rfl : tl = [] := List.eq_nil_of_length_eq_zero ht
      refine Ev.step (fun k => laws_toItemS.l0_eq k l _ i) (ev_neg (by omega) ?_)
      rw [List.append_nil, List.take_of_length_le (by omega)]
      exact Ev.now _
    | succ d ih =>
      intro i tl ht hi
      have hlt : i < l.length := by omega
      obtain ⟨t, tl, rfl⟩ : ∃ t tl', tl = t :: tl' := by cases tl with | nil => simp at ht | cons t tl => exact ⟨t, tl, rfl⟩
      refine Ev.step (fun k => laws_toItemS.l0_eq k l _ i) (ev_pos (by omega) (ev_pos (by omega) ?_))
      rw [rdB l i hlt]
      have hm := List.getElem_mem hlt
      refine Ev.bind (item l[i] (hw _ hm) (by have := le_sum (wtB n) l _ hm; omega)) (ev_pos ?_ ?_)
      · simp at ht; simp [List.length_take]; omega
      · rw [show wrap64 ((i : Int) + 1) = ((i + 1 : Nat) : Int) by rw [w64 (by omega) (by omega)]; omega, Int.toNat_natCast]
        show Ev (fun m => laws_toItemS.l0 m l (((l.take i).map (cv n) ++ t :: tl).set i ⟨(cv n l[i]).f0, (cv n l[i]).f1, (cv n l[i]).f2⟩) ((i + 1 : Nat) : Int)) (l.map (cv n))
        rw [etaL, set_next l (cv n) i t tl hlt]
        exact ih (i + 1) tl (by simpa using ht) (by omega)
  refine Ev.step (fun k => by rw [laws_toItemS.f]) (ev_pos (by omega) (ev_pos (by omega) ?_))
  have := loop l.length 0 (List.replicate l.length z26) (by simp) (by omega)
  simpa using this
theorem to_item : ∀ (n : Nat) (x : S75), WF75 n x → wtB n x ≤ 1048576 → Ev (fun k => laws_toItem.f k x.f0 x.f1 x.f2) ((cv n x).f0, (cv n x).f1, (cv n x).f2)
  | 0, _, h, _ => h.elim
  | n + 1, x, ⟨_, _, _, hk⟩, hb => by
    have e : wtB (n + 1) x = x.f1.size + (x.f2.length + (x.f2.map (wtB n)).sum) := rfl
    simp only [laws_toItem.f]
    exact Ev.bind (to_row n (to_item n) x.f2 hk (by omega)) (Ev.now _)
theorem to_rows (n : Nat) (l : List S75) (hw : ∀ y ∈ l, WF75 n y) (hb : l.length + (l.map (wtB n)).sum ≤ 1048576) : Ev (fun k => laws_toItemS.f k l) (l.map (cv n)) :=
  to_row n (to_item n) l hw hb
/-! The little trees, of the copy. -/
def WL : Nat → S26 → Prop
  | 0, _ => False
  | n + 1, x => x.f1.size ≤ 1048576 ∧ x.f2.length ≤ 1048576 ∧ ∀ y ∈ x.f2, WL n y
theorem cv_WL : ∀ (n : Nat) (x : S75), WF75 n x → wtB n x ≤ 1048576 → WL n (cv n x)
  | 0, _, h, _ => h.elim
  | n + 1, x, ⟨_, _, _, hk⟩, hb => by
    have e : wtB (n + 1) x = x.f1.size + (x.f2.length + (x.f2.map (wtB n)).sum) := rfl
    refine ⟨by show x.f1.size ≤ 1048576; omega, by show (x.f2.map (cv n)).length ≤ 1048576; rw [List.length_map]; omega, fun y hy => ?_⟩
    obtain ⟨z, hz, rfl⟩ := List.mem_map.1 hy
    exact cv_WL n z (hk z hz) (by have := le_sum (wtB n) x.f2 z hz; omega)
theorem eq_row (n : Nat) (item : ∀ y, WL n y → Ev (fun k => laws_eqItem.f k y.f0 y.f1 y.f2 y.f0 y.f1 y.f2) true) (l : List S26) (hl : l.length ≤ 1048576) (hw : ∀ y ∈ l, WL n y) : Ev (fun k => laws_eqItemS.f k l l) true := by
  have loop : ∀ (d i : Nat), i + d = l.length → Ev (fun k => laws_eqItemS.l0 k l l (i : Int)) true := by
    intro d
    induction d with
    | zero =>
      intro i hi
      exact Ev.step (fun k => laws_eqItemS.l0_eq k l l i) (ev_neg (by omega) (Ev.now _))
    | succ d ih =>
      intro i hi
      have hlt : i < l.length := by omega
      refine Ev.step (fun k => laws_eqItemS.l0_eq k l l i) (ev_pos (by omega) (ev_pos (by omega) (ev_pos (by omega) ?_)))
      rw [rdL l i hlt]
      refine Ev.bind (item l[i] (hw _ (List.getElem_mem hlt))) (ev_pos rfl ?_)
      rw [show wrap64 ((i : Int) + 1) = ((i + 1 : Nat) : Int) by rw [w64 (by omega) (by omega)]; omega]
      exact ih (i + 1) (by omega)
  refine Ev.step (fun k => by rw [laws_eqItemS.f]) ?_
  exact ev_pos rfl (loop l.length 0 (by omega))
theorem eq_item : ∀ (n : Nat) (x : S26), WL n x → Ev (fun k => laws_eqItem.f k x.f0 x.f1 x.f2 x.f0 x.f1 x.f2) true
  | 0, _, h => h.elim
  | n + 1, x, ⟨_, hl, hk⟩ => by
    simp only [laws_eqItem.f]
    exact ev_pos trivial (ev_pos trivial (Ev.bind (eq_row n (eq_item n) x.f2 hl hk) (ev_pos rfl (Ev.now _))))
theorem eq_rows (n : Nat) (l : List S26) (hl : l.length ≤ 1048576) (hw : ∀ y ∈ l, WL n y) : Ev (fun k => laws_eqItemS.f k l l) true := eq_row n (eq_item n) l hl hw

/-! Copies: both sides hand back what came in. -/
theorem spec_copy : ∀ (n : Nat) (x : S26), WL n x → Ev (fun k => spec_l07Copy.f k x.f0 x.f1 x.f2) (x.f0, x.f1, x.f2)
  | 0, _, h => h.elim
  | n + 1, x, ⟨_, hl, hk⟩ => by
    have loop : ∀ (d i : Nat), i + d = x.f2.length → Ev (fun k => spec_l07Copy.l0 k (i : Int) x.f0 x.f1 x.f2 x.f0 x.f1 (x.f2.take i)) (x.f0, x.f1, x.f2) := by
      intro d
      induction d with
      | zero =>
        intro i hi
        refine Ev.step (fun k => by rw [spec_l07Copy.l0]) (ev_neg (by omega) ?_)
        rw [List.take_of_length_le (by omega)]
        exact Ev.now _
      | succ d ih =>
        intro i hi
        have hlt : i < x.f2.length := by omega
        have ht : (x.f2.take i).length < 2932031007402 := by rw [List.length_take]; omega
        refine Ev.step (fun k => by rw [spec_l07Copy.l0]) (ev_pos (by omega) (ev_pos (by omega) ?_))
        rw [rdL x.f2 i hlt, show wrap64 ((i : Int) + 1) = ((i + 1 : Nat) : Int) by rw [w64 (by omega) (by omega)]; omega]
        refine Ev.bind (spec_copy n x.f2[i] (hk _ (List.getElem_mem hlt))) (ev_pos ht ?_)
        have h := ih (i + 1) (by omega)
        rw [List.take_succ_eq_append_getElem hlt] at h
        simp only [etaL]
        exact h
    refine Ev.step (fun k => by rw [spec_l07Copy.f]) ?_
    exact loop x.f2.length 0 (by omega)
theorem impl_copy : ∀ (n : Nat) (x : S26), WL n x → Ev (fun k => impl_copyItem.f k x.f0 x.f1 x.f2) (x.f0, x.f1, x.f2)
  | 0, _, h => h.elim
  | n + 1, x, ⟨_, hl, hk⟩ => by
    have loop : ∀ (d i : Nat), i + d = x.f2.length → Ev (fun k => impl_copyItem.l0 k x.f2 (x.f2.length : Int) (i : Int) x.f0 x.f1 (x.f2.take i)) (x.f0, x.f1, x.f2) := by
      intro d
      induction d with
      | zero =>
        intro i hi
        refine Ev.step (fun k => by rw [impl_copyItem.l0]) (ev_neg (by omega) ?_)
        rw [List.take_of_length_le (by omega)]
        exact Ev.now _
      | succ d ih =>
        intro i hi
        have hlt : i < x.f2.length := by omega
        have ht : (x.f2.take i).length < 2932031007402 := by rw [List.length_take]; omega
        refine Ev.step (fun k => by rw [impl_copyItem.l0]) (ev_pos (by omega) (ev_pos (by omega) (ev_pos (by omega) ?_)))
        rw [rdL x.f2 i hlt, show wrap64 ((i : Int) + 1) = ((i + 1 : Nat) : Int) by rw [w64 (by omega) (by omega)]; omega]
        refine Ev.bind (impl_copy n x.f2[i] (hk _ (List.getElem_mem hlt))) (ev_pos ht ?_)
        have h := ih (i + 1) (by omega)
        rw [List.take_succ_eq_append_getElem hlt] at h
        simp only [etaL]
        exact h
    refine Ev.step (fun k => by rw [impl_copyItem.f]) ?_
    exact loop x.f2.length 0 (by omega)
theorem spec_list (n : Nat) (L : List S26) (hl : L.length ≤ 1048576) (hw : ∀ y ∈ L, WL n y) : Ev (fun k => spec_ListItem.f k L) (48, (⟨#[]⟩ : ByteArray), L) := by
  have loop : ∀ (d i : Nat), i + d = L.length → Ev (fun k => spec_ListItem.l0 k L (i : Int) 48 (⟨#[]⟩ : ByteArray) (L.take i)) (48, (⟨#[]⟩ : ByteArray), L) := by
    intro d
    induction d with
    | zero =>
      intro i hi
      refine Ev.step (fun k => by rw [spec_ListItem.l0]) (ev_neg (by omega) ?_)
      rw [List.take_of_length_le (by omega)]
      exact Ev.now _
    | succ d ih =>
      intro i hi
      have hlt : i < L.length := by omega
      have ht : (L.take i).length < 2932031007402 := by rw [List.length_take]; omega
      refine Ev.step (fun k => by rw [spec_ListItem.l0]) (ev_pos (by omega) (ev_pos (by omega) ?_))
      rw [rdL L i hlt, show wrap64 ((i : Int) + 1) = ((i + 1 : Nat) : Int) by rw [w64 (by omega) (by omega)]; omega]
      refine Ev.bind (spec_copy n L[i] (hw _ (List.getElem_mem hlt))) (ev_pos ht ?_)
      have h := ih (i + 1) (by omega)
      rw [List.take_succ_eq_append_getElem hlt] at h
      simp only [etaL]
      exact h
  simp only [spec_ListItem.f]
  exact loop L.length 0 (by omega)
theorem impl_list (n : Nat) (L : List S26) (hl : L.length ≤ 1048576) (hw : ∀ y ∈ L, WL n y) : Ev (fun k => impl_ListItem.f k L) (48, (⟨#[]⟩ : ByteArray), L) := by
  have loop : ∀ (d i : Nat), i + d = L.length → Ev (fun k => impl_ListItem.l0 k L (L.length : Int) (i : Int) 48 (⟨#[]⟩ : ByteArray) (L.take i)) (48, (⟨#[]⟩ : ByteArray), L) := by
    intro d
    induction d with
    | zero =>
      intro i hi
      refine Ev.step (fun k => by rw [impl_ListItem.l0]) (ev_neg (by omega) ?_)
      rw [List.take_of_length_le (by omega)]
      exact Ev.now _
    | succ d ih =>
      intro i hi
      have hlt : i < L.length := by omega
      have ht : (L.take i).length < 2932031007402 := by rw [List.length_take]; omega
      refine Ev.step (fun k => by rw [impl_ListItem.l0]) (ev_pos (by omega) (ev_pos (by omega) (ev_pos (by omega) ?_)))
      rw [rdL L i hlt, show wrap64 ((i : Int) + 1) = ((i + 1 : Nat) : Int) by rw [w64 (by omega) (by omega)]; omega]
      refine Ev.bind (impl_copy n L[i] (hw _ (List.getElem_mem hlt))) (ev_pos ht ?_)
      have h := ih (i + 1) (by omega)
      rw [List.take_succ_eq_append_getElem hlt] at h
      simp only [etaL]
      exact h
  simp only [impl_ListItem.f]
  exact loop L.length 0 (by omega)

def wtL : Nat → S26 → Nat
  | 0, _ => 0
  | n + 1, x => x.f1.size + (x.f2.length + (x.f2.map (wtL n)).sum)
theorem wt_cv : ∀ (n : Nat) (x : S75), wtL n (cv n x) = wtB n x
  | 0, _ => rfl
  | n + 1, x => by
    show x.f1.size + ((x.f2.map (cv n)).length + ((x.f2.map (cv n)).map (wtL n)).sum) = x.f1.size + (x.f2.length + (x.f2.map (wtB n)).sum)
    rw [List.length_map, List.map_map, List.map_congr_left (f := wtL n ∘ cv n) (g := wtB n) (fun y _ => wt_cv n y)]

/-! Trees marked, and their marks held. -/
theorem mtext_loop : ∀ (x : Nat) (acc : ByteArray), x + acc.size ≤ 9223372036854775000 → ∃ t, Ev (fun k => laws_markText.l0 k (x : Int) acc) t := by
  intro x
  induction x using Nat.strongRecOn with
  | _ x ih =>
    intro acc h
    by_cases h0 : 0 < x
    · have e1 : wrap64 (Int.tdiv (x : Int) 10) = ((x / 10 : Nat) : Int) := by rw [show (10 : Int) = ((10 : Nat) : Int) from rfl, tdivN]; exact w64 (by omega) (by omega)
      obtain ⟨t, ht⟩ := ih (x / 10) (by omega) (strOfNums [(wrap64 (48 + Int.tmod (x : Int) 10)) % 256] ++ acc) (by rw [ByteArray.size_append, strOfNums_size]; simp only [List.length_singleton]; omega)
      have hz : (strOfNums [(wrap64 (48 + Int.tmod (x : Int) 10)) % 256]).size + acc.size ≤ 9223372036854775807 := by rw [strOfNums_size]; simp only [List.length_singleton]; omega
      refine ⟨t, Ev.step (fun k => by rw [laws_markText.l0]) (ev_pos (by omega) (Ev.bind (g := fun _ => some [(wrap64 (48 + Int.tmod (x : Int) 10)) % 256]) (Ev.now _) (ev_pos hz ?_)))⟩
      rw [e1]
      exact ht
    · exact ⟨_, Ev.step (fun k => by rw [laws_markText.l0]) (ev_neg (by omega) (ev_pos (by omega) (Ev.now _)))⟩
theorem mtext (m : Int) (h : m ≤ 4611686018427387904) : ∃ t, Ev (fun k => laws_markText.f k m) t := by
  simp only [laws_markText.f]
  by_cases h0 : m ≤ 0
  · exact ⟨_, ev_pos h0 (Ev.now _)⟩
  · obtain ⟨t, ht⟩ := mtext_loop m.toNat (⟨#[]⟩ : ByteArray) (by show m.toNat + 0 ≤ _; omega)
    rw [Int.toNat_of_nonneg (by omega)] at ht
    exact ⟨t, ev_neg h0 ht⟩
/-- The item y', y marked from m on; r comes next. -/
structure Node (y : S26) (m r : Int) (y' : S26) : Prop where
  tag : y'.f0 = m
  text : Ev (fun k => laws_markText.f k (m + 1)) y'.f1
  kids : Ev (fun k => laws_markItemS.f k y.f2 (m + 2)) (r, y'.f2)
  held : Ev (fun k => laws_heldItemS.f k y'.f2 (m + 2)) r
  lo : m + 2 ≤ r
inductive Seq : List S26 → Int → Int → List S26 → Prop
  | nil (m : Int) : Seq [] m m []
  | cons {y y' : S26} {ys ys' : List S26} {m r1 r : Int} (h : Node y m r1 y') (t : Seq ys r1 r ys') : Seq (y :: ys) m r (y' :: ys')
theorem Seq.le {xs xs' : List S26} {m r : Int} (h : Seq xs m r xs') : m ≤ r := by
  induction h with
  | nil m => exact Int.le_refl _
  | cons h t ih => have := h.lo; omega
theorem Seq.len {xs xs' : List S26} {m r : Int} (h : Seq xs m r xs') : xs'.length = xs.length := by
  induction h with
  | nil m => rfl
  | cons h t ih => simp [ih]
theorem rd_mid (pre : List S26) (y : S26) (ys : List S26) : rd_T26 (pre ++ y :: ys) ((pre.length : Nat) : Int) = y := by
  simp [rd_T26, List.getD_eq_getElem?_getD]
theorem Seq.mark {xs xs' : List S26} {m r : Int} (h : Seq xs m r xs') : ∀ (pre : List S26), 0 ≤ m → r ≤ 4611686018427387000 → pre.length + xs.length ≤ 4611686018427387000 → Ev (fun k => laws_markItemS.l0 k (pre ++ xs) m ((pre.length : Nat) : Int)) (r, pre ++ xs') := by
  induction h with
  | nil m =>
    intro pre _ _ _
    exact Ev.step (fun k => by rw [laws_markItemS.l0]) (ev_neg (by simp) (Ev.now _))
  | cons h t ih =>
    rename_i y y' ys ys' m r1 r
    intro pre h0 h1 h2
    have hl := h.lo
    have ht := t.le
    refine Ev.step (fun k => by rw [laws_markItemS.l0]) (ev_pos (by simp; omega) (ev_pos (by omega) ?_))
    rw [rd_mid, w64 (n := m + 1) (by omega) (by omega), w64 (n := m + 1 + 1) (by omega) (by omega), show m + 1 + 1 = m + 2 by omega, show wrap64 (((pre.length : Nat) : Int) + 1) = (((pre ++ [y']).length : Nat) : Int) by rw [w64 (by simp at h2; omega) (by simp at h2; omega)]; simp]
    refine Ev.bind h.text (Ev.bind h.kids ?_)
    have e : (pre ++ y :: ys).set (((pre.length : Nat) : Int)).toNat (⟨m, y'.f1, y'.f2⟩ : S26) = (pre ++ [y']) ++ ys := by
      rw [Int.toNat_natCast, List.set_append_right _ _ (Nat.le_refl _), Nat.sub_self, List.set_cons_zero, List.append_assoc, ← h.tag, etaL]
      rfl
    rw [e, show pre ++ y' :: ys' = (pre ++ [y']) ++ ys' by simp]
    exact ih (pre ++ [y']) (by omega) h1 (by simp at h2 ⊢; omega)
theorem Seq.held {xs xs' : List S26} {m r : Int} (h : Seq xs m r xs') : ∀ (pre : List S26), 0 ≤ m → r ≤ 4611686018427387000 → pre.length + xs.length ≤ 4611686018427387000 → Ev (fun k => laws_heldItemS.l0 k (pre ++ xs') m ((pre.length : Nat) : Int)) r := by
  induction h with
  | nil m =>
    intro pre _ _ _
    exact Ev.step (fun k => by rw [laws_heldItemS.l0]) (ev_neg (by simp) (Ev.now _))
  | cons h t ih =>
    rename_i y y' ys ys' m r1 r
    intro pre h0 h1 h2
    have hl := h.lo
    have ht := t.le
    refine Ev.step (fun k => by rw [laws_heldItemS.l0]) (ev_pos (by simp; omega) (ev_pos (by omega) ?_))
    rw [rd_mid, w64 (n := m + 1) (by omega) (by omega), w64 (n := m + 1 + 1) (by omega) (by omega), show m + 1 + 1 = m + 2 by omega, show wrap64 (((pre.length : Nat) : Int) + 1) = (((pre ++ [y']).length : Nat) : Int) by rw [w64 (by simp at h2; omega) (by simp at h2; omega)]; simp]
    refine ev_pos h.tag (Ev.bind h.text (ev_pos rfl (Ev.bind h.held (ev_neg (by omega) ?_))))
    rw [show pre ++ y' :: ys' = (pre ++ [y']) ++ ys' by simp]
    exact ih (pre ++ [y']) (by omega) h1 (by simp at h2 ⊢; omega)
theorem marked_row (n : Nat) (item : ∀ (y : S26), WL n y → wtL n y ≤ 1048576 → ∀ m : Int, 0 ≤ m → m ≤ 4611686018425000000 - 2 * (1 + wtL n y) → ∃ r y', Node y m r y' ∧ r ≤ m + 2 * (1 + wtL n y)) :
    ∀ (l : List S26), (∀ y ∈ l, WL n y) → l.length + (l.map (wtL n)).sum ≤ 1048576 → ∀ m : Int, 0 ≤ m → m ≤ 4611686018425000000 - 2 * (l.length + (l.map (wtL n)).sum) → ∃ r l', Seq l m r l' ∧ r ≤ m + 2 * (l.length + (l.map (wtL n)).sum)
  | [], _, _, m, _, _ => ⟨m, [], Seq.nil m, by simp⟩
  | y :: l, hw, hb, m, h0, h1 => by
    rw [List.length_cons, List.map_cons, List.sum_cons] at hb h1
    obtain ⟨r1, y', hn, hr1⟩ := item y (hw y List.mem_cons_self) (by omega) m h0 (by omega)
    have hl := hn.lo
    obtain ⟨r, l', hs, hr⟩ := marked_row n item l (fun z hz => hw z (List.mem_cons_of_mem _ hz)) (by omega) r1 (by omega) (by omega)
    refine ⟨r, y' :: l', Seq.cons hn hs, ?_⟩
    rw [List.length_cons, List.map_cons, List.sum_cons]
    omega
theorem marked_item : ∀ (n : Nat) (y : S26), WL n y → wtL n y ≤ 1048576 → ∀ m : Int, 0 ≤ m → m ≤ 4611686018425000000 - 2 * (1 + wtL n y) → ∃ r y', Node y m r y' ∧ r ≤ m + 2 * (1 + wtL n y)
  | 0, _, h, _, _, _, _ => h.elim
  | n + 1, y, ⟨_, _, hk⟩, hb, m, h0, h1 => by
    have e : wtL (n + 1) y = y.f1.size + (y.f2.length + (y.f2.map (wtL n)).sum) := rfl
    rw [e] at hb h1 ⊢
    obtain ⟨r, l', hs, hr⟩ := marked_row n (marked_item n) y.f2 hk (by omega) (m + 2) (by omega) (by omega)
    obtain ⟨t, ht⟩ := mtext (m + 1) (by omega)
    have hle := hs.le
    refine ⟨r, ⟨m, t, l'⟩, ⟨rfl, ht, Ev.step (fun k => by rw [laws_markItemS.f]) ?_, Ev.step (fun k => by rw [laws_heldItemS.f]) ?_, hle⟩, by omega⟩
    · exact hs.mark [] (by omega) (by omega) (by simp; omega)
    · exact hs.held [] (by omega) (by omega) (by simp; omega)
/-- A tree's rows, marked from 1 on, hold their marks. -/
theorem marked (n : Nat) (l : List S26) (hw : ∀ y ∈ l, WL n y) (hb : l.length + (l.map (wtL n)).sum ≤ 1048576) : ∃ (r : Int) (l' : List S26), 1 ≤ r ∧ Ev (fun k => laws_markItemS.f k l 1) (r, l') ∧ Ev (fun k => laws_heldItemS.f k l' 1) r := by
  obtain ⟨r, l', hs, hr⟩ := marked_row n (marked_item n) l hw hb 1 (by omega) (by omega)
  exact ⟨r, l', hs.le, Ev.step (fun k => by rw [laws_markItemS.f]; rfl) (hs.mark [] (by omega) (by omega) (by simp; omega)), Ev.step (fun k => by rw [laws_heldItemS.f]; rfl) (hs.held [] (by omega) (by omega) (by simp; omega))⟩

theorem FnExactListItem : laws_FnExactListItem.Pure := by
  intro l n hm hw
  refine Ev.rounds (g := fun k => laws_FnExactListItem.f k l) ?_
  simp only [laws_FnExactListItem.f]
  refine Ev.bind (sz_rows n l hm hw 1048576 (by omega) (by omega)) ?_
  by_cases hb : ((l.length + (l.map (wtB n)).sum : Nat) : Int) ≤ 1048576
  · rw [lessV_yes _ _ hb]
    have hb' : l.length + (l.map (wtB n)).sum ≤ 1048576 := by omega
    refine ev_neg (by omega) ?_
    have t := to_rows n l hw hb'
    obtain ⟨L, hL⟩ : ∃ L, l.map (cv n) = L := ⟨_, rfl⟩
    rw [hL] at t
    have wl : ∀ y ∈ L, WL n y := by
      intro y hy
      rw [← hL] at hy
      obtain ⟨z, hz, rfl⟩ := List.mem_map.1 hy
      exact cv_WL n z (hw z hz) (by have := le_sum (wtB n) l z hz; omega)
    have hs : L.length + (L.map (wtL n)).sum ≤ 1048576 := by
      rw [← hL, List.length_map, List.map_map, List.map_congr_left (f := wtL n ∘ cv n) (g := wtB n) (fun y _ => wt_cv n y)]
      exact hb'
    have hl : L.length ≤ 1048576 := by omega
    obtain ⟨r, L', h1, mk, hd⟩ := marked n L wl hs
    refine Ev.bind t (Ev.bind (spec_list n L hl wl) (Ev.bind (impl_list n L hl wl) (Ev.bind (eq_item (n + 1) ⟨48, (⟨#[]⟩ : ByteArray), L⟩ ⟨by show 0 ≤ 1048576; omega, hl, wl⟩) (ev_pos rfl (Ev.bind (eq_rows n L hl wl) (ev_pos rfl (Ev.bind mk (ev_neg (by show ¬ r < 0; omega) (Ev.bind mk (Ev.bind (a := r) ?_ (ev_neg (by omega) (ev_pos rfl (Ev.now _)))))))))))))
    simp only [laws_heldItem.f]
    exact Ev.bind hd (ev_neg (by omega) (Ev.now _))
  · rw [lessV_no _ _ (by omega)]
    exact ev_pos (by omega) (Ev.now _)

end Go.Proofs.Ytknalcnbkbkjdaa.Pure
