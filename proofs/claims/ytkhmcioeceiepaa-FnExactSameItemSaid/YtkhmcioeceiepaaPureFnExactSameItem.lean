/- The law FnExactSameItem answers true for every argument: the program's SameItem and the reference's come to the same answer. -/
import Derived.Test.YtkhmcioeceiepaaGFnExactSameItemx5
import Derived.Test.YtkhmcioeceiepaaOFnExactSameItem
set_option linter.unusedVariables false
set_option linter.unusedSimpArgs false
namespace Go.Proofs.Ytkhmcioeceiepaa.Pure
open Go.RowKit Go.ChangeShapes Go.Proofs.Ytkhmcioeceiepaa.GFnExactSameItem Go.Proofs.YtkhmcioeceiepaaW.PrintWords Go.Proofs.YtkhmcioeceiepaaW.PrintLast

theorem w64 {n : Int} (h0 : -9223372036854775808 ≤ n) (h1 : n ≤ 9223372036854775807) : wrap64 n = n := by unfold wrap64; omega
theorem ev_pos {α : Type} {c : Prop} [Decidable c] {f g : Nat → Option α} {r : α} (h : c) (k : Ev f r) : Ev (fun n => if c then f n else g n) r := by
  simpa only [if_pos h] using k
theorem ev_neg {α : Type} {c : Prop} [Decidable c] {f g : Nat → Option α} {r : α} (h : ¬ c) (k : Ev g r) : Ev (fun n => if c then f n else g n) r := by
  simpa only [if_neg h] using k
theorem tdivN (n m : Nat) : Int.tdiv (n : Int) (m : Int) = ((n / m : Nat) : Int) := rfl
theorem tmodN (n m : Nat) : Int.tmod (n : Int) (m : Int) = ((n % m : Nat) : Int) := rfl
theorem tdiv_pos' {n m : Int} (h : 0 ≤ n) : Int.tdiv n m = n / m := Int.tdiv_eq_ediv_of_nonneg h
theorem tmod_pos' {n m : Int} (h : 0 ≤ n) : Int.tmod n m = n % m := Int.tmod_eq_emod_of_nonneg h
theorem bt_rng (s : ByteArray) (i : Int) : 0 ≤ bt s i ∧ bt s i ≤ 255 := bt_range s i
theorem bt_bytes (s : ByteArray) (i : Nat) : bt s i = (bytesOf s).getD i 0 := (rd_bytesOf s i).symm
theorem drop_bytes (s : ByteArray) (i : Nat) (h : i < s.size) : (bytesOf s).drop i = bt s i :: (bytesOf s).drop (i + 1) := by
  have h' : i < (bytesOf s).length := by rw [bytesOf_length]; exact h
  rw [List.drop_eq_getElem_cons h', bt_bytes, List.getD_eq_getElem?_getD, List.getElem?_eq_getElem h']
  rfl

/-! Trees of items: their weight, their copy, their sameness. -/
theorem rdB (xs : List S34) (i : Nat) (h : i < xs.length) : rd_T34 xs (i : Int) = xs[i] := by
  simp [rd_T34, List.getD_eq_getElem?_getD, List.getElem?_eq_getElem h]
theorem rdL (xs : List S39) (i : Nat) (h : i < xs.length) : rd_T39 xs (i : Int) = xs[i] := by
  simp [rd_T39, List.getD_eq_getElem?_getD, List.getElem?_eq_getElem h]
theorem le_sum {α : Type} (f : α → Nat) : ∀ (l : List α) (y : α), y ∈ l → f y ≤ (l.map f).sum
  | [], _, h => by cases h
  | x :: l, y, h => by
    rcases List.mem_cons.1 h with rfl | h
    · simp
    · have := le_sum f l y h
      simp; omega
def wtB : Nat → S34 → Nat
  | 0, _ => 0
  | n + 1, x => x.f1.size + (x.f2.length + (x.f2.map (wtB n)).sum)
def lessV (b : Int) (w : Nat) : Int := if (w : Int) ≤ b then b - w else -1
theorem lessV_add (b : Int) (v w : Nat) (h : (v : Int) ≤ b) : lessV (b - v) w = lessV b (v + w) := by
  unfold lessV
  by_cases hw : (w : Int) ≤ b - v
  · rw [if_pos hw, if_pos (by omega)]; omega
  · rw [if_neg hw, if_neg (by omega)]
theorem lessV_no (b : Int) (w : Nat) (h : ¬ (w : Int) ≤ b) : lessV b w = -1 := if_neg h
theorem lessV_yes (b : Int) (w : Nat) (h : (w : Int) ≤ b) : lessV b w = b - w := if_pos h
theorem sz_row (n : Nat) (item : ∀ y, WF34 n y → ∀ b : Int, 0 ≤ b → b ≤ 1048576 → Ev (fun k => laws_szItem.f k y.f0 y.f1 y.f2 b) (lessV b (wtB n y)))
    (l : List S34) (hl : l.length ≤ maxLen) (hw : ∀ y ∈ l, WF34 n y) (b : Int) (h0 : 0 ≤ b) (h1 : b ≤ 1048576) : Ev (fun k => laws_szItemS.f k l b) (lessV b (l.length + (l.map (wtB n)).sum)) := by
  have hl' : l.length ≤ 9223372036854775807 := hl
  have loop : ∀ (d i : Nat) (b : Int), i + d = l.length → 0 ≤ b → b ≤ 1048576 → Ev (fun k => laws_szItemS.l0 k l b (i : Int)) (lessV b ((l.drop i).map (wtB n)).sum) := by
    intro d
    induction d with
    | zero =>
      intro i b hi h0 h1
      refine Ev.step (fun k => laws_szItemS.l0_eq k l b i) (ev_neg (by omega) ?_)
      rw [List.drop_eq_nil_of_le (by omega)]
      rw [show lessV b (([] : List S34).map (wtB n)).sum = b by rw [lessV_yes _ _ (by simpa using h0)]; simp]
      exact Ev.now _
    | succ d ih =>
      intro i b hi h0 h1
      have hlt : i < l.length := by omega
      refine Ev.step (fun k => laws_szItemS.l0_eq k l b i) (ev_pos (by omega) (ev_pos (by omega) ?_))
      rw [rdB l i hlt]
      refine Ev.bind (item l[i] (hw _ (List.getElem_mem hlt)) b h0 h1) ?_
      rw [List.drop_eq_getElem_cons hlt, List.map_cons, List.sum_cons]
      by_cases hc : (wtB n l[i] : Int) ≤ b
      · rw [lessV_yes _ _ hc, ← lessV_add _ _ _ hc]
        refine ev_neg (by omega) ?_
        rw [show wrap64 ((i : Int) + 1) = ((i + 1 : Nat) : Int) by rw [w64 (by omega) (by omega)]; omega]
        exact ih (i + 1) _ (by omega) (by omega) (by omega)
      · rw [lessV_no _ _ hc, lessV_no _ _ (by omega)]
        exact ev_pos (by omega) (Ev.now _)
  refine Ev.step (fun k => by rw [laws_szItemS.f]) ?_
  rw [w64 (n := b - (l.length : Int)) (by omega) (by omega)]
  by_cases hc : (l.length : Int) ≤ b
  · refine ev_neg (by omega) ?_
    rw [← lessV_add _ _ _ hc]
    have := loop l.length 0 (b - l.length) (by omega) (by omega) (by omega)
    rwa [List.drop_zero] at this
  · rw [lessV_no _ _ (by omega)]
    exact ev_pos (by omega) (Ev.now _)
theorem sz_item : ∀ (n : Nat) (x : S34), WF34 n x → ∀ b : Int, 0 ≤ b → b ≤ 1048576 → Ev (fun k => laws_szItem.f k x.f0 x.f1 x.f2 b) (lessV b (wtB n x))
  | 0, _, h, _, _, _ => h.elim
  | n + 1, x, ⟨_, hs, hl, hk⟩, b, h0, h1 => by
    have hs' : x.f1.size ≤ 9223372036854775807 := hs
    simp only [laws_szItem.f]
    rw [w64 (n := b - (x.f1.size : Int)) (by omega) (by omega)]
    have e : wtB (n + 1) x = x.f1.size + (x.f2.length + (x.f2.map (wtB n)).sum) := rfl
    rw [e]
    by_cases hc : (x.f1.size : Int) ≤ b
    · refine ev_neg (by omega) (Ev.bind (sz_row n (sz_item n) x.f2 hl hk _ (by omega) (by omega)) ?_)
      rw [lessV_add _ _ _ hc]
      by_cases hd : ((x.f1.size + (x.f2.length + (x.f2.map (wtB n)).sum) : Nat) : Int) ≤ b
      · rw [lessV_yes _ _ hd]
        exact ev_neg (by omega) (Ev.now _)
      · rw [lessV_no _ _ hd]
        exact ev_pos (by omega) (Ev.now _)
    · rw [lessV_no _ _ (by omega)]
      exact ev_pos (by omega) (Ev.now _)
theorem sz_rows (n : Nat) (l : List S34) (hl : l.length ≤ maxLen) (hw : ∀ y ∈ l, WF34 n y) (b : Int) (h0 : 0 ≤ b) (h1 : b ≤ 1048576) : Ev (fun k => laws_szItemS.f k l b) (lessV b (l.length + (l.map (wtB n)).sum)) :=
  sz_row n (sz_item n) l hl hw b h0 h1
/-! The copy. -/
theorem etaL (x : S39) : (⟨x.f0, x.f1, x.f2⟩ : S39) = x := by cases x; rfl
def cv : Nat → S34 → S39
  | 0, _ => z39
  | n + 1, x => ⟨x.f0, x.f1, x.f2.map (cv n)⟩
theorem set_next {α β : Type} (l : List α) (f : α → β) (i : Nat) (t : β) (tl : List β) (h : i < l.length) : ((l.take i).map f ++ t :: tl).set i (f l[i]) = (l.take (i + 1)).map f ++ tl := by
  have hl : ((l.take i).map f).length = i := by rw [List.length_map, List.length_take]; omega
  rw [List.set_append_right _ _ (by omega), hl, Nat.sub_self, List.set_cons_zero, List.take_succ_eq_append_getElem h, List.map_append, List.append_assoc]
  rfl
theorem to_row (n : Nat) (item : ∀ y, WF34 n y → wtB n y ≤ 1048576 → Ev (fun k => laws_toItem.f k y.f0 y.f1 y.f2) ((cv n y).f0, (cv n y).f1, (cv n y).f2))
    (l : List S34) (hw : ∀ y ∈ l, WF34 n y) (hb : l.length + (l.map (wtB n)).sum ≤ 1048576) : Ev (fun k => laws_toItemS.f k l) (l.map (cv n)) := by
  have loop : ∀ (d i : Nat) (tl : List S39), tl.length = d → i + d = l.length → Ev (fun k => laws_toItemS.l0 k l ((l.take i).map (cv n) ++ tl) (i : Int)) (l.map (cv n)) := by
    intro d
    induction d with
    | zero =>
      intro i tl ht hi
      obtain rfl : tl = [] := List.eq_nil_of_length_eq_zero ht
      refine Ev.step (fun k => laws_toItemS.l0_eq k l _ i) (ev_neg (by omega) ?_)
      rw [List.append_nil, List.take_of_length_le (by omega)]
      exact Ev.now _
    | succ d ih =>
      intro i tl ht hi
      have hlt : i < l.length := by omega
      obtain ⟨t, tl, rfl⟩ : ∃ t tl', tl = t :: tl' := by cases tl with | nil => simp at ht | cons t tl => exact ⟨t, tl, rfl⟩
      refine Ev.step (fun k => laws_toItemS.l0_eq k l _ i) (ev_pos (by omega) (ev_pos (by omega) ?_))
      rw [rdB l i hlt]
      have hm := List.getElem_mem hlt
      refine Ev.bind (item l[i] (hw _ hm) (by have := le_sum (wtB n) l _ hm; omega)) (ev_pos ?_ ?_)
      · simp at ht; simp [List.length_take]; omega
      · rw [show wrap64 ((i : Int) + 1) = ((i + 1 : Nat) : Int) by rw [w64 (by omega) (by omega)]; omega, Int.toNat_natCast]
        show Ev (fun m => laws_toItemS.l0 m l (((l.take i).map (cv n) ++ t :: tl).set i ⟨(cv n l[i]).f0, (cv n l[i]).f1, (cv n l[i]).f2⟩) ((i + 1 : Nat) : Int)) (l.map (cv n))
        rw [etaL, set_next l (cv n) i t tl hlt]
        exact ih (i + 1) tl (by simpa using ht) (by omega)
  refine Ev.step (fun k => by rw [laws_toItemS.f]) (ev_pos (by omega) (ev_pos (by omega) ?_))
  have := loop l.length 0 (List.replicate l.length z39) (by simp) (by omega)
  simpa using this
theorem to_item : ∀ (n : Nat) (x : S34), WF34 n x → wtB n x ≤ 1048576 → Ev (fun k => laws_toItem.f k x.f0 x.f1 x.f2) ((cv n x).f0, (cv n x).f1, (cv n x).f2)
  | 0, _, h, _ => h.elim
  | n + 1, x, ⟨_, _, _, hk⟩, hb => by
    have e : wtB (n + 1) x = x.f1.size + (x.f2.length + (x.f2.map (wtB n)).sum) := rfl
    simp only [laws_toItem.f]
    exact Ev.bind (to_row n (to_item n) x.f2 hk (by omega)) (Ev.now _)
theorem to_rows (n : Nat) (l : List S34) (hw : ∀ y ∈ l, WF34 n y) (hb : l.length + (l.map (wtB n)).sum ≤ 1048576) : Ev (fun k => laws_toItemS.f k l) (l.map (cv n)) :=
  to_row n (to_item n) l hw hb
/-! The little trees, of the copy. -/
def WL : Nat → S39 → Prop
  | 0, _ => False
  | n + 1, x => x.f1.size ≤ 1048576 ∧ x.f2.length ≤ 1048576 ∧ ∀ y ∈ x.f2, WL n y
theorem cv_WL : ∀ (n : Nat) (x : S34), WF34 n x → wtB n x ≤ 1048576 → WL n (cv n x)
  | 0, _, h, _ => h.elim
  | n + 1, x, ⟨_, _, _, hk⟩, hb => by
    have e : wtB (n + 1) x = x.f1.size + (x.f2.length + (x.f2.map (wtB n)).sum) := rfl
    refine ⟨by show x.f1.size ≤ 1048576; omega, by show (x.f2.map (cv n)).length ≤ 1048576; rw [List.length_map]; omega, fun y hy => ?_⟩
    obtain ⟨z, hz, rfl⟩ := List.mem_map.1 hy
    exact cv_WL n z (hk z hz) (by have := le_sum (wtB n) x.f2 z hz; omega)
theorem eq_row (n : Nat) (item : ∀ y, WL n y → Ev (fun k => laws_eqItem.f k y.f0 y.f1 y.f2 y.f0 y.f1 y.f2) true) (l : List S39) (hl : l.length ≤ 1048576) (hw : ∀ y ∈ l, WL n y) : Ev (fun k => laws_eqItemS.f k l l) true := by
  have loop : ∀ (d i : Nat), i + d = l.length → Ev (fun k => laws_eqItemS.l0 k l l (i : Int)) true := by
    intro d
    induction d with
    | zero =>
      intro i hi
      exact Ev.step (fun k => laws_eqItemS.l0_eq k l l i) (ev_neg (by omega) (Ev.now _))
    | succ d ih =>
      intro i hi
      have hlt : i < l.length := by omega
      refine Ev.step (fun k => laws_eqItemS.l0_eq k l l i) (ev_pos (by omega) (ev_pos (by omega) (ev_pos (by omega) ?_)))
      rw [rdL l i hlt]
      refine Ev.bind (item l[i] (hw _ (List.getElem_mem hlt))) (ev_pos rfl ?_)
      rw [show wrap64 ((i : Int) + 1) = ((i + 1 : Nat) : Int) by rw [w64 (by omega) (by omega)]; omega]
      exact ih (i + 1) (by omega)
  refine Ev.step (fun k => by rw [laws_eqItemS.f]) ?_
  exact ev_pos rfl (loop l.length 0 (by omega))
theorem eq_item : ∀ (n : Nat) (x : S39), WL n x → Ev (fun k => laws_eqItem.f k x.f0 x.f1 x.f2 x.f0 x.f1 x.f2) true
  | 0, _, h => h.elim
  | n + 1, x, ⟨_, hl, hk⟩ => by
    simp only [laws_eqItem.f]
    exact ev_pos trivial (ev_pos trivial (Ev.bind (eq_row n (eq_item n) x.f2 hl hk) (ev_pos rfl (Ev.now _))))
theorem eq_rows (n : Nat) (l : List S39) (hl : l.length ≤ 1048576) (hw : ∀ y ∈ l, WL n y) : Ev (fun k => laws_eqItemS.f k l l) true := eq_row n (eq_item n) l hl hw

theorem WL_up : ∀ (n : Nat) (x : S39), WL n x → WL (n + 1) x
  | 0, _, h => h.elim
  | n + 1, _, ⟨h1, h2, h3⟩ => ⟨h1, h2, fun y hy => WL_up n y (h3 y hy)⟩
theorem WL_le (n : Nat) (x : S39) (h : WL n x) : ∀ d, WL (n + d) x
  | 0 => h
  | d + 1 => WL_up (n + d) x (WL_le n x h d)
theorem same_pair : ∀ (n : Nat) (x y : S39), WL n x → WL n y → ∃ b, Ev (fun k => spec_SameItem.f k x.f0 x.f1 x.f2 y.f0 y.f1 y.f2) b ∧ Ev (fun k => impl_SameItem.f k x.f0 x.f1 x.f2 y.f0 y.f1 y.f2) b
  | 0, _, _, h, _ => h.elim
  | n + 1, x, y, ⟨_, hl, hk⟩, ⟨_, _, hk2⟩ => by
    have no : Ev (fun k => spec_SameItem.j0 k true x.f0 x.f1 x.f2 y.f0 y.f1 y.f2) false := by
      refine Ev.step (fun k => by rw [spec_SameItem.j0]) ?_
      exact ev_pos rfl (Ev.now _)
    by_cases c0 : x.f0 = y.f0
    · by_cases c1 : x.f1.toList = y.f1.toList
      · by_cases c2 : x.f2.length = y.f2.length
        · have loop : ∀ (d i : Nat), i + d = x.f2.length → ∃ b, Ev (fun k => spec_SameItem.l0 k (i : Int) x.f0 x.f1 x.f2 y.f0 y.f1 y.f2) b ∧ Ev (fun k => impl_Item.l0 k y.f2 x.f2 (x.f2.length : Int) (i : Int)) b := by
            intro d
            induction d with
            | zero =>
              intro i hi
              refine ⟨true, Ev.step (fun k => by rw [spec_SameItem.l0]) (ev_neg (by omega) (Ev.now _)), Ev.step (fun k => impl_Item.l0_eq k _ _ _ _) (ev_neg (by omega) (Ev.now _))⟩
            | succ d ih =>
              intro i hi
              have hlt : i < x.f2.length := by omega
              have hlt2 : i < y.f2.length := by omega
              obtain ⟨b, hs, hi'⟩ := same_pair n x.f2[i] y.f2[i] (hk _ (List.getElem_mem hlt)) (hk2 _ (List.getElem_mem hlt2))
              have ws : wrap64 ((i : Int) + 1) = ((i + 1 : Nat) : Int) := by rw [w64 (by omega) (by omega)]; omega
              cases b with
              | false =>
                refine ⟨false, Ev.step (fun k => by rw [spec_SameItem.l0]) (ev_pos (by omega) (ev_pos (by omega) (ev_pos (by omega) ?_))), Ev.step (fun k => impl_Item.l0_eq k _ _ _ _) (ev_pos (by omega) (ev_pos (by omega) (ev_pos (by omega) (ev_pos (by omega) ?_))))⟩
                · rw [rdL x.f2 i hlt, rdL y.f2 i hlt2]
                  exact Ev.bind hs (ev_neg Bool.false_ne_true (Ev.now _))
                · rw [rdL x.f2 i hlt, rdL y.f2 i hlt2]
                  exact Ev.bind hi' (ev_neg Bool.false_ne_true (Ev.now _))
              | true =>
                obtain ⟨b2, hs2, hi2⟩ := ih (i + 1) (by omega)
                refine ⟨b2, Ev.step (fun k => by rw [spec_SameItem.l0]) (ev_pos (by omega) (ev_pos (by omega) (ev_pos (by omega) ?_))), Ev.step (fun k => impl_Item.l0_eq k _ _ _ _) (ev_pos (by omega) (ev_pos (by omega) (ev_pos (by omega) (ev_pos (by omega) ?_))))⟩
                · rw [rdL x.f2 i hlt, rdL y.f2 i hlt2, ws]
                  exact Ev.bind hs (ev_pos rfl hs2)
                · rw [rdL x.f2 i hlt, rdL y.f2 i hlt2, ws]
                  exact Ev.bind hi' (ev_pos rfl hi2)
          obtain ⟨b, hs, hi⟩ := loop x.f2.length 0 (by omega)
          refine ⟨b, ?_, ?_⟩
          · refine Ev.step (fun k => by rw [spec_SameItem.f]) (ev_pos c0 (ev_pos c1 ?_))
            rw [show ((x.f2.length : Int) != (y.f2.length : Int)) = false by simp [c2]]
            refine Ev.step (fun k => by rw [spec_SameItem.j0]) ?_
            exact ev_neg Bool.false_ne_true hs
          · simp only [impl_SameItem.f]
            refine ev_pos c0 (ev_pos c1 (Ev.bind (a := b) ?_ (Ev.now _)))
            refine Ev.step (fun k => by rw [impl_Item.f]) ?_
            exact ev_pos (by omega) hi
        · refine ⟨false, ?_, ?_⟩
          · refine Ev.step (fun k => by rw [spec_SameItem.f]) (ev_pos c0 (ev_pos c1 ?_))
            rw [show ((x.f2.length : Int) != (y.f2.length : Int)) = true by simp; omega]
            exact no
          · simp only [impl_SameItem.f]
            refine ev_pos c0 (ev_pos c1 (Ev.bind (a := false) ?_ (Ev.now _)))
            refine Ev.step (fun k => by rw [impl_Item.f]) ?_
            exact ev_neg (by omega) (Ev.now _)
      · refine ⟨false, Ev.step (fun k => by rw [spec_SameItem.f]) (ev_pos c0 (ev_neg c1 no)), ?_⟩
        simp only [impl_SameItem.f]
        exact ev_pos c0 (ev_neg c1 (Ev.now _))
    · refine ⟨false, Ev.step (fun k => by rw [spec_SameItem.f]) (ev_neg c0 no), ?_⟩
      simp only [impl_SameItem.f]
      exact ev_neg c0 (Ev.now _)

theorem FnExactSameItem : laws_FnExactSameItem.Pure := by
  intro x n y m hx hy
  refine Ev.rounds (g := fun k => laws_FnExactSameItem.f k x.f0 x.f1 x.f2 y.f0 y.f1 y.f2) ?_
  simp only [laws_FnExactSameItem.f]
  refine Ev.bind (sz_item n x hx 1048576 (by omega) (by omega)) ?_
  by_cases hb : (wtB n x : Int) ≤ 1048576
  · rw [lessV_yes _ _ hb]
    refine ev_neg (by omega) (Ev.bind (sz_item m y hy _ (by omega) (by omega)) ?_)
    by_cases hc : (wtB m y : Int) ≤ 1048576 - (wtB n x : Int)
    · rw [lessV_yes _ _ hc]
      have tx := to_item n x hx (by omega)
      have ty := to_item m y hy (by omega)
      have wx := cv_WL n x hx (by omega)
      have wy := cv_WL m y hy (by omega)
      obtain ⟨b, hs, hi⟩ := same_pair (n + m) (cv n x) (cv m y) (WL_le n _ wx m) (by rw [Nat.add_comm]; exact WL_le m _ wy n)
      refine ev_neg (by omega) (Ev.bind tx (Ev.bind ty (Ev.bind hs (Ev.bind tx (Ev.bind ty (Ev.bind hi ?_))))))
      rw [show (b != b) = false by simp]
      exact ev_neg Bool.false_ne_true (Ev.bind tx (Ev.bind (eq_item n _ wx) (ev_pos rfl (Ev.bind ty (Ev.bind (eq_item m _ wy) (ev_pos rfl (Ev.now _)))))))
    · rw [lessV_no _ _ hc]
      exact ev_pos (by omega) (Ev.now _)
  · rw [lessV_no _ _ hb]
    exact ev_pos (by omega) (Ev.now _)

end Go.Proofs.Ytkhmcioeceiepaa.Pure
