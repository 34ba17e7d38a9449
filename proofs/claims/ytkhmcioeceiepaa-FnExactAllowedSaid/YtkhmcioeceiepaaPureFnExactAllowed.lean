/- The law FnExactAllowed answers true for every argument: the program's Allowed and the reference's come to the same answer. -/
import Derived.Test.YtkhmcioeceiepaaGFnExactAllowedx2
import Derived.Test.YtkhmcioeceiepaaOFnExactAllowed
set_option linter.unusedVariables false
set_option linter.unusedSimpArgs false
namespace Go.Proofs.Ytkhmcioeceiepaa.Pure
open Go.RowKit Go.ChangeShapes Go.Proofs.Ytkhmcioeceiepaa.GFnExactAllowed Go.Proofs.YtkhmcioeceiepaaW.PrintWords Go.Proofs.YtkhmcioeceiepaaW.PrintLast

theorem w64 {n : Int} (h0 : -9223372036854775808 ≤ n) (h1 : n ≤ 9223372036854775807) : wrap64 n = n := by unfold wrap64; omega
theorem ev_pos {α : Type} {c : Prop} [Decidable c] {f g : Nat → Option α} {r : α} (h : c) (k : Ev f r) : Ev (fun n => if c then f n else g n) r := by
  simpa only [if_pos h] using k
theorem ev_neg {α : Type} {c : Prop} [Decidable c] {f g : Nat → Option α} {r : α} (h : ¬ c) (k : Ev g r) : Ev (fun n => if c then f n else g n) r := by
  simpa only [if_neg h] using k
theorem tdivN (n m : Nat) : Int.tdiv (n : Int) (m : Int) = ((n / m : Nat) : Int) := rfl
theorem tmodN (n m : Nat) : Int.tmod (n : Int) (m : Int) = ((n % m : Nat) : Int) := rfl
theorem tdiv_pos' {n m : Int} (h : 0 ≤ n) : Int.tdiv n m = n / m := Int.tdiv_eq_ediv_of_nonneg h
theorem tmod_pos' {n m : Int} (h : 0 ≤ n) : Int.tmod n m = n % m := Int.tmod_eq_emod_of_nonneg h
theorem bt_rng (s : ByteArray) (i : Int) : 0 ≤ bt s i ∧ bt s i ≤ 255 := bt_range s i
theorem bt_bytes (s : ByteArray) (i : Nat) : bt s i = (bytesOf s).getD i 0 := (rd_bytesOf s i).symm
theorem drop_bytes (s : ByteArray) (i : Nat) (h : i < s.size) : (bytesOf s).drop i = bt s i :: (bytesOf s).drop (i + 1) := by
  have h' : i < (bytesOf s).length := by rw [bytesOf_length]; exact h
  rw [List.drop_eq_getElem_cons h', bt_bytes, List.getD_eq_getElem?_getD, List.getElem?_eq_getElem h']
  rfl

def lessV (b : Int) (w : Nat) : Int := if (w : Int) ≤ b then b - w else -1
theorem lessV_add (b : Int) (v w : Nat) (h : (v : Int) ≤ b) : lessV (b - v) w = lessV b (v + w) := by
  unfold lessV
  by_cases hw : (w : Int) ≤ b - v
  · rw [if_pos hw, if_pos (by omega)]; omega
  · rw [if_neg hw, if_neg (by omega)]
theorem lessV_no (b : Int) (w : Nat) (h : ¬ (w : Int) ≤ b) : lessV b w = -1 := if_neg h
theorem lessV_yes (b : Int) (w : Nat) (h : (w : Int) ≤ b) : lessV b w = b - w := if_pos h

/-! Rows of texts: their weight, their copy, their sameness. -/
theorem rdS (xs : List ByteArray) (i : Nat) (h : i < xs.length) : rdOf ByteArray.empty xs (i : Int) = xs[i] := by
  simp [rdOf, List.getD_eq_getElem?_getD, List.getElem?_eq_getElem h]
def wtS (l : List ByteArray) : Nat := (l.map ByteArray.size).sum
theorem wtS_mem : ∀ (l : List ByteArray) (s : ByteArray), s ∈ l → s.size ≤ wtS l
  | [], _, h => by cases h
  | x :: l, s, h => by
    unfold wtS
    rw [List.map_cons, List.sum_cons]
    rcases List.mem_cons.1 h with rfl | h
    · omega
    · have := wtS_mem l s h
      unfold wtS at this
      omega
theorem sz_strs (l : List ByteArray) (hl : l.length ≤ 9223372036854775807) (hw : ∀ s ∈ l, s.size ≤ 9223372036854775807) (b : Int) (h0 : 0 ≤ b) (h1 : b ≤ 1048576) : Ev (fun k => laws_szStringS.f k l b) (lessV b (l.length + wtS l)) := by
  have loop : ∀ (d i : Nat) (b : Int), i + d = l.length → 0 ≤ b → b ≤ 1048576 → Ev (fun k => laws_szStringS.l0 k l b (i : Int)) (lessV b (wtS (l.drop i))) := by
    intro d
    induction d with
    | zero =>
      intro i b hi h0 h1
      refine Ev.step (fun k => by rw [laws_szStringS.l0]) (ev_neg (by omega) ?_)
      rw [List.drop_eq_nil_of_le (by omega)]
      rw [show lessV b (wtS []) = b by rw [lessV_yes _ _ (by simpa [wtS] using h0)]; simp [wtS]]
      exact Ev.now _
    | succ d ih =>
      intro i b hi h0 h1
      have hlt : i < l.length := by omega
      have hs := hw _ (List.getElem_mem hlt)
      refine Ev.step (fun k => by rw [laws_szStringS.l0]) (ev_pos (by omega) (ev_pos (by omega) ?_))
      rw [rdS l i hlt, w64 (n := b - (l[i].size : Int)) (by omega) (by omega)]
      have e : wtS (l.drop i) = l[i].size + wtS (l.drop (i + 1)) := by
        rw [List.drop_eq_getElem_cons hlt]
        rfl
      rw [e]
      by_cases hc : (l[i].size : Int) ≤ b
      · rw [← lessV_add _ _ _ hc]
        refine ev_neg (by omega) ?_
        rw [show wrap64 ((i : Int) + 1) = ((i + 1 : Nat) : Int) by rw [w64 (by omega) (by omega)]; omega]
        exact ih (i + 1) _ (by omega) (by omega) (by omega)
      · rw [lessV_no _ _ (by omega)]
        exact ev_pos (by omega) (Ev.now _)
  simp only [laws_szStringS.f]
  rw [w64 (n := b - (l.length : Int)) (by omega) (by omega)]
  by_cases hc : (l.length : Int) ≤ b
  · refine ev_neg (by omega) ?_
    rw [← lessV_add _ _ _ hc]
    have := loop l.length 0 (b - l.length) (by omega) (by omega) (by omega)
    rwa [List.drop_zero] at this
  · rw [lessV_no _ _ (by omega)]
    exact ev_pos (by omega) (Ev.now _)
theorem set_str (l : List ByteArray) (i : Nat) (t : ByteArray) (tl : List ByteArray) (h : i < l.length) : (l.take i ++ t :: tl).set i l[i] = l.take (i + 1) ++ tl := by
  have hl : (l.take i).length = i := by rw [List.length_take]; omega
  rw [List.set_append_right _ _ (by omega), hl, Nat.sub_self, List.set_cons_zero, List.take_succ_eq_append_getElem h, List.append_assoc]
  rfl
theorem tostr (l : List ByteArray) (hl : l.length ≤ 1048576) : Ev (fun k => laws_toStringS.f k l) l := by
  have loop : ∀ (d i : Nat) (tl : List ByteArray), tl.length = d → i + d = l.length → Ev (fun k => laws_toStringS.l0 k l (l.take i ++ tl) (i : Int)) l := by
    intro d
    induction d with
    | zero =>
      intro i tl ht hi
      obtain rfl : tl = [] := List.eq_nil_of_length_eq_zero ht
      refine Ev.step (fun k => by rw [laws_toStringS.l0]) ?_
      refine ev_neg (by omega) ?_
      rw [List.append_nil, List.take_of_length_le (by omega)]
      exact Ev.now _
    | succ d ih =>
      intro i tl ht hi
      obtain ⟨t, tl, rfl⟩ : ∃ t tl', tl = t :: tl' := by cases tl with | nil => simp at ht | cons t tl => exact ⟨t, tl, rfl⟩
      refine Ev.step (fun k => by rw [laws_toStringS.l0]) ?_
      refine ev_pos (by omega) (ev_pos (by omega) (ev_pos ?_ ?_))
      · simp at ht; simp [List.length_take]; omega
      · rw [show wrap64 ((i : Int) + 1) = ((i + 1 : Nat) : Int) by rw [w64 (by omega) (by omega)]; omega, Int.toNat_natCast, rdS l i (by omega), set_str l i t tl (by omega)]
        exact ih (i + 1) tl (by simpa using ht) (by omega)
  simp only [laws_toStringS.f]
  refine ev_pos (by omega) (ev_pos (by omega) ?_)
  have := loop l.length 0 (List.replicate l.length ⟨#[]⟩) (by simp) (by omega)
  simpa using this
theorem eqstr (l : List ByteArray) (hl : l.length ≤ 1048576) : Ev (fun k => laws_eqStringS.f k l l) true := by
  have loop : ∀ (d i : Nat), i + d = l.length → Ev (fun k => laws_eqStringS.l0 k l l (i : Int)) true := by
    intro d
    induction d with
    | zero =>
      intro i hi
      exact Ev.step (fun k => by rw [laws_eqStringS.l0]) (ev_neg (by omega) (Ev.now _))
    | succ d ih =>
      intro i hi
      refine Ev.step (fun k => by rw [laws_eqStringS.l0]) ?_
      refine ev_pos (by omega) (ev_pos (by omega) (ev_pos (by omega) (ev_pos rfl ?_)))
      rw [show wrap64 ((i : Int) + 1) = ((i + 1 : Nat) : Int) by rw [w64 (by omega) (by omega)]; omega]
      exact ih (i + 1) (by omega)
  simp only [laws_eqStringS.f]
  exact ev_pos trivial (loop l.length 0 (by omega))

theorem toList_size (s : ByteArray) : s.toList.length = s.size := by rw [ByteArray.toList_eq, Array.length_toList]; rfl
theorem extract_toList (s : ByteArray) (i j : Nat) : (s.extract i j).toList = (s.toList.drop i).take (j - i) := by
  rw [ByteArray.toList_eq, ByteArray.toList_eq]; simp [ByteArray.data_extract, List.extract_eq_take_drop]
theorem under_pair (a b : ByteArray) (ha : a.size ≤ 2097152) (hb : b.size ≤ 2097152) : ∃ r, spec_Under.f a b = some r ∧ impl_Under.f a b = some r := by
  unfold spec_Under.f impl_Under.f strings_HasSuffix.f stringslite_HasSuffix.f
  by_cases h3 : b.toList = []
  · rw [if_pos h3, if_pos h3]; exact ⟨_, rfl, rfl⟩
  rw [if_neg h3, if_neg h3]
  by_cases h4 : a.toList = b.toList
  · rw [if_pos h4, if_pos h4]; exact ⟨_, rfl, rfl⟩
  rw [if_neg h4, if_neg h4, if_pos (show 1 + b.size ≤ 9223372036854775807 by omega)]
  have hsz : ((⟨#[46]⟩ : ByteArray) ++ b).size = 1 + b.size := by simp [ByteArray.size_append]; rfl
  rw [hsz]
  have e1 : wrap64 ((a.size : Int) - b.size) = (a.size : Int) - b.size := w64 (by omega) (by omega)
  have e2 : wrap64 ((a.size : Int) - ((1 + b.size : Nat) : Int)) = (a.size : Int) - (1 + b.size : Nat) := w64 (by omega) (by omega)
  have e3 : wrap64 ((a.size : Int) - b.size - 1) = (a.size : Int) - b.size - 1 := w64 (by omega) (by omega)
  rw [e1, e2, e3]
  by_cases h5 : (a.size : Int) - b.size > 0
  · rw [if_pos h5, if_pos (show (0 : Int) ≤ (a.size : Int) - b.size by omega), if_pos (show (a.size : Int) - b.size ≤ a.size by omega), if_pos (show (0 : Int) ≤ (a.size : Int) - b.size - 1 by omega), if_pos (show (a.size : Int) - b.size - 1 < a.size by omega),
      if_pos (show (a.size : Int) ≥ (1 + b.size : Nat) by omega), if_pos (show (0 : Int) ≤ (a.size : Int) - (1 + b.size : Nat) by omega), if_pos (show (a.size : Int) - (1 + b.size : Nat) ≤ a.size by omega)]
    simp only [Option.bind_some]
    have n1 : ((a.size : Int) - b.size).toNat = a.size - b.size := by omega
    have n2 : ((a.size : Int) - (1 + b.size : Nat)).toNat = a.size - b.size - 1 := by omega
    have n3 : ((a.size : Int) - b.size - 1).toNat = a.size - b.size - 1 := by omega
    have hlt : a.size - b.size - 1 < a.toList.length := by rw [toList_size]; omega
    have hbt : bt a ((a.size : Int) - b.size - 1) = (a.toList[a.size - b.size - 1]).toNat := by
      unfold bt
      rw [dif_pos (by omega)]
      simp only [n3, ByteArray.toList_eq]
      rfl
    have key : (a.extract (a.size - b.size - 1) a.size).toList = a.toList[a.size - b.size - 1] :: (a.extract (a.size - b.size) a.size).toList := by
      rw [extract_toList, extract_toList, List.drop_eq_getElem_cons hlt, show a.size - b.size - 1 + 1 = a.size - b.size by omega, show a.size - (a.size - b.size - 1) = (a.size - (a.size - b.size)) + 1 by omega, List.take_succ_cons]
    have hap : ((⟨#[46]⟩ : ByteArray) ++ b).toList = 46 :: b.toList := by rw [ByteArray.toList_eq, ByteArray.toList_eq]; simp [ByteArray.data_append]
    rw [n1, n2, key, hap, hbt]
    by_cases h6 : (a.extract (a.size - b.size) a.size).toList = b.toList
    · rw [if_pos h6, h6]
      refine ⟨_, rfl, ?_⟩
      congr 1
      generalize a.toList[a.size - b.size - 1] = c
      rw [Bool.eq_iff_iff]
      simp only [beq_iff_eq, List.cons.injEq, and_true]
      constructor
      · rintro rfl; rfl
      · intro h
        apply UInt8.toNat_inj.1
        have : (c.toNat : Int) = 46 := h
        have h' : c.toNat = 46 := by omega
        rw [h']; rfl
    · rw [if_neg h6]
      refine ⟨_, rfl, ?_⟩
      congr 1
      simp only [beq_eq_false_iff_ne, ne_eq, List.cons.injEq, not_and]
      exact fun _ => h6
  · rw [if_neg h5, if_neg (show ¬ (a.size : Int) ≥ (1 + b.size : Nat) by omega)]
    exact ⟨_, rfl, rfl⟩

theorem under_both (a b : ByteArray) (ha : a.size ≤ 2097152) (hb : b.size ≤ 2097152) : spec_Under.f a b = some (al_under a b) ∧ impl_Under.f a b = some (al_under a b) := by
  obtain ⟨r, e1, e2⟩ := under_pair a b ha hb
  have e : al_under a b = r := by unfold al_under; rw [e2]; rfl
  rw [e]
  exact ⟨e1, e2⟩
theorem al_good_of (a : ByteArray) (ha : a.size ≤ 2097152) (l : List ByteArray) (hs : ∀ s ∈ l, s.size ≤ 2097152) : al_good a l = true := by
  unfold al_good
  rw [List.all_eq_true]
  intro x hx
  rw [(under_both a x ha (hs x hx)).2]
  rfl
def allowV (a : ByteArray) (l1 l2 : List ByteArray) : Bool := (l1.isEmpty || l1.any (al_under a)) && !l2.any (al_under a)
theorem spec_allow (a : ByteArray) (l1 l2 : List ByteArray) (ha : a.size ≤ 2097152) (n1 : l1.length ≤ 1048576) (n2 : l2.length ≤ 1048576) (h1 : ∀ s ∈ l1, s.size ≤ 2097152) (h2 : ∀ s ∈ l2, s.size ≤ 2097152) : Ev (fun k => spec_Allowed.f k a l1 l2) (allowV a l1 l2) := by
  have loop1 : ∀ (d i : Nat) (b : Bool), i + d = l2.length → Ev (fun k => spec_Allowed.l1 k a l2 b (i : Int)) (b && !(l2.drop i).any (al_under a)) := by
    intro d
    induction d with
    | zero =>
      intro i b hi
      refine Ev.step (fun k => by rw [spec_Allowed.l1]) (ev_neg (by omega) ?_)
      rw [List.drop_eq_nil_of_le (by omega), List.any_nil, Bool.not_false, Bool.and_true]
      exact Ev.now _
    | succ d ih =>
      intro i b hi
      have hlt : i < l2.length := by omega
      have ei : wrap64 ((i : Int) + 1) = ((i + 1 : Nat) : Int) := by rw [w64 (by omega) (by omega)]; omega
      refine Ev.step (fun k => by rw [spec_Allowed.l1]) (ev_pos (by omega) ?_)
      rw [ei, List.drop_eq_getElem_cons hlt, List.any_cons]
      cases b with
      | false =>
        refine ev_neg Bool.false_ne_true ?_
        have := ih (i + 1) false (by omega)
        rw [Bool.false_and] at this ⊢
        exact this
      | true =>
        refine ev_pos rfl (ev_pos (by omega) ?_)
        rw [rdS l2 i hlt, (under_both a l2[i] ha (h2 _ (List.getElem_mem hlt))).1]
        have := ih (i + 1) (!al_under a l2[i]) (by omega)
        rw [Bool.true_and, Bool.not_or]
        exact this
  have loop0 : ∀ (d i : Nat) (b : Bool), i + d = l1.length → Ev (fun k => spec_Allowed.l0 k a l1 l2 b (i : Int)) ((b || (l1.drop i).any (al_under a)) && !l2.any (al_under a)) := by
    intro d
    induction d with
    | zero =>
      intro i b hi
      refine Ev.step (fun k => by rw [spec_Allowed.l0]) (ev_neg (by omega) ?_)
      rw [List.drop_eq_nil_of_le (by omega), List.any_nil, Bool.or_false]
      have := loop1 l2.length 0 b (by omega)
      rwa [List.drop_zero] at this
    | succ d ih =>
      intro i b hi
      have hlt : i < l1.length := by omega
      have ei : wrap64 ((i : Int) + 1) = ((i + 1 : Nat) : Int) := by rw [w64 (by omega) (by omega)]; omega
      refine Ev.step (fun k => by rw [spec_Allowed.l0]) (ev_pos (by omega) ?_)
      rw [ei, List.drop_eq_getElem_cons hlt, List.any_cons]
      cases b with
      | true =>
        refine ev_pos rfl ?_
        have := ih (i + 1) true (by omega)
        rw [Bool.true_or] at this ⊢
        exact this
      | false =>
        refine ev_neg Bool.false_ne_true (ev_pos (by omega) ?_)
        rw [rdS l1 i hlt, (under_both a l1[i] ha (h1 _ (List.getElem_mem hlt))).1]
        have := ih (i + 1) (al_under a l1[i]) (by omega)
        rw [Bool.false_or]
        exact this
  have h := loop0 l1.length 0 ((l1.length : Int) == 0) (by omega)
  have e : (((l1.length : Int) == 0) || (l1.drop 0).any (al_under a)) = (l1.isEmpty || l1.any (al_under a)) := by
    rw [List.drop_zero]
    congr 1
    cases l1 with
    | nil => rfl
    | cons x l => simp; omega
  rw [e] at h
  simp only [spec_Allowed.f]
  exact h
theorem impl_allow (a : ByteArray) (l1 l2 : List ByteArray) (ha : a.size ≤ 2097152) (h1 : ∀ s ∈ l1, s.size ≤ 2097152) (h2 : ∀ s ∈ l2, s.size ≤ 2097152) : impl_Allowed.f a l1 l2 = some (allowV a l1 l2) := by
  unfold impl_Allowed.f allowV
  rw [if_pos (al_good_of a ha l1 h1), if_pos (al_good_of a ha l2 h2)]

theorem FnExactAllowed : laws_FnExactAllowed.Pure := by
  intro a l1 l2 ha n1 w1 n2 w2
  refine Ev.rounds (g := fun k => laws_FnExactAllowed.f k a l1 l2) ?_
  simp only [laws_FnExactAllowed.f]
  by_cases hb : (a.size : Int) > 1048576
  · exact ev_pos hb (Ev.now _)
  refine ev_neg hb (Ev.bind (sz_strs l1 n1 w1 1048576 (by omega) (by omega)) ?_)
  by_cases h1 : ((l1.length + wtS l1 : Nat) : Int) ≤ 1048576
  · rw [lessV_yes _ _ h1]
    refine ev_neg (by omega) (Ev.bind (sz_strs l2 n2 w2 _ (by omega) (by omega)) ?_)
    by_cases h2 : ((l2.length + wtS l2 : Nat) : Int) ≤ 1048576 - ((l1.length + wtS l1 : Nat) : Int)
    · rw [lessV_yes _ _ h2]
      have t1 := tostr l1 (by omega)
      have t2 := tostr l2 (by omega)
      have s1 : ∀ s ∈ l1, s.size ≤ 2097152 := fun s hs => by have := wtS_mem l1 s hs; omega
      have s2 : ∀ s ∈ l2, s.size ≤ 2097152 := fun s hs => by have := wtS_mem l2 s hs; omega
      refine ev_neg (by omega) (Ev.bind t1 (Ev.bind t2 (Ev.bind (spec_allow a l1 l2 (by omega) (by omega) (by omega) s1 s2) (Ev.bind t1 (Ev.bind t2 ?_)))))
      rw [impl_allow a l1 l2 (by omega) s1 s2]
      refine Ev.bind (g := fun _ => some (allowV a l1 l2)) (Ev.now _) (ev_neg (by simp) (Ev.bind t1 (Ev.bind (eqstr l1 (by omega)) (ev_pos rfl (Ev.bind t2 (Ev.bind (eqstr l2 (by omega)) (ev_pos rfl (Ev.now _))))))))
    · rw [lessV_no _ _ h2]
      exact ev_pos (by omega) (Ev.now _)
  · rw [lessV_no _ _ h1]
    exact ev_pos (by omega) (Ev.now _)

end Go.Proofs.Ytkhmcioeceiepaa.Pure
