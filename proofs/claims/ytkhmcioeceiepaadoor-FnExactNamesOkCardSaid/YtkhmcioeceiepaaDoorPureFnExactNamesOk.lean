/- The law FnExactNamesOk answers true for every argument: the program's NamesOk and the reference's come to the same answer. -/
import Derived.Test.YtkhmcioeceiepaaDoorGFnExactNamesOkx2
import Derived.Test.YtkhmcioeceiepaaDoorOFnExactNamesOk
set_option linter.unusedVariables false
set_option linter.unusedSimpArgs false
namespace Go.Proofs.YtkhmcioeceiepaaDoor.Pure
open Go.RowKit Go.ChangeShapes Go.Proofs.YtkhmcioeceiepaaDoor.GFnExactNamesOk Go.Proofs.YtkhmcioeceiepaaDoorW.PrintWords Go.Proofs.YtkhmcioeceiepaaDoorW.PrintLast

theorem w64 {n : Int} (h0 : -9223372036854775808 ≤ n) (h1 : n ≤ 9223372036854775807) : wrap64 n = n := by unfold wrap64; omega
theorem ev_pos {α : Type} {c : Prop} [Decidable c] {f g : Nat → Option α} {r : α} (h : c) (k : Ev f r) : Ev (fun n => if c then f n else g n) r := by
  simpa only [if_pos h] using k
theorem ev_neg {α : Type} {c : Prop} [Decidable c] {f g : Nat → Option α} {r : α} (h : ¬ c) (k : Ev g r) : Ev (fun n => if c then f n else g n) r := by
  simpa only [if_neg h] using k
theorem tdivN (n m : Nat) : Int.tdiv (n : Int) (m : Int) = ((n / m : Nat) : Int) := rfl
theorem tmodN (n m : Nat) : Int.tmod (n : Int) (m : Int) = ((n % m : Nat) : Int) := rfl
theorem tdiv_pos' {n m : Int} (h : 0 ≤ n) : Int.tdiv n m = n / m := Int.tdiv_eq_ediv_of_nonneg h
theorem tmod_pos' {n m : Int} (h : 0 ≤ n) : Int.tmod n m = n % m := Int.tmod_eq_emod_of_nonneg h
theorem bt_rng (s : ByteArray) (i : Int) : 0 ≤ bt s i ∧ bt s i ≤ 255 := bt_range s i
theorem bt_bytes (s : ByteArray) (i : Nat) : bt s i = (bytesOf s).getD i 0 := (rd_bytesOf s i).symm
theorem drop_bytes (s : ByteArray) (i : Nat) (h : i < s.size) : (bytesOf s).drop i = bt s i :: (bytesOf s).drop (i + 1) := by
  have h' : i < (bytesOf s).length := by rw [bytesOf_length]; exact h
  rw [List.drop_eq_getElem_cons h', bt_bytes, List.getD_eq_getElem?_getD, List.getElem?_eq_getElem h']
  rfl

def lessV (b : Int) (w : Nat) : Int := if (w : Int) ≤ b then b - w else -1
theorem lessV_add (b : Int) (v w : Nat) (h : (v : Int) ≤ b) : lessV (b - v) w = lessV b (v + w) := by
  unfold lessV
  by_cases hw : (w : Int) ≤ b - v
  · rw [if_pos hw, if_pos (by omega)]; omega
  · rw [if_neg hw, if_neg (by omega)]
theorem lessV_no (b : Int) (w : Nat) (h : ¬ (w : Int) ≤ b) : lessV b w = -1 := if_neg h
theorem lessV_yes (b : Int) (w : Nat) (h : (w : Int) ≤ b) : lessV b w = b - w := if_pos h

/-! A text cut at its points, and read byte by byte. -/
def lowB (c : UInt8) : Bool := decide (97 ≤ c.toNat) && decide (c.toNat ≤ 122)
def scanN : List UInt8 → Bool → Bool
  | [], p => p
  | c :: l, p => if lowB c = true then scanN l true else if c = 46 then (if p = true then scanN l false else false) else false
def partOk (p : List UInt8) : Bool := !p.isEmpty && p.all lowB
theorem splitK_cons (c : UInt8) (l : List UInt8) (hc : c ≠ 46) : ∀ k, ∃ h t, Lib.splitK [46] 0 k l = h :: t ∧ Lib.splitK [46] 0 k (c :: l) = (c :: h) :: t := by
  intro k
  cases k with
  | zero => exact ⟨l, [], rfl, rfl⟩
  | succ k =>
    unfold Lib.splitK
    rw [Lib.index_one, Lib.index_one]
    have e : Lib.indexByte (c :: l) 46 = if Lib.indexByte l 46 = -1 then -1 else Lib.indexByte l 46 + 1 := by
      rw [Lib.indexByte]
      simp [hc]
    by_cases hi : Lib.indexByte l 46 = -1
    · rw [e, if_pos hi, hi]
      exact ⟨l, [], rfl, rfl⟩
    · have hn : ∃ i : Nat, Lib.indexByte l 46 = i := by
        have : ∀ l : List UInt8, -1 ≤ Lib.indexByte l 46 := by
          intro l
          induction l with
          | nil => simp [Lib.indexByte]
          | cons b l ih =>
            rw [Lib.indexByte]
            split
            · omega
            · split <;> omega
        have h1 := this l
        exact ⟨(Lib.indexByte l 46).toNat, by omega⟩
      obtain ⟨i, hi2⟩ := hn
      rw [e, if_neg hi, hi2]
      have b1 : ((i : Int) == -1) = false := beq_eq_false_iff_ne.2 (by omega)
      have b2 : ((i : Int) + 1 == -1) = false := beq_eq_false_iff_ne.2 (by omega)
      rw [b1, b2]
      have t1 : ((i : Int)).toNat = i := by omega
      have t2 : ((i : Int) + 1).toNat = i + 1 := by omega
      rw [t1, t2]
      refine ⟨_, _, rfl, ?_⟩
      simp
theorem split_dot (l : List UInt8) : Lib.split (46 :: l) [46] = [] :: Lib.split l [46] := by
  unfold Lib.split
  rw [Lib.count_cons_eq, Nat.add_comm]
  rw [Lib.splitK, Lib.index_one]
  have e : Lib.indexByte (46 :: l) 46 = 0 := by rw [Lib.indexByte]; simp
  rw [e]
  simp
theorem split_other (c : UInt8) (l : List UInt8) (hc : c ≠ 46) : ∃ h t, Lib.split l [46] = h :: t ∧ Lib.split (c :: l) [46] = (c :: h) :: t := by
  unfold Lib.split
  rw [Lib.count_cons_ne _ _ _ hc]
  exact splitK_cons c l hc _
theorem scan_split : ∀ (l : List UInt8) (p : Bool), ∃ h t, Lib.split l [46] = h :: t ∧ scanN l p = (((p || !h.isEmpty) && h.all lowB) && t.all partOk) := by
  intro l
  induction l with
  | nil => intro p; exact ⟨[], [], rfl, by simp [scanN]⟩
  | cons c l ih =>
    intro p
    by_cases hc : c = 46
    · subst hc
      obtain ⟨h, t, e, es⟩ := ih false
      refine ⟨[], Lib.split l [46], split_dot l, ?_⟩
      have hl : lowB 46 = false := rfl
      rw [scanN, hl, if_neg Bool.false_ne_true, if_pos rfl, e]
      cases p with
      | false => simp
      | true =>
        rw [if_pos rfl, es]
        simp [partOk]
    · obtain ⟨h, t, e, es⟩ := ih true
      obtain ⟨h', t', e', e2⟩ := split_other c l hc
      rw [e] at e'
      obtain ⟨rfl, rfl⟩ : h = h' ∧ t = t' := by simpa using e'
      refine ⟨c :: h, t, e2, ?_⟩
      rw [scanN]
      by_cases hl : lowB c = true
      · rw [if_pos hl, es]
        simp [hl]
      · rw [if_neg hl, if_neg hc]
        simp [hl]
theorem scan_parts (l : List UInt8) : scanN l false = (Lib.split l [46]).all partOk := by
  obtain ⟨h, t, e, es⟩ := scan_split l false
  rw [es, e]
  simp [partOk]

/-! Rows of texts: their weight, their copy, their sameness. -/
theorem rdS (xs : List ByteArray) (i : Nat) (h : i < xs.length) : rdOf ByteArray.empty xs (i : Int) = xs[i] := by
  simp [rdOf, List.getD_eq_getElem?_getD, List.getElem?_eq_getElem h]
def wtS (l : List ByteArray) : Nat := (l.map ByteArray.size).sum
theorem wtS_mem : ∀ (l : List ByteArray) (s : ByteArray), s ∈ l → s.size ≤ wtS l
  | [], _, h => by cases h
  | x :: l, s, h => by
    unfold wtS
    rw [List.map_cons, List.sum_cons]
    rcases List.mem_cons.1 h with rfl | h
    · omega
    · have := wtS_mem l s h
      unfold wtS at this
      omega
theorem sz_strs (l : List ByteArray) (hl : l.length ≤ 9223372036854775807) (hw : ∀ s ∈ l, s.size ≤ 9223372036854775807) (b : Int) (h0 : 0 ≤ b) (h1 : b ≤ 1048576) : Ev (fun k => laws_szStringS.f k l b) (lessV b (l.length + wtS l)) := by
  have loop : ∀ (d i : Nat) (b : Int), i + d = l.length → 0 ≤ b → b ≤ 1048576 → Ev (fun k => laws_szStringS.l0 k l b (i : Int)) (lessV b (wtS (l.drop i))) := by
    intro d
    induction d with
    | zero =>
      intro i b hi h0 h1
      refine Ev.step (fun k => by rw [laws_szStringS.l0]) (ev_neg (by omega) ?_)
      rw [List.drop_eq_nil_of_le (by omega)]
      rw [show lessV b (wtS []) = b by rw [lessV_yes _ _ (by simpa [wtS] using h0)]; simp [wtS]]
      exact Ev.now _
    | succ d ih =>
      intro i b hi h0 h1
      have hlt : i < l.length := by omega
      have hs := hw _ (List.getElem_mem hlt)
      refine Ev.step (fun k => by rw [laws_szStringS.l0]) (ev_pos (by omega) (ev_pos (by omega) ?_))
      rw [rdS l i hlt, w64 (n := b - (l[i].size : Int)) (by omega) (by omega)]
      have e : wtS (l.drop i) = l[i].size + wtS (l.drop (i + 1)) := by
        rw [List.drop_eq_getElem_cons hlt]
        rfl
      rw [e]
      by_cases hc : (l[i].size : Int) ≤ b
      · rw [← lessV_add _ _ _ hc]
        refine ev_neg (by omega) ?_
        rw [show wrap64 ((i : Int) + 1) = ((i + 1 : Nat) : Int) by rw [w64 (by omega) (by omega)]; omega]
        exact ih (i + 1) _ (by omega) (by omega) (by omega)
      · rw [lessV_no _ _ (by omega)]
        exact ev_pos (by omega) (Ev.now _)
  simp only [laws_szStringS.f]
  rw [w64 (n := b - (l.length : Int)) (by omega) (by omega)]
  by_cases hc : (l.length : Int) ≤ b
  · refine ev_neg (by omega) ?_
    rw [← lessV_add _ _ _ hc]
    have := loop l.length 0 (b - l.length) (by omega) (by omega) (by omega)
    rwa [List.drop_zero] at this
  · rw [lessV_no _ _ (by omega)]
    exact ev_pos (by omega) (Ev.now _)
theorem set_str (l : List ByteArray) (i : Nat) (t : ByteArray) (tl : List ByteArray) (h : i < l.length) : (l.take i ++ t :: tl).set i l[i] = l.take (i + 1) ++ tl := by
  have hl : (l.take i).length = i := by rw [List.length_take]; omega
  rw [List.set_append_right _ _ (by omega), hl, Nat.sub_self, List.set_cons_zero, List.take_succ_eq_append_getElem h, List.append_assoc]
  rfl
theorem tostr (l : List ByteArray) (hl : l.length ≤ 1048576) : Ev (fun k => laws_toStringS.f k l) l := by
  have loop : ∀ (d i : Nat) (tl : List ByteArray), tl.length = d → i + d = l.length → Ev (fun k => laws_toStringS.l0 k l (l.take i ++ tl) (i : Int)) l := by
    intro d
    induction d with
    | zero =>
      intro i tl ht hi
      obtain rfl : tl = [] := List.eq_nil_of_length_eq_zero ht
      refine Ev.step (fun k => by rw [laws_toStringS.l0]) ?_
      refine ev_neg (by omega) ?_
      rw [List.append_nil, List.take_of_length_le (by omega)]
      exact Ev.now _
    | succ d ih =>
      intro i tl ht hi
      obtain ⟨t, tl, rfl⟩ : ∃ t tl', tl = t :: tl' := by cases tl with | nil => simp at ht | cons t tl => exact ⟨t, tl, rfl⟩
      refine Ev.step (fun k => by rw [laws_toStringS.l0]) ?_
      refine ev_pos (by omega) (ev_pos (by omega) (ev_pos ?_ ?_))
      · simp at ht; simp [List.length_take]; omega
      · rw [show wrap64 ((i : Int) + 1) = ((i + 1 : Nat) : Int) by rw [w64 (by omega) (by omega)]; omega, Int.toNat_natCast, rdS l i (by omega), set_str l i t tl (by omega)]
        exact ih (i + 1) tl (by simpa using ht) (by omega)
  simp only [laws_toStringS.f]
  refine ev_pos (by omega) (ev_pos (by omega) ?_)
  have := loop l.length 0 (List.replicate l.length ⟨#[]⟩) (by simp) (by omega)
  simpa using this
theorem eqstr (l : List ByteArray) (hl : l.length ≤ 1048576) : Ev (fun k => laws_eqStringS.f k l l) true := by
  have loop : ∀ (d i : Nat), i + d = l.length → Ev (fun k => laws_eqStringS.l0 k l l (i : Int)) true := by
    intro d
    induction d with
    | zero =>
      intro i hi
      exact Ev.step (fun k => by rw [laws_eqStringS.l0]) (ev_neg (by omega) (Ev.now _))
    | succ d ih =>
      intro i hi
      refine Ev.step (fun k => by rw [laws_eqStringS.l0]) ?_
      refine ev_pos (by omega) (ev_pos (by omega) (ev_pos (by omega) (ev_pos rfl ?_)))
      rw [show wrap64 ((i : Int) + 1) = ((i + 1 : Nat) : Int) by rw [w64 (by omega) (by omega)]; omega]
      exact ih (i + 1) (by omega)
  simp only [laws_eqStringS.f]
  exact ev_pos trivial (loop l.length 0 (by omega))

/-! What is a right name: both sides answer by the same word. -/
def nameV (s : ByteArray) : Bool := decide (s.size ≤ 20) && scanN s.data.toList false
theorem bt_at (s : ByteArray) (i : Nat) (h : i < s.size) : ∃ c : UInt8, bt s (i : Int) = (c.toNat : Int) ∧ s.data.toList.drop i = c :: s.data.toList.drop (i + 1) := by
  have h' : i < s.data.toList.length := by rw [Array.length_toList]; exact h
  refine ⟨s.data.toList[i], ?_, List.drop_eq_getElem_cons h'⟩
  unfold bt
  rw [dif_pos (by simpa using h)]
  rfl
theorem low_bt (c : UInt8) : lowB c = (decide ((c.toNat : Int) ≥ 97) && decide ((c.toNat : Int) ≤ 122)) := by
  unfold lowB
  congr 1 <;> rw [decide_eq_decide] <;> omega
theorem dot_bt (c : UInt8) : ((c.toNat : Int) = 46) ↔ c = 46 := by
  constructor
  · intro h
    have h2 : c.toNat = (46 : UInt8).toNat := by
      show c.toNat = 46
      omega
    exact UInt8.toNat_inj.1 h2
  · intro h
    subst h
    rfl
theorem spec_name (s : ByteArray) (hs : s.size ≤ 1048576) : Ev (fun k => spec_NameOk.f k s) (nameV s) := by
  have loop : ∀ (d i p : Nat), i + d = s.size → p ≤ i → Ev (fun k => spec_NameOk.l0 k s (p : Int) (i : Int)) (scanN (s.data.toList.drop i) (decide (0 < p)) && decide (1 ≤ s.size ∧ s.size ≤ 20)) := by
    intro d
    induction d with
    | zero =>
      intro i p hi hp
      refine Ev.step (fun k => by rw [spec_NameOk.l0]) (ev_neg (by omega) ?_)
      rw [List.drop_eq_nil_of_le (by rw [Array.length_toList]; show s.size ≤ i; omega), scanN]
      by_cases h1 : 1 ≤ s.size
      · by_cases h2 : s.size ≤ 20
        · refine Ev.bind (g := fun _ => spec_l01In.f (s.size : Int) 1 20) (a := true) (by unfold spec_l01In.f; rw [if_pos (by omega), decide_eq_true (by omega)]; exact Ev.now _) (ev_pos rfl ?_)
          rw [decide_eq_true (show 1 ≤ s.size ∧ s.size ≤ 20 from ⟨h1, h2⟩), Bool.and_true, show decide (0 < p) = decide ((p : Int) > 0) by rw [decide_eq_decide]; omega]
          exact Ev.now _
        · refine Ev.bind (g := fun _ => spec_l01In.f (s.size : Int) 1 20) (a := false) (by unfold spec_l01In.f; rw [if_pos (by omega), decide_eq_false (by omega)]; exact Ev.now _) (ev_neg Bool.false_ne_true ?_)
          rw [decide_eq_false (show ¬ (1 ≤ s.size ∧ s.size ≤ 20) from fun h => h2 h.2), Bool.and_false]
          exact Ev.now _
      · refine Ev.bind (g := fun _ => spec_l01In.f (s.size : Int) 1 20) (a := false) (by unfold spec_l01In.f; rw [if_neg (by omega)]; exact Ev.now _) (ev_neg Bool.false_ne_true ?_)
        rw [decide_eq_false (show ¬ (1 ≤ s.size ∧ s.size ≤ 20) from fun h => h1 h.1), Bool.and_false]
        exact Ev.now _
    | succ d ih =>
      intro i p hi hp
      obtain ⟨c, hb, hd⟩ := bt_at s i (by omega)
      have ei : wrap64 ((i : Int) + 1) = ((i + 1 : Nat) : Int) := by rw [w64 (by omega) (by omega)]; omega
      have ep : wrap64 ((p : Int) + 1) = ((p + 1 : Nat) : Int) := by rw [w64 (by omega) (by omega)]; omega
      have i1 := ih (i + 1) (p + 1) (by omega) (by omega)
      have i0 := ih (i + 1) 0 (by omega) (by omega)
      rw [decide_eq_true (show 0 < p + 1 by omega)] at i1
      rw [decide_eq_false (show ¬ 0 < 0 by omega)] at i0
      have j : Ev (fun k => spec_NameOk.j1 k s (p : Int) (i : Int) (lowB c)) (scanN (s.data.toList.drop i) (decide (0 < p)) && decide (1 ≤ s.size ∧ s.size ≤ 20)) := by
        refine Ev.step (fun k => by rw [spec_NameOk.j1]) ?_
        rw [hd, scanN, ei, ep, hb]
        by_cases hl : lowB c = true
        · rw [if_pos hl]
          exact ev_pos hl i1
        · rw [if_neg hl]
          refine ev_neg hl (ev_pos (by omega) (ev_pos (by omega) ?_))
          by_cases hc : c = 46
          · rw [if_pos hc]
            refine ev_pos ((dot_bt c).2 hc) ?_
            by_cases hp0 : 0 < p
            · rw [decide_eq_true hp0, if_pos rfl]
              exact ev_pos (by omega) i0
            · rw [decide_eq_false hp0, if_neg Bool.false_ne_true, Bool.false_and]
              exact ev_neg (by omega) (Ev.now _)
          · rw [if_neg hc, Bool.false_and]
            exact ev_neg (fun h => hc ((dot_bt c).1 h)) (Ev.now _)
      refine Ev.step (fun k => by rw [spec_NameOk.l0]) (ev_pos (by omega) (ev_pos (by omega) ?_))
      rw [hb]
      rw [low_bt] at j
      by_cases h97 : (c.toNat : Int) ≥ 97
      · refine ev_pos h97 ?_
        rwa [decide_eq_true h97, Bool.true_and] at j
      · refine ev_neg h97 ?_
        rwa [decide_eq_false h97, Bool.false_and] at j
  have h := loop s.size 0 0 (by omega) (by omega)
  simp only [spec_NameOk.f]
  have e : (scanN (s.data.toList.drop 0) (decide (0 < 0)) && decide (1 ≤ s.size ∧ s.size ≤ 20)) = nameV s := by
    unfold nameV
    rw [List.drop_zero, decide_eq_false (show ¬ 0 < 0 by omega)]
    by_cases h1 : 1 ≤ s.size
    · rw [Bool.and_comm]
      congr 1
      rw [decide_eq_decide]
      omega
    · have hn : s.data.toList = [] := List.eq_nil_of_length_eq_zero (by rw [Array.length_toList]; show s.size = 0; omega)
      rw [hn]
      simp [scanN]
  rwa [e] at h
theorem bytes_low (s : ByteArray) (hs : s.size ≤ 1048576) : Ev (fun k => impl_bytesIn.f k s 97 122) (s.data.toList.all lowB) := by
  have loop : ∀ (d i : Nat), i + d = s.size → Ev (fun k => impl_bytesIn.l0 k s 97 122 (i : Int)) ((s.data.toList.drop i).all lowB) := by
    intro d
    induction d with
    | zero =>
      intro i hi
      refine Ev.step (fun k => by rw [impl_bytesIn.l0]) (ev_neg (by omega) ?_)
      rw [List.drop_eq_nil_of_le (by rw [Array.length_toList]; show s.size ≤ i; omega)]
      exact Ev.now _
    | succ d ih =>
      intro i hi
      obtain ⟨c, hb, hd⟩ := bt_at s i (by omega)
      have hc := c.toNat_lt
      refine Ev.step (fun k => by rw [impl_bytesIn.l0]) (ev_pos (by omega) (ev_pos (by omega) ?_))
      rw [hb, w64 (n := (c.toNat : Int)) (by omega) (by omega), hd, List.all_cons]
      refine Ev.bind (g := fun _ => impl_within.f (c.toNat : Int) 97 122) (a := lowB c) ?_ ?_
      · rw [low_bt]
        unfold impl_within.f
        by_cases h : (c.toNat : Int) ≥ 97
        · rw [if_pos h, decide_eq_true h, Bool.true_and]; exact Ev.now _
        · rw [if_neg h, decide_eq_false h, Bool.false_and]; exact Ev.now _
      · cases lowB c with
        | true =>
          rw [Bool.true_and, show wrap64 ((i : Int) + 1) = ((i + 1 : Nat) : Int) by rw [w64 (by omega) (by omega)]; omega]
          exact ev_pos rfl (ih (i + 1) (by omega))
        | false => exact ev_neg Bool.false_ne_true (Ev.now _)
  have h := loop s.size 0 (by omega)
  rwa [List.drop_zero] at h
theorem split_size (sep : ByteArray) : ∀ (k : Nat) (s p : ByteArray), p ∈ Lib.splitB sep 0 k s → p.size ≤ s.size
  | 0, s, p, h => by
    have : p = s := by simpa [Lib.splitB] using h
    rw [this]
    exact Nat.le_refl _
  | k + 1, s, p, h => by
    unfold Lib.splitB at h
    split at h
    · have : p = s := by simpa using h
      rw [this]
      exact Nat.le_refl _
    · rcases List.mem_cons.1 h with h | h
      · rw [h, ByteArray.size_extract]
        omega
      · have h1 := split_size sep k _ p h
        rw [ByteArray.size_extract] at h1
        omega
theorem impl_name (s : ByteArray) (hs : s.size ≤ 1048576) : Ev (fun k => impl_NameOk.f k s) (nameV s) := by
  obtain ⟨ps, hps⟩ : ∃ ps, ps = Lib.splitB ⟨#[46]⟩ 0 (Lib.countB s ⟨#[46]⟩) s := ⟨_, rfl⟩
  have hsz : ∀ p ∈ ps, p.size ≤ 1048576 := fun p hp => by rw [hps] at hp; have := split_size _ _ _ _ hp; omega
  have hmap : ps.map (·.data.toList) = Lib.split s.data.toList [46] := by rw [hps]; exact Lib.splitB_data _ _ _ _
  have hlen : ps.length ≤ 1048577 := by
    have h1 := Lib.countB_le ⟨#[46]⟩ (Nat.le_refl 1) s.size s (Nat.le_refl _)
    have h2 := Lib.splitB_all ⟨#[46]⟩ (Nat.le_refl 1) 0 _ s rfl
    rw [hps, h2]
    omega
  have loop : ∀ (d i : Nat), i + d = ps.length → Ev (fun k => impl_NameOk.l0 k s ps (ps.length : Int) (i : Int)) (((ps.drop i).all fun p => partOk p.data.toList) && decide (s.size ≤ 20)) := by
    intro d
    induction d with
    | zero =>
      intro i hi
      refine Ev.step (fun k => by rw [impl_NameOk.l0]) (ev_neg (by omega) ?_)
      rw [List.drop_eq_nil_of_le (by omega), List.all_nil, Bool.true_and, show decide (s.size ≤ 20) = decide ((s.size : Int) ≤ 20) by rw [decide_eq_decide]; omega]
      exact Ev.now _
    | succ d ih =>
      intro i hi
      have hlt : i < ps.length := by omega
      refine Ev.step (fun k => by rw [impl_NameOk.l0]) (ev_pos (by omega) (ev_pos (by omega) (ev_pos (by omega) ?_)))
      rw [rdS ps i hlt, List.drop_eq_getElem_cons hlt, List.all_cons]
      have hp : ps[i].toList = ps[i].data.toList := ByteArray.toList_eq _
      by_cases hn : ps[i].data.toList = []
      · rw [show partOk ps[i].data.toList = false by unfold partOk; rw [hn]; rfl]
        exact ev_pos (by rw [hp]; exact hn) (Ev.now _)
      · refine ev_neg (by rw [hp]; exact hn) (Ev.bind (bytes_low ps[i] (hsz _ (List.getElem_mem hlt))) ?_)
        rw [show partOk ps[i].data.toList = ps[i].data.toList.all lowB by
          unfold partOk
          cases h : ps[i].data.toList with
          | nil => exact absurd h hn
          | cons c l => rfl]
        cases ps[i].data.toList.all lowB with
        | true =>
          rw [Bool.true_and, show wrap64 ((i : Int) + 1) = ((i + 1 : Nat) : Int) by rw [w64 (by omega) (by omega)]; omega]
          exact ev_pos rfl (ih (i + 1) (by omega))
        | false => exact ev_neg Bool.false_ne_true (Ev.now _)
  simp only [impl_NameOk.f]
  refine Ev.bind (g := fun _ => strings_Split.f s ⟨#[46]⟩) (a := ps) (by unfold strings_Split.f; rw [if_pos (show (⟨#[46]⟩ : ByteArray).size = 1 from rfl), if_pos (by omega), hps]; exact Ev.now _) ?_
  have h := loop ps.length 0 (by omega)
  have e : (((ps.drop 0).all fun p => partOk p.data.toList) && decide (s.size ≤ 20)) = nameV s := by
    unfold nameV
    rw [List.drop_zero, scan_parts, ← hmap, List.all_map, Bool.and_comm]
    rfl
  rwa [e] at h

theorem names_pair (l : List ByteArray) (hl : l.length ≤ 1048576) (hs : ∀ s ∈ l, s.size ≤ 1048576) : ∃ b, Ev (fun k => spec_NamesOk.f k l) b ∧ Ev (fun k => impl_NamesOk.f k l) b := by
  have loop : ∀ (d i : Nat), i + d = l.length → ∃ b, Ev (fun k => spec_NamesOk.l0 k l (i : Int)) b ∧ Ev (fun k => impl_NamesOk.l0 k l l (l.length : Int) (i : Int)) b := by
    intro d
    induction d with
    | zero =>
      intro i hi
      exact ⟨_, Ev.step (fun k => by rw [spec_NamesOk.l0]) (ev_neg (by omega) (Ev.now _)), Ev.step (fun k => by rw [impl_NamesOk.l0]) (ev_neg (by omega) (Ev.now _))⟩
    | succ d ih =>
      intro i hi
      have hlt : i < l.length := by omega
      have hsz := hs _ (List.getElem_mem hlt)
      have e1 : wrap64 ((i : Int) + 1) = ((i + 1 : Nat) : Int) := by rw [w64 (by omega) (by omega)]; omega
      obtain ⟨b, b1, b2⟩ := ih (i + 1) (by omega)
      cases hv : nameV l[i] with
      | false =>
        refine ⟨false, Ev.step (fun k => by rw [spec_NamesOk.l0]) (ev_pos (by omega) (ev_pos (by omega) ?_)), Ev.step (fun k => by rw [impl_NamesOk.l0]) (ev_pos (by omega) (ev_pos (by omega) (ev_pos (by omega) ?_)))⟩
        · rw [rdS l i hlt]
          refine Ev.bind (spec_name l[i] hsz) ?_
          rw [hv]
          exact ev_neg Bool.false_ne_true (Ev.now _)
        · rw [rdS l i hlt]
          refine Ev.bind (impl_name l[i] hsz) ?_
          rw [hv]
          exact ev_neg Bool.false_ne_true (Ev.now _)
      | true =>
        by_cases h0 : (i : Int) > 0
        · have e2 : wrap64 ((i : Int) - 1) = ((i - 1 : Nat) : Int) := by rw [w64 (by omega) (by omega)]; omega
          have hlt2 : i - 1 < l.length := by omega
          by_cases hc : (Op.bytesLess (l[i - 1].toList) (l[i].toList)) = true
          · refine ⟨b, Ev.step (fun k => by rw [spec_NamesOk.l0]) (ev_pos (by omega) (ev_pos (by omega) ?_)), Ev.step (fun k => by rw [impl_NamesOk.l0]) (ev_pos (by omega) (ev_pos (by omega) (ev_pos (by omega) ?_)))⟩
            · rw [rdS l i hlt, e2, rdS l (i - 1) hlt2, e1]
              refine Ev.bind (spec_name l[i] hsz) ?_
              rw [hv]
              exact ev_pos rfl (ev_pos h0 (ev_pos (by omega) (ev_pos (by omega) (ev_pos hc b1))))
            · rw [rdS l i hlt, e2, rdS l (i - 1) hlt2, e1]
              refine Ev.bind (impl_name l[i] hsz) ?_
              rw [hv]
              exact ev_pos rfl (ev_pos h0 (ev_pos (by omega) (ev_pos (by omega) (ev_pos hc b2))))
          · refine ⟨false, Ev.step (fun k => by rw [spec_NamesOk.l0]) (ev_pos (by omega) (ev_pos (by omega) ?_)), Ev.step (fun k => by rw [impl_NamesOk.l0]) (ev_pos (by omega) (ev_pos (by omega) (ev_pos (by omega) ?_)))⟩
            · rw [rdS l i hlt, e2, rdS l (i - 1) hlt2, e1]
              refine Ev.bind (spec_name l[i] hsz) ?_
              rw [hv]
              exact ev_pos rfl (ev_pos h0 (ev_pos (by omega) (ev_pos (by omega) (ev_neg hc (Ev.now _)))))
            · rw [rdS l i hlt, e2, rdS l (i - 1) hlt2, e1]
              refine Ev.bind (impl_name l[i] hsz) ?_
              rw [hv]
              exact ev_pos rfl (ev_pos h0 (ev_pos (by omega) (ev_pos (by omega) (ev_neg hc (Ev.now _)))))
        · refine ⟨b, Ev.step (fun k => by rw [spec_NamesOk.l0]) (ev_pos (by omega) (ev_pos (by omega) ?_)), Ev.step (fun k => by rw [impl_NamesOk.l0]) (ev_pos (by omega) (ev_pos (by omega) (ev_pos (by omega) ?_)))⟩
          · rw [rdS l i hlt, e1]
            refine Ev.bind (spec_name l[i] hsz) ?_
            rw [hv]
            exact ev_pos rfl (ev_neg h0 b1)
          · rw [rdS l i hlt, e1]
            refine Ev.bind (impl_name l[i] hsz) ?_
            rw [hv]
            exact ev_pos rfl (ev_neg h0 b2)
  obtain ⟨b, b1, b2⟩ := loop l.length 0 (by omega)
  exact ⟨b, b1, b2⟩

theorem FnExactNamesOk : laws_FnExactNamesOk.Pure := by
  intro l hl hw
  refine Ev.rounds (g := fun k => laws_FnExactNamesOk.f k l) ?_
  simp only [laws_FnExactNamesOk.f]
  refine Ev.bind (sz_strs l hl hw 1048576 (by omega) (by omega)) ?_
  by_cases hb : ((l.length + wtS l : Nat) : Int) ≤ 1048576
  · rw [lessV_yes _ _ hb]
    have t := tostr l (by omega)
    obtain ⟨b, b1, b2⟩ := names_pair l (by omega) (fun s hs => by have := wtS_mem l s hs; omega)
    refine ev_neg (by omega) (Ev.bind t (Ev.bind b1 (Ev.bind t (Ev.bind b2 (ev_neg (by simp) (Ev.bind t (Ev.bind (eqstr l (by omega)) (ev_pos rfl (Ev.now _)))))))))
  · rw [lessV_no _ _ hb]
    exact ev_pos (by omega) (Ev.now _)

end Go.Proofs.YtkhmcioeceiepaaDoor.Pure
