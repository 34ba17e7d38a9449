/- The law FnItems answers true for every input: drawn right items come back from their bytes; drawn bytes that are one are the bytes of it; with a byte more or less they are none. -/
import Derived.Test.YtknalcnbkbkjdaaVGFnItemsx13
import Derived.Test.YtknalcnbkbkjdaaVWSized
set_option linter.unusedVariables false
set_option linter.unusedSimpArgs false
namespace Go.Proofs.Ytknalcnbkbkjdaa.Pure
open Go.RowKit Go.Proofs.Ytknalcnbkbkjdaa.GFnItems Go.Proofs.YtknalcnbkbkjdaaW.PrintWords Go.Proofs.YtknalcnbkbkjdaaW.PrintLast

theorem w64 {n : Int} (h0 : -9223372036854775808 ≤ n) (h1 : n ≤ 9223372036854775807) : wrap64 n = n := by unfold wrap64; omega
theorem ev_pos {α : Type} {c : Prop} [Decidable c] {f g : Nat → Option α} {r : α} (h : c) (k : Ev f r) : Ev (fun n => if c then f n else g n) r := by
  simpa only [if_pos h] using k
theorem ev_neg {α : Type} {c : Prop} [Decidable c] {f g : Nat → Option α} {r : α} (h : ¬ c) (k : Ev g r) : Ev (fun n => if c then f n else g n) r := by
  simpa only [if_neg h] using k
theorem tdivN (n m : Nat) : Int.tdiv (n : Int) (m : Int) = ((n / m : Nat) : Int) := rfl
theorem tmodN (n m : Nat) : Int.tmod (n : Int) (m : Int) = ((n % m : Nat) : Int) := rfl
theorem tmod_pos' {n m : Int} (h : 0 ≤ n) : Int.tmod n m = n % m := Int.tmod_eq_emod_of_nonneg h
theorem nums_toList (l : List Int) : (strOfNums l).toList = l.map fun n => UInt8.ofNat n.toNat := by rw [ByteArray.toList_eq, strOfNums_data]

def bN (s : ByteArray) : List Nat := s.data.toList.map UInt8.toNat
theorem bN_len (s : ByteArray) : (bN s).length = s.size := by rw [bN, List.length_map, Array.length_toList]; rfl
theorem bN_lt (s : ByteArray) : ∀ b ∈ bN s, b < 256 := by
  intro b hb
  obtain ⟨c, _, rfl⟩ := List.mem_map.1 hb
  exact c.toNat_lt
theorem bt_bN (s : ByteArray) (i : Nat) : bt s i = ((bN s).getD i 0 : Nat) := by
  unfold bt bN
  split
  · rename_i h
    have h' : i < s.data.toList.length := by rw [Array.length_toList]; exact h
    simp [List.getD_eq_getElem?_getD, List.getElem?_eq_getElem h']
    rfl
  · rename_i h
    have h' : s.data.toList.length ≤ i := by rw [Array.length_toList]; simpa using h
    simp [List.getD_eq_getElem?_getD, List.getElem?_eq_none h']
theorem str_append (l m : List Int) : strOfNums l ++ strOfNums m = strOfNums (l ++ m) := by
  apply ByteArray.ext
  rw [ByteArray.data_append]
  unfold strOfNums
  simp
theorem str_toList_nil (l : List Int) : (strOfNums l).toList = [] ↔ l = [] := by rw [nums_toList]; simp
theorem bt_str (l : List Int) (h : ∀ x ∈ l, 0 ≤ x ∧ x < 256) : bt (strOfNums l) 0 = l.getD 0 0 := by
  cases l with
  | nil => simp [bt, strOfNums, ByteArray.size]
  | cons x l =>
    have hx := h x (by simp)
    have e : bt (strOfNums (x :: l)) ((0 : Nat) : Int) = ((bN (strOfNums (x :: l))).getD 0 0 : Nat) := bt_bN _ 0
    have e2 : bN (strOfNums (x :: l)) = (x :: l).map fun n => (UInt8.ofNat n.toNat).toNat := by
      unfold bN
      rw [strOfNums_data, List.map_map]
      rfl
    rw [show bt (strOfNums (x :: l)) 0 = bt (strOfNums (x :: l)) ((0 : Nat) : Int) from rfl, e, e2]
    simp
    omega
def be (n : Nat) : List Int := if 0 < n then be (n / 256) ++ [((n % 256 : Nat) : Int)] else []
termination_by n
decreasing_by omega
theorem be_rng (n : Nat) : ∀ x ∈ be n, 0 ≤ x ∧ x < 256 := by
  induction n using Nat.strongRecOn with
  | _ n ih =>
    intro x hx
    rw [be] at hx
    split at hx
    · rcases List.mem_append.1 hx with h | h
      · exact ih (n / 256) (by omega) x h
      · simp at h; omega
    · simp at hx
theorem be_pos (n : Nat) (h : 0 < n) : be n ≠ [] := by rw [be, if_pos h]; simp
/-- The bytes of IntItem. -/
def intB (n : Nat) : List Int := if n = 0 then [0] else be n
def intL (n : Nat) : List Int := if 128 ≤ (intB n).getD 0 0 then 0 :: intB n else intB n
def intN (a : Int) : Nat := if 0 ≤ a ∧ a ≤ 1000000000 then a.toNat else 0
def intV (a : Int) : Int × ByteArray × List S26 := (2, strOfNums (intL (intN a)), [])

/-! The little trees. -/
theorem rdL (xs : List S26) (i : Nat) (h : i < xs.length) : rd_T26 xs (i : Int) = xs[i] := by
  simp [rd_T26, List.getD_eq_getElem?_getD, List.getElem?_eq_getElem h]
theorem le_sum {α : Type} (f : α → Nat) : ∀ (l : List α) (y : α), y ∈ l → f y ≤ (l.map f).sum
  | [], _, h => by cases h
  | x :: l, y, h => by
    rcases List.mem_cons.1 h with rfl | h
    · simp
    · have := le_sum f l y h
      simp; omega
theorem etaL (x : S26) : (⟨x.f0, x.f1, x.f2⟩ : S26) = x := by cases x; rfl
def WL : Nat → S26 → Prop
  | 0, _ => False
  | n + 1, x => x.f1.size ≤ 1048576 ∧ x.f2.length ≤ 1048576 ∧ ∀ y ∈ x.f2, WL n y
theorem WL_up1 : ∀ (n : Nat) (x : S26), WL n x → WL (n + 1) x
  | 0, _, h => h.elim
  | n + 1, _, ⟨h1, h2, h3⟩ => ⟨h1, h2, fun y hy => WL_up1 n y (h3 y hy)⟩
theorem WL_flat (n : Nat) (a : Int) (s : ByteArray) (h : s.size ≤ 1048576) : WL (n + 1) (⟨a, s, []⟩ : S26) := ⟨h, by simp, fun y hy => by simp at hy⟩

/-! What is a right item: both sides answer by the same word. -/
def plainV (x : S26) : Bool :=
  if x.f0 = 1 then (if x.f1.toList = ([0] : List UInt8) then true else x.f1.toList == ([255] : List UInt8))
  else if x.f0 = 2 then (decide (1 ≤ x.f1.size ∧ x.f1.size ≤ 5 ∧ bt x.f1 0 < 128) && (decide (bt x.f1 0 ≠ 0 ∨ x.f1.size = 1) || decide (bt x.f1 1 ≥ 128)))
  else if x.f0 = 12 then (bN x.f1).all (fun b => decide (32 ≤ b ∧ b ≤ 126))
  else x.f0 == 4
def okV : Nat → S26 → Int → Bool
  | 0, _, _ => false
  | n + 1, x, d => if x.f0 = 48 then (if x.f1.toList = ([] : List UInt8) ∧ x.f2.length ≤ 40 ∧ d < 6 then x.f2.all (fun y => okV n y (d + 1)) else false) else (if x.f2.length = 0 then plainV x else false)
theorem three_no (s : ByteArray) (h : ¬ bt s 0 < 128) : decide (1 ≤ s.size ∧ s.size ≤ 5 ∧ bt s 0 < 128) = false := decide_eq_false (fun q => h q.2.2)
theorem three_yes (s : ByteArray) (h1 : 1 ≤ s.size) (h2 : s.size ≤ 5) (h : bt s 0 < 128) : decide (1 ≤ s.size ∧ s.size ≤ 5 ∧ bt s 0 < 128) = true := decide_eq_true ⟨h1, h2, h⟩
theorem or_no (s : ByteArray) (h1 : bt s 0 = 0) (h : s.size ≠ 1) : decide (bt s 0 ≠ 0 ∨ s.size = 1) = false := decide_eq_false (fun q => q.elim (fun x => x h1) h)
theorem two_ev {g : Nat → Option Bool} (s : ByteArray) (yes : 1 ≤ s.size → s.size ≤ 5 → Ev g (decide (1 ≤ s.size ∧ s.size ≤ 5 ∧ bt s 0 < 128) && (decide (bt s 0 ≠ 0 ∨ s.size = 1) || decide (bt s 1 ≥ 128)))) :
    Ev (fun k => (if (s.size : Int) ≥ 1 then some (decide ((s.size : Int) ≤ 5)) else some false).bind fun t => if t = true then g k else some false) (decide (1 ≤ s.size ∧ s.size ≤ 5 ∧ bt s 0 < 128) && (decide (bt s 0 ≠ 0 ∨ s.size = 1) || decide (bt s 1 ≥ 128))) := by
  by_cases h1 : 1 ≤ s.size
  · by_cases h5 : s.size ≤ 5
    · refine Ev.bind (g := fun _ => if (s.size : Int) ≥ 1 then some (decide ((s.size : Int) ≤ 5)) else some false) (a := true) (by rw [if_pos (by omega), decide_eq_true (by omega)]; exact Ev.now _) (ev_pos rfl (yes h1 h5))
    · refine Ev.bind (g := fun _ => if (s.size : Int) ≥ 1 then some (decide ((s.size : Int) ≤ 5)) else some false) (a := false) (by rw [if_pos (by omega), decide_eq_false (by omega)]; exact Ev.now _) (ev_neg Bool.false_ne_true ?_)
      rw [decide_eq_false (fun h => h5 h.2.1), Bool.false_and]
      exact Ev.now _
  · refine Ev.bind (g := fun _ => if (s.size : Int) ≥ 1 then some (decide ((s.size : Int) ≤ 5)) else some false) (a := false) (by rw [if_neg (by omega)]; exact Ev.now _) (ev_neg Bool.false_ne_true ?_)
    rw [decide_eq_false (fun h => h1 h.1), Bool.false_and]
    exact Ev.now _
theorem drop_b (s : ByteArray) (i : Nat) (h : i < s.size) : ∃ b : Nat, b < 256 ∧ bt s i = (b : Int) ∧ (bN s).drop i = b :: (bN s).drop (i + 1) := by
  have h' : i < (bN s).length := by rw [bN_len]; exact h
  refine ⟨(bN s)[i], bN_lt s _ (List.getElem_mem h'), ?_, List.drop_eq_getElem_cons h'⟩
  rw [bt_bN, List.getD_eq_getElem?_getD, List.getElem?_eq_getElem h']
  rfl

theorem spec_plain (x : S26) (hs : x.f1.size ≤ 1048576) : Ev (fun k => spec_l07Plain.f k x.f0 x.f1 x.f2) (plainV x) := by
  have loop : ∀ (d i : Nat), i + d = x.f1.size → Ev (fun k => spec_l07Plain.l0 k (i : Int) x.f0 x.f1 x.f2) (((bN x.f1).drop i).all (fun b => decide (32 ≤ b ∧ b ≤ 126))) := by
    intro d
    induction d with
    | zero =>
      intro i hi
      refine Ev.step (fun k => by rw [spec_l07Plain.l0]) (ev_neg (by omega) ?_)
      rw [List.drop_eq_nil_of_le (by rw [bN_len]; omega)]
      exact Ev.now _
    | succ d ih =>
      intro i hi
      obtain ⟨b, _, e, ed⟩ := drop_b x.f1 i (by omega)
      refine Ev.step (fun k => by rw [spec_l07Plain.l0]) (ev_pos (by omega) (ev_pos (by omega) ?_))
      rw [e, ed, List.all_cons]
      by_cases h0 : b < 32
      · rw [decide_eq_false (by omega), Bool.false_and]
        exact ev_pos (by omega) (Ev.now _)
      refine ev_neg (by omega) ?_
      by_cases h1 : 126 < b
      · rw [decide_eq_false (by omega), Bool.false_and]
        exact ev_pos (by omega) (Ev.now _)
      refine ev_neg (by omega) ?_
      rw [decide_eq_true (by omega), Bool.true_and]
      rw [show wrap64 ((i : Int) + 1) = ((i + 1 : Nat) : Int) by rw [w64 (by omega) (by omega)]; omega]
      exact ih (i + 1) (by omega)
  simp only [spec_l07Plain.f, spec_l01In.f]
  unfold plainV
  by_cases c1 : x.f0 = 1
  · refine ev_pos c1 ?_
    rw [if_pos c1]
    by_cases e : x.f1.toList = ([0] : List UInt8)
    · refine ev_pos e ?_
      rw [if_pos e]
      exact Ev.now _
    · refine ev_neg e ?_
      rw [if_neg e]
      exact Ev.now _
  refine ev_neg c1 ?_
  rw [if_neg c1]
  by_cases c2 : x.f0 = 2
  · refine ev_pos c2 ?_
    rw [if_pos c2]
    refine two_ev x.f1 (fun h1 h5 => ?_)
    refine ev_pos (by omega) ?_
    by_cases ha : bt x.f1 0 ≥ 128
    · rw [three_no _ (by omega), Bool.false_and]
      exact ev_pos ha (Ev.now _)
    refine ev_neg ha ?_
    rw [three_yes _ h1 h5 (by omega), Bool.true_and]
    by_cases hz : bt x.f1 0 = 0
    · refine ev_pos hz ?_
      by_cases hn : x.f1.size = 1
      · rw [decide_eq_true (Or.inr hn), Bool.true_or]
        exact ev_pos (by omega) (Ev.now _)
      · rw [or_no _ hz hn, Bool.false_or]
        exact ev_neg (by omega) (ev_pos (by omega) (Ev.now _))
    · rw [decide_eq_true (Or.inl hz), Bool.true_or]
      exact ev_neg hz (Ev.now _)
  refine ev_neg c2 ?_
  rw [if_neg c2]
  by_cases c3 : x.f0 = 12
  · refine ev_pos c3 ?_
    rw [if_pos c3]
    have := loop x.f1.size 0 (by omega)
    rwa [List.drop_zero] at this
  refine ev_neg c3 ?_
  rw [if_neg c3]
  exact Ev.now _
theorem spec_ok : ∀ (n : Nat) (x : S26) (d : Int), WL n x → 0 ≤ d → d ≤ 6 → Ev (fun k => spec_l07Right.f k x.f0 x.f1 x.f2 d) (okV n x d)
  | 0, _, _, h, _, _ => h.elim
  | n + 1, x, d, ⟨hs, hl, hk⟩, d0, d1 => by
    have loop : d < 6 → ∀ (m i : Nat), i + m = x.f2.length → Ev (fun k => spec_l07Right.l0 k d (i : Int) x.f0 x.f1 x.f2) ((x.f2.drop i).all (fun y => okV n y (d + 1))) := by
      intro hd m
      induction m with
      | zero =>
        intro i hi
        refine Ev.step (fun k => by rw [spec_l07Right.l0]) (ev_neg (by omega) ?_)
        rw [List.drop_eq_nil_of_le (by omega)]
        exact Ev.now _
      | succ m ih =>
        intro i hi
        have hlt : i < x.f2.length := by omega
        refine Ev.step (fun k => by rw [spec_l07Right.l0]) (ev_pos (by omega) (ev_pos (by omega) ?_))
        rw [rdL x.f2 i hlt, w64 (n := d + 1) (by omega) (by omega)]
        refine Ev.bind (spec_ok n x.f2[i] (d + 1) (hk _ (List.getElem_mem hlt)) (by omega) (by omega)) ?_
        rw [List.drop_eq_getElem_cons hlt, List.all_cons]
        cases he : okV n x.f2[i] (d + 1) with
        | true =>
          rw [Bool.true_and]
          refine ev_pos rfl ?_
          rw [show wrap64 ((i : Int) + 1) = ((i + 1 : Nat) : Int) by rw [w64 (by omega) (by omega)]; omega]
          exact ih (i + 1) (by omega)
        | false =>
          rw [Bool.false_and]
          exact ev_neg Bool.false_ne_true (Ev.now _)
    have no : Ev (fun k => spec_l07Right.j0 k d true x.f0 x.f1 x.f2) false := by
      refine Ev.step (fun k => by rw [spec_l07Right.j0]) ?_
      exact ev_pos rfl (Ev.now _)
    refine Ev.step (fun k => by rw [spec_l07Right.f]) ?_
    show Ev _ (if x.f0 = 48 then (if x.f1.toList = ([] : List UInt8) ∧ x.f2.length ≤ 40 ∧ d < 6 then x.f2.all (fun y => okV n y (d + 1)) else false) else (if x.f2.length = 0 then plainV x else false))
    by_cases c : x.f0 = 48
    · refine ev_pos c ?_
      rw [if_pos c]
      by_cases c1 : x.f1.toList = ([] : List UInt8)
      · refine ev_pos c1 ?_
        by_cases c2 : x.f2.length ≤ 40
        · refine ev_neg (by omega) ?_
          by_cases c3 : d < 6
          · rw [if_pos ⟨c1, c2, c3⟩, decide_eq_false (by omega)]
            refine Ev.step (fun k => by rw [spec_l07Right.j0]) ?_
            refine ev_neg Bool.false_ne_true ?_
            have := loop c3 x.f2.length 0 (by omega)
            rwa [List.drop_zero] at this
          · rw [if_neg (fun h => c3 h.2.2), decide_eq_true (by omega)]
            exact no
        · rw [if_neg (fun h => c2 h.2.1)]
          exact ev_pos (by omega) no
      · rw [if_neg (fun h => c1 h.1)]
        exact ev_neg c1 no
    · refine ev_neg c ?_
      rw [if_neg c]
      by_cases c1 : x.f2.length = 0
      · rw [if_pos c1]
        exact ev_pos (by omega) (Ev.bind (spec_plain x hs) (Ev.now _))
      · rw [if_neg c1]
        exact ev_neg (by omega) (Ev.now _)

theorem bytes_in (s : ByteArray) (hs : s.size ≤ 1048576) : Ev (fun k => impl_bytesIn.f k s 32 126) ((bN s).all (fun b => decide (32 ≤ b ∧ b ≤ 126))) := by
  have loop : ∀ (d i : Nat), i + d = s.size → Ev (fun k => impl_bytesIn.l0 k s 32 126 (i : Int)) (((bN s).drop i).all (fun b => decide (32 ≤ b ∧ b ≤ 126))) := by
    intro d
    induction d with
    | zero =>
      intro i hi
      refine Ev.step (fun k => by rw [impl_bytesIn.l0]) (ev_neg (by omega) ?_)
      rw [List.drop_eq_nil_of_le (by rw [bN_len]; omega)]
      exact Ev.now _
    | succ d ih =>
      intro i hi
      obtain ⟨b, hb, e, ed⟩ := drop_b s i (by omega)
      refine Ev.step (fun k => by rw [impl_bytesIn.l0]) (ev_pos (by omega) (ev_pos (by omega) ?_))
      rw [e, ed, List.all_cons, w64 (n := (b : Int)) (by omega) (by omega)]
      have hw : Ev (fun _ => impl_within.f (b : Int) 32 126) (decide (32 ≤ b ∧ b ≤ 126)) := by
        simp only [impl_within.f]
        by_cases h0 : 32 ≤ b
        · refine ev_pos (by omega) ?_
          rw [show decide ((b : Int) ≤ 126) = decide (32 ≤ b ∧ b ≤ 126) from decide_eq_decide.2 (by omega)]
          exact Ev.now _
        · rw [show decide (32 ≤ b ∧ b ≤ 126) = false from decide_eq_false (by omega)]
          exact ev_neg (by omega) (Ev.now _)
      refine Ev.bind hw ?_
      by_cases h : 32 ≤ b ∧ b ≤ 126
      · rw [decide_eq_true h, Bool.true_and]
        refine ev_pos rfl ?_
        rw [show wrap64 ((i : Int) + 1) = ((i + 1 : Nat) : Int) by rw [w64 (by omega) (by omega)]; omega]
        exact ih (i + 1) (by omega)
      · rw [decide_eq_false h, Bool.false_and]
        exact ev_neg Bool.false_ne_true (Ev.now _)
  simp only [impl_bytesIn.f]
  have := loop s.size 0 (by omega)
  rwa [List.drop_zero] at this
theorem impl_ok : ∀ (n : Nat) (x : S26) (d : Int), WL n x → 0 ≤ d → d ≤ 6 → Ev (fun k => impl_itemOk.f k x.f0 x.f1 x.f2 d) (okV n x d)
  | 0, _, _, h, _, _ => h.elim
  | n + 1, x, d, ⟨hs, hl, hk⟩, d0, d1 => by
    have loop : d < 6 → ∀ (m i : Nat), i + m = x.f2.length → Ev (fun k => impl_itemOk.l0 k d x.f2 (x.f2.length : Int) (i : Int)) ((x.f2.drop i).all (fun y => okV n y (d + 1))) := by
      intro hd m
      induction m with
      | zero =>
        intro i hi
        refine Ev.step (fun k => by rw [impl_itemOk.l0]) (ev_neg (by omega) ?_)
        rw [List.drop_eq_nil_of_le (by omega)]
        exact Ev.now _
      | succ m ih =>
        intro i hi
        have hlt : i < x.f2.length := by omega
        refine Ev.step (fun k => by rw [impl_itemOk.l0]) (ev_pos (by omega) (ev_pos (by omega) (ev_pos (by omega) ?_)))
        rw [rdL x.f2 i hlt, w64 (n := d + 1) (by omega) (by omega)]
        refine Ev.bind (impl_ok n x.f2[i] (d + 1) (hk _ (List.getElem_mem hlt)) (by omega) (by omega)) ?_
        rw [List.drop_eq_getElem_cons hlt, List.all_cons]
        cases he : okV n x.f2[i] (d + 1) with
        | true =>
          rw [Bool.true_and]
          refine ev_pos rfl ?_
          rw [show wrap64 ((i : Int) + 1) = ((i + 1 : Nat) : Int) by rw [w64 (by omega) (by omega)]; omega]
          exact ih (i + 1) (by omega)
        | false =>
          rw [Bool.false_and]
          exact ev_neg Bool.false_ne_true (Ev.now _)
    have no : Ev (fun k => impl_itemOk.j0 k d true x.f0 x.f1 x.f2) false := by
      refine Ev.step (fun k => by rw [impl_itemOk.j0]) ?_
      exact ev_pos rfl (Ev.now _)
    refine Ev.step (fun k => by rw [impl_itemOk.f]) ?_
    show Ev _ (if x.f0 = 48 then (if x.f1.toList = ([] : List UInt8) ∧ x.f2.length ≤ 40 ∧ d < 6 then x.f2.all (fun y => okV n y (d + 1)) else false) else (if x.f2.length = 0 then plainV x else false))
    by_cases c : x.f0 = 48
    · refine ev_pos c ?_
      rw [if_pos c]
      by_cases c1 : x.f1.toList = ([] : List UInt8)
      · refine ev_pos c1 ?_
        by_cases c2 : x.f2.length ≤ 40
        · refine ev_neg (by omega) ?_
          by_cases c3 : d < 6
          · rw [if_pos ⟨c1, c2, c3⟩, decide_eq_false (by omega)]
            refine Ev.step (fun k => by rw [impl_itemOk.j0]) ?_
            refine ev_neg Bool.false_ne_true ?_
            have := loop c3 x.f2.length 0 (by omega)
            rwa [List.drop_zero] at this
          · rw [if_neg (fun h => c3 h.2.2), decide_eq_true (by omega)]
            exact no
        · rw [if_neg (fun h => c2 h.2.1)]
          exact ev_pos (by omega) no
      · rw [if_neg (fun h => c1 h.1)]
        exact ev_neg c1 no
    · refine ev_neg c ?_
      rw [if_neg c]
      by_cases c1 : x.f2.length = 0
      · rw [if_pos c1]
        refine ev_neg (by omega) ?_
        unfold plainV
        by_cases t1 : x.f0 = 1
        · refine ev_pos t1 ?_
          rw [if_pos t1]
          by_cases e : x.f1.toList = ([0] : List UInt8)
          · refine ev_pos e ?_
            rw [if_pos e]
            exact Ev.now _
          · refine ev_neg e ?_
            rw [if_neg e]
            exact Ev.now _
        refine ev_neg t1 ?_
        rw [if_neg t1]
        by_cases t2 : x.f0 = 2
        · refine ev_pos t2 ?_
          rw [if_pos t2]
          simp only [impl_within.f]
          refine two_ev x.f1 (fun h1 h5 => ?_)
          refine ev_pos (by omega) ?_
          by_cases ha : bt x.f1 0 < 128
          · refine ev_pos ha ?_
            rw [three_yes _ h1 h5 ha, Bool.true_and]
            by_cases hz : bt x.f1 0 = 0
            · refine ev_pos hz ?_
              by_cases hn : x.f1.size = 1
              · rw [decide_eq_true (Or.inr hn), Bool.true_or]
                exact ev_pos (by omega) (Ev.now _)
              · rw [or_no _ hz hn, Bool.false_or]
                exact ev_neg (by omega) (ev_pos (by omega) (Ev.now _))
            · rw [decide_eq_true (Or.inl hz), Bool.true_or]
              exact ev_neg hz (Ev.now _)
          · rw [three_no _ ha, Bool.false_and]
            exact ev_neg ha (Ev.now _)
        refine ev_neg t2 ?_
        rw [if_neg t2]
        by_cases t4 : x.f0 = 4
        · rw [t4]
          exact ev_pos rfl (Ev.now _)
        refine ev_neg t4 ?_
        by_cases t3 : x.f0 = 12
        · rw [if_pos t3]
          exact ev_pos t3 (Ev.bind (bytes_in x.f1 hs) (Ev.now _))
        rw [if_neg t3, show (x.f0 == 4) = false by simpa using t4]
        exact ev_neg t3 (Ev.now _)
      · rw [if_neg c1]
        exact ev_pos (by omega) (Ev.now _)

/-! The text of an item. -/
theorem str_bytes (t : ByteArray) : strOfNums (bytesOf t) = t := by
  apply ByteArray.ext
  unfold strOfNums bytesOf
  rw [List.map_map]
  have : (fun n : Int => UInt8.ofNat n.toNat) ∘ (fun b : UInt8 => (b.toNat : Int)) = id := by
    funext b; simp
  rw [this]; simp
theorem bytes_rng (t : ByteArray) : ∀ x ∈ bytesOf t, 0 ≤ x ∧ x < 256 := by
  intro x hx
  obtain ⟨b, _, rfl⟩ := List.mem_map.1 hx
  have := b.toNat_lt
  omega
theorem bytes_str (l : List Int) (h : ∀ x ∈ l, 0 ≤ x ∧ x < 256) : bytesOf (strOfNums l) = l := by
  unfold bytesOf
  rw [strOfNums_data, List.map_map]
  refine (List.map_congr_left (fun x hx => ?_)).trans (List.map_id l)
  have := h x hx
  show (((UInt8.ofNat x.toNat).toNat : Nat) : Int) = x
  rw [UInt8.toNat_ofNat']
  omega
theorem be_len_k : ∀ (k n : Nat), n < 256 ^ k → (be n).length ≤ k
  | 0, n, h => by
    have : n = 0 := by simpa using h
    subst this
    rw [be, if_neg (by omega)]; simp
  | k + 1, n, h => by
    rw [be]
    split
    · have h2 : n / 256 < 256 ^ k := by
        rw [Nat.pow_succ] at h
        exact Nat.div_lt_of_lt_mul (by rw [Nat.mul_comm]; exact h)
      have := be_len_k k (n / 256) h2
      simp; omega
    · simp
def lenL (n : Nat) : List Int := if n < 128 then [(n : Int) % 256] else (128 + ((be n).length : Int)) % 256 :: be n
theorem lenL_len (n : Nat) (h : n < 1099511627776) : (lenL n).length ≤ 6 := by
  have := be_len_k 5 n (by rw [show (256 : Nat) ^ 5 = 1099511627776 by decide]; exact h)
  unfold lenL
  split
  · simp
  · simp; omega
theorem lenL_rng (n : Nat) : ∀ x ∈ lenL n, 0 ≤ x ∧ x < 256 := by
  intro x hx
  unfold lenL at hx
  split at hx
  · have : x = (n : Int) % 256 := by simpa using hx
    omega
  · rcases List.mem_cons.1 hx with rfl | h
    · omega
    · exact be_rng n x h
theorem spec_len_loop (n : Nat) : ∀ acc : List Int, (be n ++ acc).length ≤ 1000 → n < 1099511627776 → Ev (fun k => spec_l07Length.l0 k (n : Int) (strOfNums acc)) (strOfNums ((128 + ((be n ++ acc).length : Int)) % 256 :: (be n ++ acc))) := by
  induction n using Nat.strongRecOn with
  | _ n ih =>
    intro acc hl hn
    refine Ev.step (fun k => by rw [spec_l07Length.l0]) ?_
    by_cases h : 0 < n
    · refine ev_pos (by omega) ?_
      have e1 : wrap64 (Int.tdiv (n : Int) 256) = ((n / 256 : Nat) : Int) := by rw [show (256 : Int) = ((256 : Nat) : Int) from rfl, tdivN]; exact w64 (by omega) (by omega)
      have e2 : Int.tmod (n : Int) 256 % 256 = ((n % 256 : Nat) : Int) := by
        rw [show (256 : Int) = ((256 : Nat) : Int) from rfl, tmodN]; omega
      rw [e1, e2]
      refine Ev.bind (g := fun _ => some [((n % 256 : Nat) : Int)]) (Ev.now _) ?_
      rw [str_append]
      rw [be, if_pos h, List.append_assoc] at hl
      have hz : (strOfNums [((n % 256 : Nat) : Int)]).size + (strOfNums acc).size ≤ 9223372036854775807 := by
        rw [strOfNums_size, strOfNums_size]
        have := hl
        simp at this ⊢
        omega
      refine ev_pos hz ?_
      have := ih (n / 256) (by omega) ([((n % 256 : Nat) : Int)] ++ acc) hl (by omega)
      rw [be, if_pos h, List.append_assoc]
      exact this
    · refine ev_neg (by omega) ?_
      have e0 : be n = [] := by rw [be, if_neg h]
      rw [e0, List.nil_append] at hl ⊢
      rw [strOfNums_size, w64 (by omega) (by omega)]
      refine Ev.bind (g := fun _ => some [(128 + (acc.length : Int)) % 256]) (Ev.now _) ?_
      refine ev_pos (by rw [strOfNums_size]; simp; omega) ?_
      rw [str_append]
      exact Ev.now _
theorem spec_len (n : Nat) (hn : n < 1099511627776) : Ev (fun k => spec_l07Length.f k (n : Int)) (strOfNums (lenL n)) := by
  simp only [spec_l07Length.f]
  unfold lenL
  by_cases h : n < 128
  · rw [if_pos h]
    exact ev_pos (by omega) (Ev.now _)
  · rw [if_neg h]
    refine ev_neg (by omega) ?_
    have hb := be_len_k 5 n (by rw [show (256 : Nat) ^ 5 = 1099511627776 by decide]; exact hn)
    have := spec_len_loop n [] (by rw [List.append_nil]; omega) hn
    rw [List.append_nil] at this
    exact this
theorem impl_len_loop (n : Nat) : ∀ acc : List Int, (be n ++ acc).length ≤ 1000 → n < 1099511627776 → Ev (fun k => impl_lengthText.l0 k acc (n : Int)) (strOfNums ((128 + ((be n ++ acc).length : Int)) % 256 :: (be n ++ acc))) := by
  induction n using Nat.strongRecOn with
  | _ n ih =>
    intro acc hl hn
    refine Ev.step (fun k => by rw [impl_lengthText.l0]) ?_
    by_cases h : 0 < n
    · refine ev_pos (by omega) ?_
      have e1 : (n : Int) / 256 = ((n / 256 : Nat) : Int) := by omega
      have e2 : (n : Int) % 256 = ((n % 256 : Nat) : Int) := by omega
      rw [e1, e2]
      refine Ev.bind (g := fun _ => some [((n % 256 : Nat) : Int)]) (Ev.now _) ?_
      rw [be, if_pos h, List.append_assoc] at hl
      refine ev_pos (by have := hl; simp at this ⊢; omega) ?_
      have := ih (n / 256) (by omega) ([((n % 256 : Nat) : Int)] ++ acc) hl (by omega)
      rw [be, if_pos h, List.append_assoc]
      exact this
    · refine ev_neg (by omega) ?_
      have e0 : be n = [] := by rw [be, if_neg h]
      rw [e0, List.nil_append] at hl ⊢
      rw [w64 (by omega) (by omega)]
      refine Ev.bind (g := fun _ => some [(128 + (acc.length : Int)) % 256]) (Ev.now _) ?_
      exact ev_pos (by simp; omega) (Ev.now _)
theorem impl_len (n : Nat) (hn : n < 1099511627776) : Ev (fun k => impl_lengthText.f k (n : Int)) (strOfNums (lenL n)) := by
  simp only [impl_lengthText.f]
  unfold lenL
  by_cases h : n < 128
  · rw [if_pos h]
    exact ev_pos (by omega) (Ev.now _)
  · rw [if_neg h]
    refine ev_neg (by omega) ?_
    have hb := be_len_k 5 n (by rw [show (256 : Nat) ^ 5 = 1099511627776 by decide]; exact hn)
    have := impl_len_loop n [] (by rw [List.append_nil]; omega) hn
    rw [List.append_nil] at this
    exact this
def inL (tag : Int) (s : List Int) : List Int := tag % 256 :: (lenL s.length ++ s)
def textL : Nat → S26 → List Int
  | 0, _ => []
  | n + 1, x => inL x.f0 (if x.f0 = 48 then x.f2.flatMap (textL n) else bytesOf x.f1)
def wtL : Nat → S26 → Nat
  | 0, _ => 0
  | n + 1, x => x.f1.size + (x.f2.length + (x.f2.map (wtL n)).sum)
theorem flat_len {α : Type} (f : α → List Int) (g : α → Nat) : ∀ l : List α, (∀ y ∈ l, (f y).length ≤ 7 * (1 + g y)) → (l.flatMap f).length ≤ 7 * (l.length + (l.map g).sum)
  | [], _ => by simp
  | y :: l, h => by
    have h1 := h y List.mem_cons_self
    have h2 := flat_len f g l (fun z hz => h z (List.mem_cons_of_mem _ hz))
    rw [List.flatMap_cons, List.length_append, List.length_cons, List.map_cons, List.sum_cons]
    omega
theorem inL_len (tag : Int) (s : List Int) (h : s.length < 1099511627776) : (inL tag s).length ≤ 7 + s.length := by
  have := lenL_len s.length h
  unfold inL
  simp; omega
theorem text_len : ∀ (n : Nat) (x : S26), wtL n x ≤ 1048576 → (textL n x).length ≤ 7 * (1 + wtL n x)
  | 0, _, _ => by simp [textL]
  | n + 1, x, hb => by
    have e : wtL (n + 1) x = x.f1.size + (x.f2.length + (x.f2.map (wtL n)).sum) := rfl
    have f := flat_len (textL n) (wtL n) x.f2 (fun y hy => text_len n y (by have := le_sum (wtL n) x.f2 y hy; omega))
    have b := bytesOf_length x.f1
    show (inL x.f0 (if x.f0 = 48 then x.f2.flatMap (textL n) else bytesOf x.f1)).length ≤ _
    split
    · have := inL_len x.f0 (x.f2.flatMap (textL n)) (by omega)
      omega
    · have := inL_len x.f0 (bytesOf x.f1) (by omega)
      omega
theorem spec_in {g : Nat → Option ByteArray} (tag : Int) (s : List Int) (h : s.length < 1000000000) (hg : Ev g (strOfNums (lenL s.length))) :
    Ev (fun k => (some ([tag % 256] : List Int)).bind fun y => (g k).bind fun t => if (strOfNums y).size + t.size ≤ 9223372036854775807 then (if ((strOfNums y) ++ t).size + (strOfNums s).size ≤ 9223372036854775807 then some (((strOfNums y) ++ t) ++ strOfNums s) else none) else none) (strOfNums (inL tag s)) := by
  have hl := lenL_len s.length (by omega)
  refine Ev.bind (g := fun _ => some [tag % 256]) (Ev.now _) (Ev.bind hg ?_)
  rw [str_append, str_append, strOfNums_size, strOfNums_size, strOfNums_size, strOfNums_size]
  refine ev_pos (by simp; omega) (ev_pos (by simp; omega) ?_)
  rw [show [tag % 256] ++ lenL s.length ++ s = inL tag s by unfold inL; simp]
  exact Ev.now _
theorem ok_nil {n : Nat} {x : S26} {d : Int} (h : okV (n + 1) x d = true) (c : x.f0 = 48) : x.f1.toList = ([] : List UInt8) ∧ ∀ y ∈ x.f2, okV n y (d + 1) = true := by
  have h2 : (if x.f0 = 48 then (if x.f1.toList = ([] : List UInt8) ∧ x.f2.length ≤ 40 ∧ d < 6 then x.f2.all (fun y => okV n y (d + 1)) else false) else (if x.f2.length = 0 then plainV x else false)) = true := h
  rw [if_pos c] at h2
  split at h2
  · rename_i q
    exact ⟨q.1, List.all_eq_true.1 h2⟩
  · cases h2
theorem empty_of (t : ByteArray) (h : t.toList = ([] : List UInt8)) : t = strOfNums [] := by
  rw [ByteArray.toList_eq] at h
  apply ByteArray.ext
  exact Array.toList_inj.1 h
theorem flat_step {l : List S26} {n i : Nat} (h : i < l.length) : (l.take (i + 1)).flatMap (textL n) = (l.take i).flatMap (textL n) ++ textL n l[i] := by
  rw [List.take_succ_eq_append_getElem h, List.flatMap_append]
  simp
theorem flat_take {l : List S26} (n i : Nat) (hb : l.length + (l.map (wtL n)).sum ≤ 1048576) : ((l.take i).flatMap (textL n)).length ≤ 8388608 := by
  have h := flat_len (textL n) (wtL n) l (fun y hy => text_len n y (by have := le_sum (wtL n) l y hy; omega))
  have e : l.flatMap (textL n) = (l.take i).flatMap (textL n) ++ (l.drop i).flatMap (textL n) := by rw [← List.flatMap_append, List.take_append_drop]
  rw [e, List.length_append] at h
  omega
theorem inL_rng (tag : Int) (s : List Int) (h : ∀ x ∈ s, 0 ≤ x ∧ x < 256) : ∀ x ∈ inL tag s, 0 ≤ x ∧ x < 256 := by
  intro x hx
  unfold inL at hx
  rcases List.mem_cons.1 hx with rfl | hx
  · omega
  · rcases List.mem_append.1 hx with hx | hx
    · exact lenL_rng _ x hx
    · exact h x hx
theorem text_rng : ∀ (n : Nat) (x : S26), ∀ b ∈ textL n x, 0 ≤ b ∧ b < 256
  | 0, _, b, h => by cases h
  | n + 1, x, b, h => by
    refine inL_rng x.f0 (if x.f0 = 48 then x.f2.flatMap (textL n) else bytesOf x.f1) (fun c hc => ?_) b h
    split at hc
    · obtain ⟨y, _, hy⟩ := List.mem_flatMap.1 hc
      exact text_rng n y c hy
    · exact bytes_rng _ c hc
theorem spec_text : ∀ (n : Nat) (x : S26) (d : Int), WL n x → okV n x d = true → wtL n x ≤ 1048576 → Ev (fun k => spec_l07Text.f k x.f0 x.f1 x.f2) (strOfNums (textL n x))
  | 0, _, _, h, _, _ => h.elim
  | n + 1, x, d, ⟨hs, hl, hk⟩, ho, hb => by
    have e : wtL (n + 1) x = x.f1.size + (x.f2.length + (x.f2.map (wtL n)).sum) := rfl
    refine Ev.step (fun k => by rw [spec_l07Text.f]) ?_
    show Ev _ (strOfNums (inL x.f0 (if x.f0 = 48 then x.f2.flatMap (textL n) else bytesOf x.f1)))
    by_cases c : x.f0 = 48
    · obtain ⟨he, hko⟩ := ok_nil ho c
      refine ev_pos c ?_
      rw [if_pos c]
      have loop : ∀ (m i : Nat), i + m = x.f2.length → Ev (fun k => spec_l07Text.l0 k (strOfNums ((x.f2.take i).flatMap (textL n))) (i : Int) x.f0 x.f1 x.f2) (strOfNums (inL x.f0 (x.f2.flatMap (textL n)))) := by
        intro m
        induction m with
        | zero =>
          intro i hi
          refine Ev.step (fun k => by rw [spec_l07Text.l0]) (ev_neg (by omega) ?_)
          have hlen := flat_take (l := x.f2) n i (by omega)
          rw [List.take_of_length_le (by omega)] at hlen ⊢
          refine spec_in _ _ (by omega) ?_
          rw [strOfNums_size]
          exact spec_len _ (by omega)
        | succ m ih =>
          intro i hi
          have hlt : i < x.f2.length := by omega
          have hm := List.getElem_mem hlt
          refine Ev.step (fun k => by rw [spec_l07Text.l0]) (ev_pos (by omega) (ev_pos (by omega) ?_))
          rw [rdL x.f2 i hlt]
          have hw := le_sum (wtL n) x.f2 _ hm
          refine Ev.bind (spec_text n x.f2[i] (d + 1) (hk _ hm) (hko _ hm) (by omega)) ?_
          rw [str_append, ← flat_step hlt]
          have hlen := flat_take (l := x.f2) n (i + 1) (by omega)
          rw [flat_step hlt, List.length_append] at hlen
          rw [strOfNums_size, strOfNums_size]
          refine ev_pos (by omega) ?_
          rw [show wrap64 ((i : Int) + 1) = ((i + 1 : Nat) : Int) by rw [w64 (by omega) (by omega)]; omega]
          exact ih (i + 1) (by omega)
      have := loop x.f2.length 0 (by omega)
      rw [empty_of _ he] at this ⊢
      exact this
    · refine ev_neg c ?_
      rw [if_neg c]
      have b := bytesOf_length x.f1
      have := spec_in (g := fun k => spec_l07Length.f k (x.f1.size : Int)) x.f0 (bytesOf x.f1) (by omega) (by rw [b]; exact spec_len _ (by omega))
      rw [str_bytes] at this
      exact this
theorem impl_text : ∀ (n : Nat) (x : S26) (d : Int), WL n x → okV n x d = true → wtL n x ≤ 1048576 → Ev (fun k => impl_itemText.f k x.f0 x.f1 x.f2) (strOfNums (textL n x))
  | 0, _, _, h, _, _ => h.elim
  | n + 1, x, d, ⟨hs, hl, hk⟩, ho, hb => by
    have e : wtL (n + 1) x = x.f1.size + (x.f2.length + (x.f2.map (wtL n)).sum) := rfl
    refine Ev.step (fun k => by rw [impl_itemText.f]) ?_
    show Ev _ (strOfNums (inL x.f0 (if x.f0 = 48 then x.f2.flatMap (textL n) else bytesOf x.f1)))
    by_cases c : x.f0 = 48
    · obtain ⟨he, hko⟩ := ok_nil ho c
      refine ev_pos c ?_
      rw [if_pos c]
      have loop : ∀ (m i : Nat), i + m = x.f2.length → Ev (fun k => impl_itemText.l0 k ((x.f2.take i).flatMap (textL n)) x.f2 (x.f2.length : Int) (i : Int) x.f0 x.f1 x.f2) (strOfNums (inL x.f0 (x.f2.flatMap (textL n)))) := by
        intro m
        induction m with
        | zero =>
          intro i hi
          refine Ev.step (fun k => by rw [impl_itemText.l0]) (ev_neg (by omega) ?_)
          have hlen := flat_take (l := x.f2) n i (by omega)
          rw [List.take_of_length_le (by omega)] at hlen ⊢
          refine spec_in _ _ (by omega) ?_
          rw [strOfNums_size]
          exact impl_len _ (by omega)
        | succ m ih =>
          intro i hi
          have hlt : i < x.f2.length := by omega
          have hm := List.getElem_mem hlt
          refine Ev.step (fun k => by rw [impl_itemText.l0]) (ev_pos (by omega) (ev_pos (by omega) (ev_pos (by omega) ?_)))
          rw [rdL x.f2 i hlt]
          have hw := le_sum (wtL n) x.f2 _ hm
          refine Ev.bind (impl_text n x.f2[i] (d + 1) (hk _ hm) (hko _ hm) (by omega)) ?_
          rw [bytes_str _ (text_rng n _), ← flat_step hlt]
          have hlen := flat_take (l := x.f2) n (i + 1) (by omega)
          rw [flat_step hlt, List.length_append] at hlen
          rw [strOfNums_size]
          refine ev_pos (by omega) ?_
          rw [show wrap64 ((i : Int) + 1) = ((i + 1 : Nat) : Int) by rw [w64 (by omega) (by omega)]; omega]
          exact ih (i + 1) (by omega)
      exact loop x.f2.length 0 (by omega)
    · refine ev_neg c ?_
      rw [if_neg c]
      have b := bytesOf_length x.f1
      have := spec_in (g := fun k => impl_lengthText.f k (x.f1.size : Int)) x.f0 (bytesOf x.f1) (by omega) (by rw [b]; exact impl_len _ (by omega))
      rw [str_bytes] at this
      exact this
def itemTextV (n : Nat) (x : S26) : ByteArray × Bool := if okV n x 0 = true ∧ (textL n x).length ≤ 4000 then (strOfNums (textL n x), true) else (⟨#[]⟩, false)
theorem spec_ItemText_ev (n : Nat) (x : S26) (hw : WL n x) (hb : wtL n x ≤ 1048576) : Ev (fun k => spec_ItemText.f k x.f0 x.f1 x.f2) (itemTextV n x) := by
  simp only [spec_ItemText.f, spec_ItemOk.f]
  refine Ev.bind (Ev.bind (spec_ok n x 0 hw (by omega) (by omega)) (Ev.now _)) ?_
  unfold itemTextV
  cases ho : okV n x 0 with
  | false =>
    rw [if_neg (fun h => Bool.false_ne_true h.1)]
    exact ev_neg Bool.false_ne_true (Ev.now _)
  | true =>
    refine ev_pos rfl (Ev.bind (spec_text n x 0 hw ho hb) ?_)
    rw [strOfNums_size]
    by_cases h : (textL n x).length ≤ 4000
    · refine ev_neg (by omega) ?_
      rw [if_pos ⟨rfl, h⟩]
      exact Ev.now _
    · refine ev_pos (by omega) ?_
      rw [if_neg (fun q => h q.2)]
      exact Ev.now _
theorem impl_ItemText_ev (n : Nat) (x : S26) (hw : WL n x) (hb : wtL n x ≤ 1048576) : Ev (fun k => impl_ItemText.f k x.f0 x.f1 x.f2) (itemTextV n x) := by
  simp only [impl_ItemText.f, impl_ItemOk.f]
  refine Ev.bind (Ev.bind (impl_ok n x 0 hw (by omega) (by omega)) (Ev.now _)) ?_
  unfold itemTextV
  cases ho : okV n x 0 with
  | false =>
    rw [if_neg (fun h => Bool.false_ne_true h.1)]
    exact ev_neg Bool.false_ne_true (Ev.now _)
  | true =>
    refine ev_pos rfl (Ev.bind (impl_text n x 0 hw ho hb) ?_)
    rw [strOfNums_size]
    by_cases h : (textL n x).length ≤ 4000
    · refine ev_neg (by omega) ?_
      rw [if_pos ⟨rfl, h⟩]
      exact Ev.now _
    · refine ev_pos (by omega) ?_
      rw [if_neg (fun q => h q.2)]
      exact Ev.now _

/-! Items read: whatever text it is, and the text of a right item. -/
theorem ev_tt {α : Type} {g f1 f2 : Nat → Option α} {r : α} (h : ∀ k, g (k + 1) = if true = true then f1 k else f2 k) (k : Ev f1 r) : Ev g r := Ev.step h (ev_pos rfl k)
theorem ev_ff {α : Type} {g f1 f2 : Nat → Option α} {r : α} (h : ∀ k, g (k + 1) = if false = true then f1 k else f2 k) (k : Ev f2 r) : Ev g r := Ev.step h (ev_neg Bool.false_ne_true k)
theorem wrap_add (f m : Nat) (h : f + m ≤ 1000000000000) : wrap64 ((f : Int) + (m : Int)) = ((f + m : Nat) : Int) := by rw [w64 (by omega) (by omega)]; omega
theorem wrap_succ (d : Nat) (h : d ≤ 1000000000000) : wrap64 ((d : Int) + 1) = ((d + 1 : Nat) : Int) := by rw [w64 (by omega) (by omega)]; omega
def Rng (l : List Int) : Prop := ∀ x ∈ l, 0 ≤ x ∧ x < 256
theorem Rng.drop {l : List Int} (h : Rng l) (i : Nat) : Rng (l.drop i) := fun x hx => h x (List.mem_of_mem_drop hx)
theorem Rng.take {l : List Int} (h : Rng l) (i : Nat) : Rng (l.take i) := fun x hx => h x (List.mem_of_mem_take hx)
theorem Rng.app {l m : List Int} (h : Rng l) (k : Rng m) : Rng (l ++ m) := fun x hx => (List.mem_append.1 hx).elim (h x) (k x)
theorem Rng.tail {c : Int} {l : List Int} (h : Rng (c :: l)) : Rng l := fun x hx => h x (List.mem_cons_of_mem _ hx)
theorem Rng.head {c : Int} {l : List Int} (h : Rng (c :: l)) : 0 ≤ c ∧ c < 256 := h c List.mem_cons_self
theorem str_get (l : List Int) (h : Rng l) (i : Nat) : bt (strOfNums l) (i : Int) = l.getD i 0 := by
  have e2 : bN (strOfNums l) = l.map fun n => (UInt8.ofNat n.toNat).toNat := by
    unfold bN
    rw [strOfNums_data, List.map_map]
    rfl
  rw [bt_bN, e2]
  rcases Nat.lt_or_ge i l.length with hi | hi
  · have hx := h l[i] (List.getElem_mem hi)
    rw [List.getD_eq_getElem?_getD, List.getElem?_map, List.getElem?_eq_getElem hi, List.getD_eq_getElem?_getD, List.getElem?_eq_getElem hi]
    show (((UInt8.ofNat (l[i]).toNat).toNat : Nat) : Int) = l[i]
    rw [UInt8.toNat_ofNat']
    omega
  · rw [List.getD_eq_getElem?_getD, List.getElem?_map, List.getElem?_eq_none hi, List.getD_eq_getElem?_getD, List.getElem?_eq_none hi]
    rfl
theorem str_get0 (c : Int) (l : List Int) (h : Rng (c :: l)) : bt (strOfNums (c :: l)) 0 = c := str_get (c :: l) h 0
theorem str_extract (l : List Int) (i j : Nat) : (strOfNums l).extract i j = strOfNums ((l.drop i).take (j - i)) := by
  apply ByteArray.ext
  apply Array.toList_inj.1
  rw [strOfNums_data, ByteArray.data_extract, Array.toList_extract, strOfNums_data, List.extract_eq_take_drop, List.map_take, List.map_drop]
theorem str_tail (l : List Int) (i : Nat) : (strOfNums l).extract i (strOfNums l).size = strOfNums (l.drop i) := by
  rw [str_extract, strOfNums_size, List.take_of_length_le (by rw [List.length_drop]; exact Nat.le_refl _)]
theorem str_front (l : List Int) (i : Nat) : (strOfNums l).extract 0 i = strOfNums (l.take i) := by
  rw [str_extract, List.drop_zero, Nat.sub_zero]
def valZ (l : List Int) : Int := l.foldl (fun n b => 256 * n + b) 0
theorem valZ_take (l : List Int) (i : Nat) (h : i < l.length) : valZ (l.take (i + 1)) = 256 * valZ (l.take i) + l[i] := by
  unfold valZ
  rw [List.take_succ_eq_append_getElem h, List.foldl_append]
  rfl
theorem valZ_rng (l : List Int) (h : Rng l) : ∀ i, i ≤ l.length → 0 ≤ valZ (l.take i) ∧ valZ (l.take i) < 256 ^ i
  | 0, _ => by rw [List.take_zero]; exact ⟨Int.le_refl _, by decide⟩
  | i + 1, hi => by
    have ih := valZ_rng l h i (by omega)
    have hx := h l[i] (List.getElem_mem (by omega))
    rw [valZ_take l i (by omega)]
    generalize valZ (l.take i) = v at ih ⊢
    generalize l[i] = b at hx ⊢
    rw [show (256 : Int) ^ (i + 1) = 256 ^ i * 256 from Int.pow_succ ..]
    generalize (256 : Int) ^ i = q at ih ⊢
    omega
theorem or_256 (v b : Nat) (hv : v < 1099511627776) (hb : b < 256) : Go.bits .or .i64 (wrap64 ((v : Int) * 256)) (wrap64 (b : Int)) = ((256 * v + b : Nat) : Int) := by
  rw [w64 (n := (v : Int) * 256) (by omega) (by omega), w64 (n := (b : Int)) (by omega) (by omega)]
  have e : Go.bits .or .i64 ((v : Int) * 256) (b : Int) = IntKind.i64.wrap ((BitVec.ofInt 64 ((v : Int) * 256) ||| BitVec.ofInt 64 (b : Int)).toNat : Int) := rfl
  have e1 : (BitVec.ofInt 64 ((v : Int) * 256)).toNat = v * 256 := by
    rw [BitVec.toNat_ofInt]; omega
  have e2 : (BitVec.ofInt 64 (b : Int)).toNat = b := by
    rw [BitVec.toNat_ofInt]; omega
  rw [e, BitVec.toNat_or, e1, e2]
  have e3 : v * 256 ||| b = v * 256 + b := by
    have := Nat.two_pow_add_eq_or_of_lt (i := 8) (b := b) (by omega) v
    rw [show (2 : Nat) ^ 8 * v = v * 256 by omega] at this
    exact this.symm
  rw [e3]
  rw [i64_w, w64 (by omega) (by omega)]
  omega
theorem or_Z (v b : Int) (h0 : 0 ≤ v) (hv : v < 1099511627776) (hb0 : 0 ≤ b) (hb : b < 256) : Go.bits .or .i64 (wrap64 (v * 256)) (wrap64 b) = 256 * v + b := by
  obtain ⟨v, rfl⟩ := Int.eq_ofNat_of_zero_le h0
  obtain ⟨b, rfl⟩ := Int.eq_ofNat_of_zero_le hb0
  rw [or_256 v b (by omega) (by omega)]
  omega
theorem pow4 (i : Nat) (h : i ≤ 4) : (256 : Int) ^ i ≤ 4294967296 := by
  have : i = 0 ∨ i = 1 ∨ i = 2 ∨ i = 3 ∨ i = 4 := by omega
  rcases this with rfl | rfl | rfl | rfl | rfl <;> decide
/-! A length, read by each side. -/
def rlI : List Int → Option (Int × List Int)
  | [] => none
  | c :: t => if c < 128 then some (c, t) else if c - 128 ≤ 4 ∧ (c - 128).toNat ≤ t.length then some (valZ (t.take (c - 128).toNat), t.drop (c - 128).toNat) else none
def encL : Option (Int × List Int) → Int × ByteArray × Bool
  | none => (0, (⟨#[]⟩ : ByteArray), false)
  | some (n, r) => (n, strOfNums r, true)
theorem impl_rl_loop (c : Int) (t : List Int) (h : Rng (c :: t)) (hl : t.length ≤ 1000000) (m : Nat) (hm : m ≤ 4) (hmt : m ≤ t.length) : ∀ (d i : Nat), i + d = m →
    Ev (fun k => impl_readLength.l0 k (strOfNums (c :: t)) (m : Int) (valZ (t.take i)) (strOfNums (t.take m)) (m : Int) (i : Int)) (valZ (t.take m), strOfNums (t.drop m), true) := by
  intro d
  induction d with
  | zero =>
    intro i hi
    obtain rfl : i = m := by omega
    refine Ev.step (fun k => by rw [impl_readLength.l0]) (ev_neg (by omega) ?_)
    rw [w64 (n := 1 + (i : Int)) (by omega) (by omega)]
    refine ev_pos (by omega) (ev_pos (by rw [strOfNums_size, List.length_cons]; omega) ?_)
    rw [show ((1 + (i : Int)) : Int).toNat = i + 1 by omega, str_tail]
    exact Ev.now _
  | succ d ih =>
    intro i hi
    have hlt : i < t.length := by omega
    have htl : (t.take m).length = m := by rw [List.length_take]; omega
    refine Ev.step (fun k => by rw [impl_readLength.l0]) (ev_pos (by omega) (ev_pos (by omega) (ev_pos (by rw [strOfNums_size, htl]; omega) ?_)))
    have hg : bt (strOfNums (t.take m)) (i : Int) = t[i] := by
      rw [str_get _ (h.tail.take m), List.getD_eq_getElem?_getD, List.getElem?_take, if_pos (by omega), List.getElem?_eq_getElem hlt]
      rfl
    have hv := valZ_rng t h.tail i (by omega)
    have hp := pow4 i (by omega)
    have hx := h.tail t[i] (List.getElem_mem hlt)
    rw [hg, or_Z _ _ hv.1 (by omega) hx.1 hx.2, ← valZ_take t i hlt, show wrap64 ((i : Int) + 1) = ((i + 1 : Nat) : Int) by rw [w64 (by omega) (by omega)]; omega]
    exact ih (i + 1) (by omega)
theorem impl_rl : ∀ (l : List Int), Rng l → l.length ≤ 1000000 → Ev (fun k => impl_readLength.f k (strOfNums l)) (encL (rlI l))
  | [], _, _ => by
    simp only [impl_readLength.f]
    exact ev_pos ((str_toList_nil []).2 rfl) (Ev.now _)
  | c :: t, h, hl => by
    have hc := h.head
    rw [List.length_cons] at hl
    simp only [impl_readLength.f]
    rw [str_get0 c t h, strOfNums_size, List.length_cons]
    refine ev_neg (fun e => by have := (str_toList_nil (c :: t)).1 e; cases this) (ev_pos (by omega) ?_)
    rw [w64 (n := c) (by omega) (by omega), w64 (n := c - 128) (by omega) (by omega)]
    rw [rlI]
    by_cases c1 : c < 128
    · rw [if_pos c1]
      refine ev_pos c1 (ev_pos (by omega) ?_)
      rw [str_extract, List.drop_succ_cons, List.drop_zero, List.take_of_length_le (by omega)]
      exact Ev.now _
    · rw [if_neg c1]
      refine ev_neg c1 ?_
      by_cases c2 : c - 128 > 4
      · rw [if_neg (fun q => by omega)]
        exact ev_pos c2 (ev_tt (fun k => by rw [impl_readLength.j0]; try rfl) (Ev.now _))
      · refine ev_neg c2 ?_
        rw [w64 (n := 1 + (c - 128)) (by omega) (by omega)]
        by_cases c3 : (c - 128).toNat ≤ t.length
        · rw [if_pos ⟨by omega, c3⟩, decide_eq_false (by omega)]
          obtain ⟨m, hm⟩ : ∃ m : Nat, c - 128 = (m : Int) := ⟨(c - 128).toNat, by omega⟩
          rw [hm] at c3 ⊢
          rw [Int.toNat_natCast] at c3 ⊢
          refine Ev.step (fun k => by rw [impl_readLength.j0]) (ev_neg Bool.false_ne_true ?_)
          rw [w64 (n := 1 + (m : Int)) (by omega) (by omega), show ((1 + (m : Int)) : Int).toNat = m + 1 by omega, str_extract, List.drop_succ_cons, List.drop_zero, Nat.add_sub_cancel]
          refine ev_pos (by omega) (ev_pos (by rw [strOfNums_size, List.length_cons]; omega) ?_)
          have h0 := impl_rl_loop c t h (by omega) m (by omega) c3 m 0 (by omega)
          rw [strOfNums_size, show (t.take m).length = m by rw [List.length_take]; omega]
          exact h0
        · rw [if_neg (fun q => c3 q.2), decide_eq_true (by omega)]
          exact ev_tt (fun k => by rw [impl_readLength.j0]; try rfl) (Ev.now _)
def rlS : List Int → Option (Int × List Int)
  | [] => none
  | c :: t => if c < 128 then some (c, t) else if (1 ≤ c - 128 ∧ c - 128 ≤ 2) ∧ (c - 128).toNat ≤ t.length then some (valZ (t.take (c - 128).toNat), t.drop (c - 128).toNat) else none
def encS (N : Nat) : Option (Int × List Int) → Int × Int × Bool
  | none => (0, 0, false)
  | some (n, r) => (n, (N : Int) - r.length, true)
theorem spec_sz_loop (l : List Int) (h : Rng l) (hl : l.length ≤ 1000000) (q m : Nat) (hm : m ≤ 2) (hq : q + 1 + m ≤ l.length) : ∀ (d j : Nat), j + d = m →
    Ev (fun k => spec_l07Size.l0 k (strOfNums l) (q : Int) (m : Int) (valZ ((l.drop (q + 1)).take j)) (j : Int)) (valZ ((l.drop (q + 1)).take m), ((q + 1 + m : Nat) : Int), true) := by
  intro d
  induction d with
  | zero =>
    intro j hj
    obtain rfl : j = m := by omega
    refine Ev.step (fun k => by rw [spec_l07Size.l0]) (ev_neg (by omega) ?_)
    rw [w64 (n := (q : Int) + 1) (by omega) (by omega), w64 (n := (q : Int) + 1 + (j : Int)) (by omega) (by omega), show (q : Int) + 1 + (j : Int) = ((q + 1 + j : Nat) : Int) by omega]
    exact Ev.now _
  | succ d ih =>
    intro j hj
    have hlt : q + 1 + j < l.length := by omega
    have hdl : (l.drop (q + 1)).length = l.length - (q + 1) := List.length_drop
    refine Ev.step (fun k => by rw [spec_l07Size.l0]) ?_
    rw [w64 (n := (q : Int) + 1) (by omega) (by omega), w64 (n := (q : Int) + 1 + (j : Int)) (by omega) (by omega), show (q : Int) + 1 + (j : Int) = ((q + 1 + j : Nat) : Int) by omega]
    refine ev_pos (by omega) (ev_pos (by omega) (ev_pos (by rw [strOfNums_size]; omega) ?_))
    have hg : bt (strOfNums l) ((q + 1 + j : Nat) : Int) = (l.drop (q + 1))[j]'(by omega) := by
      rw [str_get _ h, List.getD_eq_getElem?_getD, List.getElem?_eq_getElem hlt, List.getElem_drop]
      rfl
    have hr := h.drop (q + 1)
    have hv := valZ_rng (l.drop (q + 1)) hr j (by omega)
    have hp := pow4 j (by omega)
    have hx := hr ((l.drop (q + 1))[j]'(by omega)) (List.getElem_mem _)
    rw [hg, w64 (n := 256 * valZ (List.take j (List.drop (q + 1) l))) (by omega) (by omega), w64 (n := (l.drop (q + 1))[j]'(by omega)) (by omega) (by omega), w64 (by omega) (by omega), ← valZ_take (l.drop (q + 1)) j (by omega), show wrap64 ((j : Int) + 1) = ((j + 1 : Nat) : Int) by rw [w64 (by omega) (by omega)]; omega]
    exact ih (j + 1) (by omega)
theorem spec_sz (l : List Int) (h : Rng l) (hl : l.length ≤ 1000000) (i : Nat) : Ev (fun k => spec_l07Size.f k (strOfNums l) (i : Int)) (encS l.length (rlS (l.drop i))) := by
  simp only [spec_l07Size.f]
  rw [strOfNums_size]
  by_cases hi : i < l.length
  · refine ev_neg (by omega) (ev_pos (by omega) (ev_pos (by omega) ?_))
    rw [str_get l h]
    obtain ⟨c, hc⟩ : ∃ c, l.getD i 0 = c := ⟨_, rfl⟩
    have hd : l.drop i = c :: l.drop (i + 1) := by
      rw [List.drop_eq_getElem_cons hi, ← hc, List.getD_eq_getElem?_getD, List.getElem?_eq_getElem hi]
      rfl
    have hcr : 0 ≤ c ∧ c < 256 := (hd ▸ h.drop i : Rng (c :: l.drop (i + 1))).head
    have hdl : (l.drop (i + 1)).length = l.length - (i + 1) := List.length_drop
    rw [hc, hd, rlS, w64 (n := c) (by omega) (by omega), w64 (n := c - 128) (by omega) (by omega)]
    by_cases c1 : c < 128
    · rw [if_pos c1]
      refine ev_pos c1 ?_
      rw [w64 (n := (i : Int) + 1) (by omega) (by omega)]
      show Ev _ (c, (l.length : Int) - ((l.drop (i + 1)).length : Nat), true)
      rw [show (l.length : Int) - ((l.drop (i + 1)).length : Nat) = (i : Int) + 1 by omega]
      exact Ev.now _
    · rw [if_neg c1]
      refine ev_neg c1 ?_
      rw [w64 (n := (l.length : Int) - (i : Int)) (by omega) (by omega), w64 (n := (l.length : Int) - (i : Int) - 1) (by omega) (by omega)]
      by_cases c2 : 1 ≤ c - 128 ∧ c - 128 ≤ 2
      · refine Ev.bind (g := fun _ => spec_l01In.f (c - 128) 1 2) (a := true) (by simp only [spec_l01In.f]; exact ev_pos (by omega) (by rw [decide_eq_true (by omega)]; exact Ev.now _)) (ev_pos rfl ?_)
        by_cases c3 : (c - 128).toNat ≤ (l.drop (i + 1)).length
        · rw [if_pos ⟨c2, c3⟩, decide_eq_false (by omega)]
          obtain ⟨m, hm⟩ : ∃ m : Nat, c - 128 = (m : Int) := ⟨(c - 128).toNat, by omega⟩
          rw [hm] at c3 c2 ⊢
          rw [Int.toNat_natCast] at c3 ⊢
          refine Ev.step (fun k => by rw [spec_l07Size.j0]) (ev_neg Bool.false_ne_true ?_)
          have h0 := spec_sz_loop l h hl i m (by omega) (by omega) m 0 (by omega)
          show Ev _ (valZ ((l.drop (i + 1)).take m), (l.length : Int) - (((l.drop (i + 1)).drop m).length : Nat), true)
          rw [show (l.length : Int) - (((l.drop (i + 1)).drop m).length : Nat) = ((i + 1 + m : Nat) : Int) by rw [List.length_drop]; omega]
          exact h0
        · rw [if_neg (fun q => c3 q.2), decide_eq_true (by omega)]
          exact ev_tt (fun k => by rw [spec_l07Size.j0]; try rfl) (Ev.now _)
      · rw [if_neg (fun q => c2 q.1)]
        by_cases c4 : 1 ≤ c - 128
        · exact Ev.bind (g := fun _ => spec_l01In.f (c - 128) 1 2) (a := false) (by simp only [spec_l01In.f]; exact ev_pos (by omega) (by rw [decide_eq_false (by omega)]; exact Ev.now _)) (ev_neg Bool.false_ne_true (ev_tt (fun k => by rw [spec_l07Size.j0]; try rfl) (Ev.now _)))
        · exact Ev.bind (g := fun _ => spec_l01In.f (c - 128) 1 2) (a := false) (by simp only [spec_l01In.f]; exact ev_neg (by omega) (Ev.now _)) (ev_neg Bool.false_ne_true (ev_tt (fun k => by rw [spec_l07Size.j0]; try rfl) (Ev.now _)))
  · rw [List.drop_eq_nil_of_le (by omega)]
    exact ev_pos (by omega) (Ev.now _)
/-! Whatever text it is: each side answers, and what it reads is small. -/
theorem rlI_ok {l : List Int} (h : Rng l) {n : Int} {r : List Int} (e : rlI l = some (n, r)) : 0 ≤ n ∧ Rng r ∧ r.length + 1 ≤ l.length := by
  cases l with
  | nil => cases e
  | cons c t =>
    have hc := h.head
    rw [rlI] at e
    by_cases c1 : c < 128
    · rw [if_pos c1] at e
      cases e
      exact ⟨hc.1, h.tail, by rw [List.length_cons]; omega⟩
    · rw [if_neg c1] at e
      by_cases c2 : c - 128 ≤ 4 ∧ (c - 128).toNat ≤ t.length
      · rw [if_pos c2] at e
        cases e
        exact ⟨(valZ_rng t h.tail _ c2.2).1, h.tail.drop _, by rw [List.length_cons, List.length_drop]; omega⟩
      · rw [if_neg c2] at e
        cases e
theorem rlS_ok {l : List Int} (h : Rng l) {n : Int} {r : List Int} (e : rlS l = some (n, r)) : 0 ≤ n ∧ Rng r ∧ r.length + 1 ≤ l.length := by
  cases l with
  | nil => cases e
  | cons c t =>
    have hc := h.head
    rw [rlS] at e
    by_cases c1 : c < 128
    · rw [if_pos c1] at e
      cases e
      exact ⟨hc.1, h.tail, by rw [List.length_cons]; omega⟩
    · rw [if_neg c1] at e
      by_cases c2 : (1 ≤ c - 128 ∧ c - 128 ≤ 2) ∧ (c - 128).toNat ≤ t.length
      · rw [if_pos c2] at e
        cases e
        exact ⟨(valZ_rng t h.tail _ c2.2).1, h.tail.drop _, by rw [List.length_cons, List.length_drop]; omega⟩
      · rw [if_neg c2] at e
        cases e
def encI : Option (S26 × List Int) → Int × ByteArray × List S26 × ByteArray × Bool
  | none => (0, (⟨#[]⟩ : ByteArray), [], (⟨#[]⟩ : ByteArray), false)
  | some (x, r) => (x.f0, x.f1, x.f2, strOfNums r, true)
def encR : Option (S26 × Nat) → Int × ByteArray × List S26 × Int × Bool
  | none => (0, (⟨#[]⟩ : ByteArray), [], 0, false)
  | some (x, j) => (x.f0, x.f1, x.f2, (j : Int), true)
def wts (n : Nat) (l : List S26) : Nat := l.length + (l.map (wtL n)).sum
theorem wts_snoc (n : Nat) (l : List S26) (x : S26) : wts n (l ++ [x]) = wts n l + (1 + wtL n x) := by
  unfold wts
  rw [List.length_append, List.map_append, List.sum_append]
  simp
  omega
theorem impl_kids (n d : Nat) (hd : d ≤ 6) (item : ∀ l, Rng l → l.length ≤ 4000 → ∃ o : Option (S26 × List Int), Ev (fun k => impl_readItem.f k (strOfNums l) ((d + 1 : Nat) : Int)) (encI o) ∧ ∀ x r, o = some (x, r) → WL n x ∧ wtL n x + 2 + r.length ≤ l.length ∧ Rng r)
    (c : Int) (s : ByteArray) (rest : List Int) : ∀ (N : Nat) (q : List Int) (acc : List S26), q.length ≤ N → Rng q → (∀ y ∈ acc, WL n y) → wts n acc + q.length ≤ 4000 →
    ∃ o : Option (List S26), Ev (fun k => impl_readItem.l0 k (d : Int) (strOfNums rest) (strOfNums q) c s acc) (encI (o.map fun ks => (⟨c, s, ks⟩, rest))) ∧ ∀ ks, o = some ks → (∀ y ∈ ks, WL n y) ∧ wts n ks ≤ wts n acc + q.length := by
  intro N
  induction N with
  | zero =>
    intro q acc hq hr ha hw
    obtain rfl := List.eq_nil_of_length_eq_zero (by omega : q.length = 0)
    exact ⟨some acc, Ev.step (fun k => by rw [impl_readItem.l0]; try rfl) (ev_pos ((str_toList_nil []).2 rfl) (Ev.now _)), fun ks e => by cases e; exact ⟨ha, Nat.le_refl _⟩⟩
  | succ N ih =>
    intro q acc hq hr ha hw
    cases q with
    | nil => exact ⟨some acc, Ev.step (fun k => by rw [impl_readItem.l0]; try rfl) (ev_pos ((str_toList_nil []).2 rfl) (Ev.now _)), fun ks e => by cases e; exact ⟨ha, Nat.le_refl _⟩⟩
    | cons b q =>
      obtain ⟨o, eo, ho⟩ := item (b :: q) hr (by omega)
      have hne : ¬ (strOfNums (b :: q)).toList = ([] : List UInt8) := fun e => by have := (str_toList_nil (b :: q)).1 e; cases this
      cases o with
      | none =>
        refine ⟨none, Ev.step (fun k => by rw [impl_readItem.l0]) (ev_neg hne ?_), fun ks e => by cases e⟩
        rw [show wrap64 ((d : Int) + 1) = ((d + 1 : Nat) : Int) by rw [w64 (by omega) (by omega)]; omega]
        exact Ev.bind eo (ev_neg Bool.false_ne_true (Ev.now _))
      | some p =>
        obtain ⟨x, r⟩ := p
        obtain ⟨hx, hlen, hrr⟩ := ho x r rfl
        have hac : acc.length ≤ wts n acc := Nat.le_add_right _ _
        obtain ⟨o2, e2, h2⟩ := ih r (acc ++ [x]) (by omega) hrr (fun y hy => (List.mem_append.1 hy).elim (ha y) (fun h => by obtain rfl := List.mem_singleton.1 h; exact hx)) (by rw [wts_snoc]; omega)
        refine ⟨o2, Ev.step (fun k => by rw [impl_readItem.l0]) (ev_neg hne ?_), fun ks e => ⟨(h2 ks e).1, by have := (h2 ks e).2; rw [wts_snoc] at this; omega⟩⟩
        rw [show wrap64 ((d : Int) + 1) = ((d + 1 : Nat) : Int) by rw [w64 (by omega) (by omega)]; omega]
        refine Ev.bind eo (ev_pos rfl (ev_pos (by omega) ?_))
        show Ev (fun k => impl_readItem.l0 k (d : Int) (strOfNums rest) (strOfNums r) c s (acc ++ [(⟨x.f0, x.f1, x.f2⟩ : S26)])) _
        rw [etaL]
        exact e2
theorem impl_total : ∀ (n d : Nat), d + n = 7 → ∀ l, Rng l → l.length ≤ 4000 → ∃ o : Option (S26 × List Int), Ev (fun k => impl_readItem.f k (strOfNums l) (d : Int)) (encI o) ∧ ∀ x r, o = some (x, r) → WL n x ∧ wtL n x + 2 + r.length ≤ l.length ∧ Rng r
  | 0, d, hd, l, h, hl => by
    refine ⟨none, Ev.step (fun k => by rw [impl_readItem.f]) ?_, fun x r e => by cases e⟩
    cases l with
    | nil => exact ev_pos ((str_toList_nil []).2 rfl) (ev_tt (fun k => by rw [impl_readItem.j0]; try rfl) (Ev.now _))
    | cons c t =>
      refine ev_neg (fun e => by have := (str_toList_nil (c :: t)).1 e; cases this) ?_
      rw [decide_eq_true (by omega)]
      exact ev_tt (fun k => by rw [impl_readItem.j0]; try rfl) (Ev.now _)
  | n + 1, d, hd, l, h, hl => by
    cases l with
    | nil => exact ⟨none, Ev.step (fun k => by rw [impl_readItem.f]) (ev_pos ((str_toList_nil []).2 rfl) (ev_tt (fun k => by rw [impl_readItem.j0]; try rfl) (Ev.now _))), fun x r e => by cases e⟩
    | cons c t =>
      have hc := h.head
      rw [List.length_cons] at hl
      have hrl := impl_rl t h.tail (by omega)
      have start : ∀ res, Ev (fun k => (impl_readLength.f k (strOfNums t)).bind fun bt145 => if bt145.2.2 = true then impl_readItem.j1 k (d : Int) bt145.1 bt145.2.1 (decide (bt145.1 > (bt145.2.1.size : Int))) c (⟨#[]⟩ : ByteArray) else impl_readItem.j1 k (d : Int) bt145.1 bt145.2.1 true c (⟨#[]⟩ : ByteArray)) res → Ev (fun k => impl_readItem.f k (strOfNums (c :: t)) (d : Int)) res := by
        intro res e
        refine Ev.step (fun k => by rw [impl_readItem.f]) (ev_neg (fun e => by have := (str_toList_nil (c :: t)).1 e; cases this) ?_)
        rw [decide_eq_false (by omega)]
        refine Ev.step (fun k => by rw [impl_readItem.j0]) (ev_neg Bool.false_ne_true (ev_pos (by rw [strOfNums_size, List.length_cons]; omega) (ev_pos (by rw [strOfNums_size, List.length_cons]; omega) ?_)))
        rw [str_get0 c t h, w64 (n := c) (by omega) (by omega), str_tail, List.drop_succ_cons, List.drop_zero]
        exact e
      have fail : ∀ (n : Int) (b : ByteArray), Ev (fun k => impl_readItem.j1 k (d : Int) n b true c (⟨#[]⟩ : ByteArray)) (encI none) := fun n b => ev_tt (fun k => by rw [impl_readItem.j1]; try rfl) (Ev.now _)
      cases hr : rlI t with
      | none =>
        rw [hr] at hrl
        exact ⟨none, start _ (Ev.bind hrl (ev_neg Bool.false_ne_true (fail _ _))), fun x r e => by cases e⟩
      | some p =>
        obtain ⟨m, r⟩ := p
        rw [hr] at hrl
        obtain ⟨hm0, hrr, hrl2⟩ := rlI_ok h.tail hr
        by_cases hmr : m > (r.length : Int)
        · refine ⟨none, start _ (Ev.bind hrl (ev_pos rfl ?_)), fun x r e => by cases e⟩
          show Ev (fun k => impl_readItem.j1 k (d : Int) m (strOfNums r) (decide (m > ((strOfNums r).size : Int))) c (⟨#[]⟩ : ByteArray)) _
          rw [strOfNums_size, decide_eq_true hmr]
          exact fail _ _
        · obtain ⟨m, rfl⟩ := Int.eq_ofNat_of_zero_le hm0
          have go : ∀ res, Ev (fun k => if c = 48 then impl_readItem.l0 k (d : Int) (strOfNums (r.drop m)) (strOfNums (r.take m)) c (⟨#[]⟩ : ByteArray) [] else some (c, strOfNums (r.take m), [], strOfNums (r.drop m), true)) res → Ev (fun k => impl_readItem.f k (strOfNums (c :: t)) (d : Int)) res := by
            intro res e
            refine start _ (Ev.bind hrl (ev_pos rfl ?_))
            show Ev (fun k => impl_readItem.j1 k (d : Int) (m : Int) (strOfNums r) (decide ((m : Int) > ((strOfNums r).size : Int))) c (⟨#[]⟩ : ByteArray)) _
            rw [strOfNums_size, decide_eq_false hmr]
            refine Ev.step (fun k => by rw [impl_readItem.j1]) (ev_neg Bool.false_ne_true (ev_pos (by omega) (ev_pos (by rw [strOfNums_size]; omega) ?_)))
            rw [Int.toNat_natCast, str_tail, str_front]
            exact e
          have htl : (r.take m).length = m := by rw [List.length_take]; omega
          have hdl : (r.drop m).length = r.length - m := List.length_drop
          by_cases c48 : c = 48
          · obtain ⟨o, eo, ho⟩ := impl_kids n d (by omega) (impl_total n (d + 1) (by omega)) c (⟨#[]⟩ : ByteArray) (r.drop m) m (r.take m) [] (by omega) (hrr.take m) (fun y hy => by cases hy) (by show 0 + 0 + _ ≤ _; omega)
            refine ⟨_, go _ (ev_pos c48 eo), fun x q e => ?_⟩
            obtain ⟨ks, hks, e⟩ := Option.map_eq_some_iff.1 e
            cases e
            obtain ⟨h1, h2⟩ := ho ks hks
            have h3 : wts n ([] : List S26) = 0 := rfl
            have h4 : ks.length ≤ wts n ks := Nat.le_add_right _ _
            refine ⟨⟨by show 0 ≤ 1048576; omega, by show ks.length ≤ 1048576; omega, h1⟩, ?_, hrr.drop m⟩
            show 0 + wts n ks + 2 + (r.drop m).length ≤ (c :: t).length
            rw [List.length_cons]
            omega
          · refine ⟨some (⟨c, strOfNums (r.take m), []⟩, r.drop m), go _ (ev_neg c48 (Ev.now _)), fun x q e => ?_⟩
            cases e
            refine ⟨WL_flat n _ _ (by rw [strOfNums_size]; omega), ?_, hrr.drop m⟩
            show (strOfNums (r.take m)).size + (0 + 0) + 2 + (r.drop m).length ≤ (c :: t).length
            rw [strOfNums_size, List.length_cons]
            omega
theorem spec_kids (n d : Nat) (hd : d ≤ 6) (item : ∀ l, Rng l → l.length ≤ 4000 → ∀ i : Nat, ∃ o : Option (S26 × Nat), Ev (fun k => spec_l07Read.f k (strOfNums l) (i : Int) ((d + 1 : Nat) : Int)) (encR o) ∧ ∀ x j, o = some (x, j) → WL n x ∧ wtL n x + 2 + i ≤ j ∧ j ≤ l.length)
    (l : List Int) (h : Rng l) (hl : l.length ≤ 4000) (m f : Nat) (hmf : f + m ≤ l.length) (c : Int) (s : ByteArray) : ∀ (N i : Nat) (acc : List S26), f + m ≤ i + N → (∀ y ∈ acc, WL n y) → wts n acc + (f + m - i) ≤ 4000 → f + m ≤ 4000 →
    ∃ o : Option (List S26), Ev (fun k => spec_l07Read.l0 k (strOfNums l) (d : Int) (m : Int) (f : Int) (i : Int) c s acc) (encR (o.map fun ks => (⟨c, s, ks⟩, f + m))) ∧ ∀ ks, o = some ks → (∀ y ∈ ks, WL n y) ∧ wts n ks ≤ wts n acc + (f + m - i) := by
  have hw : wrap64 ((f : Int) + (m : Int)) = ((f + m : Nat) : Int) := by rw [w64 (by omega) (by omega)]; omega
  intro N
  induction N with
  | zero =>
    intro i acc hi ha hb hf
    refine ⟨some acc, Ev.step (fun k => by rw [spec_l07Read.l0]) ?_, fun ks e => by cases e; exact ⟨ha, by omega⟩⟩
    rw [hw]
    exact ev_neg (by omega) (Ev.now _)
  | succ N ih =>
    intro i acc hi ha hb hf
    by_cases hlt : i < f + m
    · have htl : (l.take (f + m)).length = f + m := by rw [List.length_take]; omega
      obtain ⟨o, eo, ho⟩ := item (l.take (f + m)) (h.take _) (by omega) i
      have start : ∀ res, Ev (fun k => (spec_l07Read.f k (strOfNums (l.take (f + m))) (i : Int) ((d + 1 : Nat) : Int)).bind fun bt207 => (if bt207.2.2.2.2 = true then (if (acc.length : Int) ≥ 40 then (some (0, (⟨#[]⟩ : ByteArray), ([] : List (S26)), 0, false)) else (if acc.length < 2932031007402 then (spec_l07Read.l0 k (strOfNums l) (d : Int) (m : Int) (f : Int) bt207.2.2.2.1 c s (acc ++ [(⟨bt207.1, bt207.2.1, bt207.2.2.1⟩ : S26)])) else (none))) else (some (0, (⟨#[]⟩ : ByteArray), ([] : List (S26)), 0, false)))) res → Ev (fun k => spec_l07Read.l0 k (strOfNums l) (d : Int) (m : Int) (f : Int) (i : Int) c s acc) res := by
        intro res e
        refine Ev.step (fun k => by rw [spec_l07Read.l0]) ?_
        rw [hw, show wrap64 ((d : Int) + 1) = ((d + 1 : Nat) : Int) by rw [w64 (by omega) (by omega)]; omega]
        refine ev_pos (by omega) (ev_pos (by omega) (ev_pos (by rw [strOfNums_size]; omega) ?_))
        rw [Int.toNat_natCast, str_front]
        exact e
      cases o with
      | none => exact ⟨none, start _ (Ev.bind eo (ev_neg Bool.false_ne_true (Ev.now _))), fun ks e => by cases e⟩
      | some p =>
        obtain ⟨x, j⟩ := p
        obtain ⟨hx, hj, hjl⟩ := ho x j rfl
        have hac : acc.length ≤ wts n acc := Nat.le_add_right _ _
        by_cases h40 : (acc.length : Int) ≥ 40
        · exact ⟨none, start _ (Ev.bind eo (ev_pos rfl (ev_pos h40 (Ev.now _)))), fun ks e => by cases e⟩
        · obtain ⟨o2, e2, h2⟩ := ih j (acc ++ [x]) (by omega) (fun y hy => (List.mem_append.1 hy).elim (ha y) (fun h => by obtain rfl := List.mem_singleton.1 h; exact hx)) (by rw [wts_snoc]; omega) hf
          refine ⟨o2, start _ (Ev.bind eo (ev_pos rfl (ev_neg h40 (ev_pos (by omega) ?_)))), fun ks e => ⟨(h2 ks e).1, by have := (h2 ks e).2; rw [wts_snoc] at this; omega⟩⟩
          show Ev (fun k => spec_l07Read.l0 k (strOfNums l) (d : Int) (m : Int) (f : Int) (j : Int) c s (acc ++ [(⟨x.f0, x.f1, x.f2⟩ : S26)])) _
          rw [etaL]
          exact e2
    · refine ⟨some acc, Ev.step (fun k => by rw [spec_l07Read.l0]) ?_, fun ks e => by cases e; exact ⟨ha, by omega⟩⟩
      rw [hw]
      exact ev_neg (by omega) (Ev.now _)
theorem spec_total : ∀ (n d : Nat), d + n = 7 → ∀ l, Rng l → l.length ≤ 4000 → ∀ i : Nat, ∃ o : Option (S26 × Nat), Ev (fun k => spec_l07Read.f k (strOfNums l) (i : Int) (d : Int)) (encR o) ∧ ∀ x j, o = some (x, j) → WL n x ∧ wtL n x + 2 + i ≤ j ∧ j ≤ l.length
  | 0, d, hd, l, h, hl, i => by
    refine ⟨none, Ev.step (fun k => by rw [spec_l07Read.f]) ?_, fun x r e => by cases e⟩
    rw [strOfNums_size]
    by_cases hi : (i : Int) ≥ (l.length : Int)
    · exact ev_pos hi (ev_tt (fun k => by rw [spec_l07Read.j0]; try rfl) (Ev.now _))
    · refine ev_neg hi ?_
      rw [decide_eq_true (by omega)]
      exact ev_tt (fun k => by rw [spec_l07Read.j0]; try rfl) (Ev.now _)
  | n + 1, d, hd, l, h, hl, i => by
    by_cases hi : i < l.length
    · obtain ⟨c, hc⟩ : ∃ c, l.getD i 0 = c := ⟨_, rfl⟩
      have hdr : l.drop i = c :: l.drop (i + 1) := by
        rw [List.drop_eq_getElem_cons hi, ← hc, List.getD_eq_getElem?_getD, List.getElem?_eq_getElem hi]
        rfl
      have hcr : 0 ≤ c ∧ c < 256 := (hdr ▸ h.drop i : Rng (c :: l.drop (i + 1))).head
      have hdl : (l.drop (i + 1)).length = l.length - (i + 1) := List.length_drop
      have hsz := spec_sz l h (by omega) (i + 1)
      have start : ∀ res, Ev (fun k => (spec_l07Size.f k (strOfNums l) ((i + 1 : Nat) : Int)).bind fun bt204 => (if bt204.2.2 = true then (spec_l07Read.j1 k (strOfNums l) (d : Int) bt204.1 bt204.2.1 (decide (bt204.1 > (wrap64 ((l.length : Int) - bt204.2.1)))) c (⟨#[]⟩ : ByteArray)) else (spec_l07Read.j1 k (strOfNums l) (d : Int) bt204.1 bt204.2.1 true c (⟨#[]⟩ : ByteArray)))) res → Ev (fun k => spec_l07Read.f k (strOfNums l) (i : Int) (d : Int)) res := by
        intro res e
        refine Ev.step (fun k => by rw [spec_l07Read.f]) ?_
        rw [strOfNums_size]
        refine ev_neg (by omega) ?_
        rw [decide_eq_false (by omega)]
        refine ev_ff (fun k => by rw [spec_l07Read.j0]) ?_
        rw [strOfNums_size, str_get l h, hc, w64 (n := c) (by omega) (by omega), show wrap64 ((i : Int) + 1) = ((i + 1 : Nat) : Int) by rw [w64 (by omega) (by omega)]; omega]
        exact ev_pos (by omega) (ev_pos (by omega) e)
      have fail : ∀ (a b : Int), Ev (fun k => spec_l07Read.j1 k (strOfNums l) (d : Int) a b true c (⟨#[]⟩ : ByteArray)) (encR none) := fun a b => ev_tt (fun k => by rw [spec_l07Read.j1]; try rfl) (Ev.now _)
      cases hr : rlS (l.drop (i + 1)) with
      | none =>
        rw [hr] at hsz
        exact ⟨none, start _ (Ev.bind hsz (ev_neg Bool.false_ne_true (fail _ _))), fun x r e => by cases e⟩
      | some p =>
        obtain ⟨m, r⟩ := p
        obtain ⟨hm0, hrr, hrl2⟩ := rlS_ok (h.drop (i + 1)) hr
        obtain ⟨m, rfl⟩ := Int.eq_ofNat_of_zero_le hm0
        obtain ⟨f, hf⟩ : ∃ f : Nat, l.length - r.length = f := ⟨_, rfl⟩
        have hfz : (l.length : Int) - (r.length : Nat) = (f : Int) := by omega
        have e3 : encS l.length (some ((m : Int), r)) = ((m : Int), (f : Int), true) := by rw [← hfz]; rfl
        rw [hr, e3] at hsz
        have ew : wrap64 ((l.length : Int) - (f : Int)) = (r.length : Int) := by rw [w64 (by omega) (by omega)]; omega
        by_cases hmr : (m : Int) > (r.length : Int)
        · refine ⟨none, start _ (Ev.bind hsz (ev_pos rfl ?_)), fun x r e => by cases e⟩
          show Ev (fun k => spec_l07Read.j1 k (strOfNums l) (d : Int) (m : Int) (f : Int) (decide ((m : Int) > wrap64 ((l.length : Int) - (f : Int)))) c (⟨#[]⟩ : ByteArray)) _
          rw [ew, decide_eq_true hmr]
          exact fail _ _
        · have go : ∀ res, Ev (fun k => if c = 48 then spec_l07Read.l0 k (strOfNums l) (d : Int) (m : Int) (f : Int) (f : Int) c (⟨#[]⟩ : ByteArray) [] else some (c, strOfNums ((l.drop f).take m), [], ((f + m : Nat) : Int), true)) res → Ev (fun k => spec_l07Read.f k (strOfNums l) (i : Int) (d : Int)) res := by
            intro res e
            refine start _ (Ev.bind hsz (ev_pos rfl ?_))
            show Ev (fun k => spec_l07Read.j1 k (strOfNums l) (d : Int) (m : Int) (f : Int) (decide ((m : Int) > wrap64 ((l.length : Int) - (f : Int)))) c (⟨#[]⟩ : ByteArray)) _
            rw [ew, decide_eq_false hmr]
            clear ew
            refine ev_ff (fun k => by rw [spec_l07Read.j1]) ?_
            by_cases c48 : c = 48
            · refine ev_pos c48 ?_
              simpa only [if_pos c48] using e
            · refine ev_neg c48 ?_
              rw [show wrap64 ((f : Int) + (m : Int)) = ((f + m : Nat) : Int) by rw [w64 (by omega) (by omega)]; omega]
              refine ev_pos (by omega) (ev_pos (by omega) (ev_pos (by rw [strOfNums_size]; omega) ?_))
              rw [Int.toNat_natCast, Int.toNat_natCast, str_extract, show f + m - f = m by omega]
              simpa only [if_neg c48] using e
          by_cases c48 : c = 48
          · obtain ⟨o, eo, ho⟩ := spec_kids n d (by omega) (spec_total n (d + 1) (by omega)) l h hl m f (by omega) c (⟨#[]⟩ : ByteArray) m f [] (by omega) (fun y hy => by cases hy) (by show 0 + 0 + _ ≤ _; omega) (by omega)
            refine ⟨_, go _ (ev_pos c48 eo), fun x q e => ?_⟩
            obtain ⟨ks, hks, e⟩ := Option.map_eq_some_iff.1 e
            cases e
            obtain ⟨h1, h2⟩ := ho ks hks
            have h3 : wts n ([] : List S26) = 0 := rfl
            have h4 : ks.length ≤ wts n ks := Nat.le_add_right _ _
            refine ⟨⟨by show 0 ≤ 1048576; omega, by show ks.length ≤ 1048576; omega, h1⟩, ?_, by omega⟩
            show 0 + wts n ks + 2 + i ≤ f + m
            omega
          · refine ⟨some (⟨c, strOfNums ((l.drop f).take m), []⟩, f + m), go _ (ev_neg c48 (Ev.now _)), fun x q e => ?_⟩
            cases e
            have hz : ((l.drop f).take m).length ≤ m := by rw [List.length_take]; omega
            refine ⟨WL_flat n _ _ (by rw [strOfNums_size]; omega), ?_, by omega⟩
            show (strOfNums ((l.drop f).take m)).size + (0 + 0) + 2 + i ≤ f + m
            rw [strOfNums_size]
            omega
    · refine ⟨none, Ev.step (fun k => by rw [spec_l07Read.f]) ?_, fun x r e => by cases e⟩
      rw [strOfNums_size]
      exact ev_pos (by omega) (ev_tt (fun k => by rw [spec_l07Read.j0]; try rfl) (Ev.now _))
/-! The text of a right item comes back. -/
theorem valZ_snoc (l : List Int) (b : Int) : valZ (l ++ [b]) = 256 * valZ l + b := by unfold valZ; rw [List.foldl_append]; rfl
theorem valZ_be (n : Nat) : valZ (be n) = (n : Int) := by
  induction n using Nat.strongRecOn with
  | _ n ih =>
    rw [be]
    by_cases h : 0 < n
    · rw [if_pos h, valZ_snoc, ih (n / 256) (by omega)]
      omega
    · rw [if_neg h]
      show (0 : Int) = n
      omega
theorem be_two (m : Nat) (h : 128 ≤ m) (hm : m ≤ 4000) : 1 ≤ (be m).length ∧ (be m).length ≤ 2 := by
  have h2 := be_len_k 2 m (by rw [show (256 : Nat) ^ 2 = 65536 by decide]; omega)
  have h1 : be m ≠ [] := be_pos m (by omega)
  exact ⟨by cases hb : be m with | nil => exact absurd hb h1 | cons a l => simp, h2⟩
theorem rlI_len (m : Nat) (hm : m ≤ 4000) (q : List Int) : rlI (lenL m ++ q) = some ((m : Int), q) := by
  unfold lenL
  by_cases h : m < 128
  · rw [if_pos h, List.cons_append, List.nil_append, rlI, if_pos (by omega), show (m : Int) % 256 = m by omega]
  · rw [if_neg h]
    obtain ⟨h1, h2⟩ := be_two m (by omega) hm
    rw [List.cons_append, rlI, if_neg (by omega), show (128 + ((be m).length : Int)) % 256 - 128 = ((be m).length : Int) by omega, Int.toNat_natCast, if_pos ⟨by omega, by rw [List.length_append]; omega⟩, List.take_left, List.drop_left, valZ_be]
theorem rlS_len (m : Nat) (hm : m ≤ 4000) (q : List Int) : rlS (lenL m ++ q) = some ((m : Int), q) := by
  unfold lenL
  by_cases h : m < 128
  · rw [if_pos h, List.cons_append, List.nil_append, rlS, if_pos (by omega), show (m : Int) % 256 = m by omega]
  · rw [if_neg h]
    obtain ⟨h1, h2⟩ := be_two m (by omega) hm
    rw [List.cons_append, rlS, if_neg (by omega), show (128 + ((be m).length : Int)) % 256 - 128 = ((be m).length : Int) by omega, Int.toNat_natCast, if_pos ⟨⟨by omega, by omega⟩, by rw [List.length_append]; omega⟩, List.take_left, List.drop_left, valZ_be]
theorem ok_tag {n : Nat} {x : S26} {d : Int} (h : okV (n + 1) x d = true) : 0 ≤ x.f0 ∧ x.f0 < 128 := by
  have h2 : (if x.f0 = 48 then (if x.f1.toList = ([] : List UInt8) ∧ x.f2.length ≤ 40 ∧ d < 6 then x.f2.all (fun y => okV n y (d + 1)) else false) else (if x.f2.length = 0 then plainV x else false)) = true := h
  by_cases c : x.f0 = 48
  · omega
  · rw [if_neg c] at h2
    split at h2
    · unfold plainV at h2
      by_cases c1 : x.f0 = 1
      · omega
      · rw [if_neg c1] at h2
        by_cases c2 : x.f0 = 2
        · omega
        · rw [if_neg c2] at h2
          by_cases c3 : x.f0 = 12
          · omega
          · rw [if_neg c3] at h2
            have : x.f0 = 4 := by simpa using h2
            omega
    · cases h2
theorem ok_leaf {n : Nat} {x : S26} {d : Int} (h : okV (n + 1) x d = true) (c : ¬ x.f0 = 48) : x.f2 = [] := by
  have h2 : (if x.f0 = 48 then (if x.f1.toList = ([] : List UInt8) ∧ x.f2.length ≤ 40 ∧ d < 6 then x.f2.all (fun y => okV n y (d + 1)) else false) else (if x.f2.length = 0 then plainV x else false)) = true := h
  rw [if_neg c] at h2
  split at h2
  · rename_i q
    exact List.eq_nil_of_length_eq_zero q
  · cases h2
theorem ok_list {n : Nat} {x : S26} {d : Int} (h : okV (n + 1) x d = true) (c : x.f0 = 48) : x.f2.length ≤ 40 ∧ d < 6 := by
  have h2 : (if x.f0 = 48 then (if x.f1.toList = ([] : List UInt8) ∧ x.f2.length ≤ 40 ∧ d < 6 then x.f2.all (fun y => okV n y (d + 1)) else false) else (if x.f2.length = 0 then plainV x else false)) = true := h
  rw [if_pos c] at h2
  split at h2
  · rename_i q
    exact q.2
  · cases h2
theorem lenL_pos (n : Nat) : 1 ≤ (lenL n).length := by
  unfold lenL
  split
  · simp
  · simp
theorem ok_text {n : Nat} {x : S26} {d : Int} (h : okV n x d = true) : 2 ≤ (textL n x).length := by
  cases n with
  | zero => cases h
  | succ n =>
    show 2 ≤ (inL x.f0 (if x.f0 = 48 then x.f2.flatMap (textL n) else bytesOf x.f1)).length
    generalize (if x.f0 = 48 then x.f2.flatMap (textL n) else bytesOf x.f1) = s
    have := lenL_pos s.length
    unfold inL
    rw [List.length_cons, List.length_append]
    omega
theorem impl_go (c : Int) (t : List Int) (h : Rng (c :: t)) (hl : t.length ≤ 900000) (d m : Nat) (hd : d ≤ 6) (r : List Int) (hr : rlI t = some ((m : Int), r)) (hmr : m ≤ r.length) (res : Int × ByteArray × List S26 × ByteArray × Bool)
    (e : Ev (fun k => if c = 48 then impl_readItem.l0 k (d : Int) (strOfNums (r.drop m)) (strOfNums (r.take m)) c (⟨#[]⟩ : ByteArray) [] else some (c, strOfNums (r.take m), [], strOfNums (r.drop m), true)) res) : Ev (fun k => impl_readItem.f k (strOfNums (c :: t)) (d : Int)) res := by
  have hc := h.head
  have hrl := impl_rl t h.tail (by omega)
  rw [hr] at hrl
  have hrr := rlI_ok h.tail hr
  refine Ev.step (fun k => by rw [impl_readItem.f]) (ev_neg (fun e => by have := (str_toList_nil (c :: t)).1 e; cases this) ?_)
  rw [decide_eq_false (by omega)]
  refine ev_ff (fun k => by rw [impl_readItem.j0]) (ev_pos (by rw [strOfNums_size, List.length_cons]; omega) (ev_pos (by rw [strOfNums_size, List.length_cons]; omega) ?_))
  rw [str_get0 c t h, w64 (n := c) (by omega) (by omega), str_tail, List.drop_succ_cons, List.drop_zero]
  refine Ev.bind hrl (ev_pos rfl ?_)
  show Ev (fun k => impl_readItem.j1 k (d : Int) (m : Int) (strOfNums r) (decide ((m : Int) > ((strOfNums r).size : Int))) c (⟨#[]⟩ : ByteArray)) _
  rw [strOfNums_size, decide_eq_false (by omega)]
  refine ev_ff (fun k => by rw [impl_readItem.j1]) (ev_pos (by omega) (ev_pos (by rw [strOfNums_size]; omega) ?_))
  rw [Int.toNat_natCast, str_tail, str_front]
  exact e
theorem text_Rng (n : Nat) (x : S26) : Rng (textL n x) := text_rng n x
theorem flat_Rng (n : Nat) (l : List S26) : Rng (l.flatMap (textL n)) := fun b hb => by
  obtain ⟨y, _, hy⟩ := List.mem_flatMap.1 hb
  exact text_rng n y b hy
theorem flat_cons {l : List S26} {n i : Nat} (h : i < l.length) : (l.drop i).flatMap (textL n) = textL n l[i] ++ (l.drop (i + 1)).flatMap (textL n) := by
  rw [List.drop_eq_getElem_cons h, List.flatMap_cons]
theorem flat_split (l : List S26) (n i : Nat) : l.flatMap (textL n) = (l.take i).flatMap (textL n) ++ (l.drop i).flatMap (textL n) := by rw [← List.flatMap_append, List.take_append_drop]
theorem impl_back : ∀ (n : Nat) (x : S26) (d : Nat), d ≤ 6 → okV n x (d : Int) = true → (textL n x).length ≤ 4000 → ∀ rest, Rng rest → rest.length ≤ 100000 → Ev (fun k => impl_readItem.f k (strOfNums (textL n x ++ rest)) (d : Int)) (x.f0, x.f1, x.f2, strOfNums rest, true)
  | 0, _, _, _, h, _, _, _, _ => by cases h
  | n + 1, x, d, hd, ho, hl, rest, hr, hrl => by
    have ht := ok_tag ho
    obtain ⟨s, hs⟩ : ∃ s, (if x.f0 = 48 then x.f2.flatMap (textL n) else bytesOf x.f1) = s := ⟨_, rfl⟩
    have etx : textL (n + 1) x = x.f0 :: (lenL s.length ++ s) := by
      show inL x.f0 (if x.f0 = 48 then x.f2.flatMap (textL n) else bytesOf x.f1) = _
      rw [hs]
      unfold inL
      rw [show x.f0 % 256 = x.f0 by omega]
    have hlen := hl
    rw [etx, List.length_cons, List.length_append] at hlen
    have hrs : Rng s := by
      rw [← hs]
      split
      · exact flat_Rng n _
      · exact bytes_rng _
    rw [etx, List.cons_append, List.append_assoc]
    have hR : Rng (x.f0 :: (lenL s.length ++ (s ++ rest))) := fun b hb => by
      rcases List.mem_cons.1 hb with rfl | hb
      · omega
      · exact ((show Rng (lenL s.length) from lenL_rng _).app (hrs.app hr)) b hb
    refine impl_go x.f0 _ hR (by rw [List.length_append, List.length_append]; omega) d s.length hd (s ++ rest) (rlI_len s.length (by omega) _) (by rw [List.length_append]; omega) _ ?_
    rw [List.take_left, List.drop_left]
    by_cases c : x.f0 = 48
    · obtain ⟨hk40, hd6⟩ := ok_list ho c
      obtain ⟨he, hko⟩ := ok_nil ho c
      rw [if_pos c] at hs
      refine ev_pos c ?_
      have loop : ∀ (m i : Nat), i + m = x.f2.length → Ev (fun k => impl_readItem.l0 k (d : Int) (strOfNums rest) (strOfNums ((x.f2.drop i).flatMap (textL n))) x.f0 (⟨#[]⟩ : ByteArray) (x.f2.take i)) (x.f0, x.f1, x.f2, strOfNums rest, true) := by
        intro m
        induction m with
        | zero =>
          intro i hi
          rw [List.drop_eq_nil_of_le (by omega), List.take_of_length_le (by omega), show x.f1 = (⟨#[]⟩ : ByteArray) from empty_of _ he]
          exact Ev.step (fun k => by rw [impl_readItem.l0]; try rfl) (ev_pos ((str_toList_nil []).2 rfl) (Ev.now _))
        | succ m ih =>
          intro i hi
          have hlt : i < x.f2.length := by omega
          have hm := List.getElem_mem hlt
          have h2 := ok_text (hko _ hm)
          have hsl : s.length = ((x.f2.take i).flatMap (textL n)).length + (textL n x.f2[i]).length + ((x.f2.drop (i + 1)).flatMap (textL n)).length := by
            rw [← hs, flat_split x.f2 n i, flat_cons hlt, List.length_append, List.length_append]
            omega
          rw [flat_cons hlt]
          refine Ev.step (fun k => by rw [impl_readItem.l0]) (ev_neg (fun e => by have := congrArg List.length ((str_toList_nil _).1 e); rw [List.length_append, List.length_nil] at this; omega) ?_)
          rw [show wrap64 ((d : Int) + 1) = ((d + 1 : Nat) : Int) by rw [w64 (by omega) (by omega)]; omega]
          refine Ev.bind (impl_back n x.f2[i] (d + 1) (by omega) (by have := hko _ hm; rwa [show ((d : Int) + 1) = ((d + 1 : Nat) : Int) by omega] at this) (by omega) _ (flat_Rng n _) (by omega)) (ev_pos rfl (ev_pos (by rw [List.length_take]; omega) ?_))
          have h3 := ih (i + 1) (by omega)
          rw [List.take_succ_eq_append_getElem hlt] at h3
          simp only [etaL]
          exact h3
      have h0 := loop x.f2.length 0 (by omega)
      rw [List.drop_zero, List.take_zero, hs] at h0
      exact h0
    · rw [if_neg c] at hs
      refine ev_neg c ?_
      rw [← hs, str_bytes, ok_leaf ho c]
      exact Ev.now _
theorem spec_go (l : List Int) (h : Rng l) (hl : l.length ≤ 900000) (i d m : Nat) (hd : d ≤ 6) (c : Int) (t : List Int) (hdr : l.drop i = c :: t) (r : List Int) (hr : rlS t = some ((m : Int), r)) (f : Nat) (hf : f + r.length = l.length) (hmr : m ≤ r.length) (res : Int × ByteArray × List S26 × Int × Bool)
    (e : Ev (fun k => if c = 48 then spec_l07Read.l0 k (strOfNums l) (d : Int) (m : Int) (f : Int) (f : Int) c (⟨#[]⟩ : ByteArray) [] else some (c, strOfNums ((l.drop f).take m), [], ((f + m : Nat) : Int), true)) res) : Ev (fun k => spec_l07Read.f k (strOfNums l) (i : Int) (d : Int)) res := by
  have hlen := congrArg List.length hdr
  rw [List.length_drop, List.length_cons] at hlen
  have hi : i < l.length := by omega
  have ht : l.drop (i + 1) = t := by
    have := congrArg (List.drop 1) hdr
    rwa [List.drop_drop, List.drop_succ_cons, List.drop_zero] at this
  have hc : l.getD i 0 = c := by
    have h2 : (l.drop i)[0]? = some c := by rw [hdr]; rfl
    rw [List.getElem?_drop, Nat.add_zero] at h2
    rw [List.getD_eq_getElem?_getD, h2]
    rfl
  have hcr : 0 ≤ c ∧ c < 256 := (hdr ▸ h.drop i : Rng (c :: t)).head
  have hsz := spec_sz l h (by omega) (i + 1)
  have e3 : encS l.length (some ((m : Int), r)) = ((m : Int), (f : Int), true) := by
    show ((m : Int), (l.length : Int) - (r.length : Nat), true) = _
    rw [show (l.length : Int) - (r.length : Nat) = (f : Int) by omega]
  rw [ht, hr, e3] at hsz
  refine Ev.step (fun k => by rw [spec_l07Read.f]) ?_
  rw [strOfNums_size]
  refine ev_neg (by omega) ?_
  rw [decide_eq_false (by omega)]
  refine ev_ff (fun k => by rw [spec_l07Read.j0]) ?_
  rw [strOfNums_size, str_get l h, hc, w64 (n := c) (by omega) (by omega), show wrap64 ((i : Int) + 1) = ((i + 1 : Nat) : Int) by rw [w64 (by omega) (by omega)]; omega]
  refine ev_pos (by omega) (ev_pos (by omega) (Ev.bind hsz (ev_pos rfl ?_)))
  show Ev (fun k => spec_l07Read.j1 k (strOfNums l) (d : Int) (m : Int) (f : Int) (decide ((m : Int) > wrap64 ((l.length : Int) - (f : Int)))) c (⟨#[]⟩ : ByteArray)) _
  rw [show wrap64 ((l.length : Int) - (f : Int)) = (r.length : Int) by rw [w64 (by omega) (by omega)]; omega, decide_eq_false (by omega)]
  refine ev_ff (fun k => by rw [spec_l07Read.j1]) ?_
  by_cases c48 : c = 48
  · refine ev_pos c48 ?_
    simpa only [if_pos c48] using e
  · refine ev_neg c48 ?_
    rw [show wrap64 ((f : Int) + (m : Int)) = ((f + m : Nat) : Int) by rw [w64 (by omega) (by omega)]; omega]
    refine ev_pos (by omega) (ev_pos (by omega) (ev_pos (by rw [strOfNums_size]; omega) ?_))
    rw [Int.toNat_natCast, Int.toNat_natCast, str_extract, show f + m - f = m by omega]
    simpa only [if_neg c48] using e
theorem spec_back : ∀ (n : Nat) (x : S26) (d : Nat), d ≤ 6 → okV n x (d : Int) = true → (textL n x).length ≤ 4000 → ∀ pre post, Rng pre → Rng post → pre.length + (textL n x).length + post.length ≤ 100000 → Ev (fun k => spec_l07Read.f k (strOfNums (pre ++ (textL n x ++ post))) (pre.length : Int) (d : Int)) (x.f0, x.f1, x.f2, ((pre.length + (textL n x).length : Nat) : Int), true)
  | 0, _, _, _, h, _, _, _, _, _, _ => by cases h
  | n + 1, x, d, hd, ho, hl, pre, post, hp, hq, hpl => by
    have ht := ok_tag ho
    obtain ⟨s, hs⟩ : ∃ s, (if x.f0 = 48 then x.f2.flatMap (textL n) else bytesOf x.f1) = s := ⟨_, rfl⟩
    have etx : textL (n + 1) x = x.f0 :: (lenL s.length ++ s) := by
      show inL x.f0 (if x.f0 = 48 then x.f2.flatMap (textL n) else bytesOf x.f1) = _
      rw [hs]
      unfold inL
      rw [show x.f0 % 256 = x.f0 by omega]
    have hlen := hl
    rw [etx, List.length_cons, List.length_append] at hlen
    have hrs : Rng s := by
      rw [← hs]
      split
      · exact flat_Rng n _
      · exact bytes_rng _
    obtain ⟨f, hf⟩ : ∃ f, pre.length + 1 + (lenL s.length).length = f := ⟨_, rfl⟩
    have htl : (textL (n + 1) x).length = 1 + (lenL s.length).length + s.length := by rw [etx, List.length_cons, List.length_append]; omega
    have hall : Rng (pre ++ (textL (n + 1) x ++ post)) := hp.app ((text_Rng _ _).app hq)
    have hallL : (pre ++ (textL (n + 1) x ++ post)).length = pre.length + ((textL (n + 1) x).length + post.length) := by rw [List.length_append, List.length_append]
    have hdf : (pre ++ (textL (n + 1) x ++ post)).drop f = s ++ post := by
      rw [etx, show f = pre.length + (1 + (lenL s.length).length) by omega, ← List.drop_drop, List.drop_left, Nat.add_comm 1, List.cons_append, List.drop_succ_cons, List.append_assoc, List.drop_left]
    rw [show pre.length + (textL (n + 1) x).length = f + s.length by omega]
    refine spec_go _ hall (by omega) pre.length d s.length hd x.f0 (lenL s.length ++ (s ++ post)) (by rw [List.drop_left, etx, List.cons_append, List.append_assoc]) (s ++ post) (rlS_len s.length (by omega) _) f (by rw [hallL, List.length_append]; omega) (by rw [List.length_append]; omega) _ ?_
    by_cases c : x.f0 = 48
    · obtain ⟨hk40, hd6⟩ := ok_list ho c
      obtain ⟨he, hko⟩ := ok_nil ho c
      rw [if_pos c] at hs
      refine ev_pos c ?_
      have htk : (pre ++ (textL (n + 1) x ++ post)).take (f + s.length) = pre ++ textL (n + 1) x := by
        rw [← List.append_assoc, show f + s.length = (pre ++ textL (n + 1) x).length by rw [List.length_append]; omega, List.take_left]
      have loop : ∀ (m i : Nat), i + m = x.f2.length → Ev (fun k => spec_l07Read.l0 k (strOfNums (pre ++ (textL (n + 1) x ++ post))) (d : Int) (s.length : Int) (f : Int) ((f + ((x.f2.take i).flatMap (textL n)).length : Nat) : Int) x.f0 (⟨#[]⟩ : ByteArray) (x.f2.take i)) (x.f0, x.f1, x.f2, ((f + s.length : Nat) : Int), true) := by
        intro m
        induction m with
        | zero =>
          intro i hi
          rw [List.take_of_length_le (by omega), show x.f1 = (⟨#[]⟩ : ByteArray) from empty_of _ he]
          refine Ev.step (fun k => by rw [spec_l07Read.l0]) ?_
          rw [wrap_add f s.length (by omega), hs]
          exact ev_neg (by omega) (Ev.now _)
        | succ m ih =>
          intro i hi
          have hlt : i < x.f2.length := by omega
          have hm := List.getElem_mem hlt
          have h2 := ok_text (hko _ hm)
          have hsplit : s = (x.f2.take i).flatMap (textL n) ++ (textL n x.f2[i] ++ (x.f2.drop (i + 1)).flatMap (textL n)) := by rw [← hs, flat_split x.f2 n i, flat_cons hlt]
          have hsl : s.length = ((x.f2.take i).flatMap (textL n)).length + ((textL n x.f2[i]).length + ((x.f2.drop (i + 1)).flatMap (textL n)).length) := by
            have h5 := congrArg List.length hsplit
            rw [List.length_append, List.length_append] at h5
            exact h5
          obtain ⟨hd_, hhd⟩ : ∃ q, pre ++ (x.f0 :: (lenL s.length ++ (x.f2.take i).flatMap (textL n))) = q := ⟨_, rfl⟩
          have hhl : hd_.length = f + ((x.f2.take i).flatMap (textL n)).length := by
            rw [← hhd, List.length_append, List.length_cons, List.length_append]; omega
          have hcut : pre ++ textL (n + 1) x = hd_ ++ (textL n x.f2[i] ++ (x.f2.drop (i + 1)).flatMap (textL n)) := by
            have h5 : pre ++ (x.f0 :: (lenL s.length ++ ((x.f2.take i).flatMap (textL n) ++ (textL n x.f2[i] ++ (x.f2.drop (i + 1)).flatMap (textL n))))) = pre ++ (x.f0 :: (lenL s.length ++ s)) := congrArg (fun q => pre ++ (x.f0 :: (lenL s.length ++ q))) hsplit.symm
            rw [etx, ← h5, ← hhd]
            simp only [List.append_assoc, List.cons_append]
          have hrh : Rng hd_ := by
            rw [← hhd]
            refine hp.app (fun b hb => ?_)
            rcases List.mem_cons.1 hb with rfl | hb
            · omega
            · exact ((show Rng (lenL s.length) from lenL_rng _).app (flat_Rng n _)) b hb
          refine Ev.step (fun k => by rw [spec_l07Read.l0]) ?_
          rw [wrap_add f s.length (by omega), wrap_succ d (by omega)]
          refine ev_pos (by omega) (ev_pos (by omega) (ev_pos (by rw [strOfNums_size]; omega) ?_))
          rw [Int.toNat_natCast, str_front, htk, hcut, ← hhl]
          refine Ev.bind (spec_back n x.f2[i] (d + 1) (by omega) (by have := hko _ hm; rwa [show ((d : Int) + 1) = ((d + 1 : Nat) : Int) by omega] at this) (by omega) hd_ _ hrh (flat_Rng n _) (by omega)) (ev_pos rfl (ev_neg (by rw [List.length_take]; omega) (ev_pos (by rw [List.length_take]; omega) ?_)))
          have h3 := ih (i + 1) (by omega)
          rw [flat_step hlt, List.length_append, List.take_succ_eq_append_getElem hlt] at h3
          simp only [etaL]
          rw [hhl, Nat.add_assoc]
          exact h3
      have h0 := loop x.f2.length 0 (by omega)
      exact h0
    · rw [if_neg c] at hs
      refine ev_neg c ?_
      rw [hdf, List.take_left, ← hs, str_bytes, ok_leaf ho c]
      exact Ev.now _

/-! ReadItem: both sides answer alike. -/
theorem Ev.det {α : Type} {g : Nat → Option α} {r r' : α} (h : Ev g r) (k : Ev g r') : r = r' := by
  obtain ⟨K, h⟩ := h
  obtain ⟨K', k⟩ := k
  have a := h (max K K') (Nat.le_max_left _ _)
  have b := k (max K K') (Nat.le_max_right _ _)
  rw [a] at b
  exact Option.some.inj b
def encRI : Option S26 → Int × ByteArray × List S26 × Bool
  | none => (0, (⟨#[]⟩ : ByteArray), [], false)
  | some x => (x.f0, x.f1, x.f2, true)
/-- t is the text of the right item x (of a depth n). -/
structure IsText (t : ByteArray) (n : Nat) (x : S26) : Prop where
  wl : WL n x
  wt : wtL n x ≤ 1048576
  tx : itemTextV n x = (t, true)
theorem IsText.get {t : ByteArray} {n : Nat} {x : S26} (h : IsText t n x) : okV n x 0 = true ∧ (textL n x).length ≤ 4000 ∧ t = strOfNums (textL n x) := by
  have h2 := h.tx
  unfold itemTextV at h2
  split at h2
  · rename_i q
    exact ⟨q.1, q.2, (congrArg Prod.fst h2).symm⟩
  · cases h2
theorem toList_inj {s t : ByteArray} (h : s.toList = t.toList) : s = t := by
  rw [ByteArray.toList_eq, ByteArray.toList_eq] at h
  exact ByteArray.ext (Array.toList_inj.1 h)
theorem same4 {x y : S26} {α : Type} {a b : α} (h : (x.f0, x.f1, x.f2, a) = (y.f0, y.f1, y.f2, b)) : x = y := by
  injection h with h0 h
  injection h with h1 h
  injection h with h2 h
  rw [← etaL x, ← etaL y, h0, h1, h2]
theorem IsText.uniq {t : ByteArray} {n m : Nat} {x y : S26} (h : IsText t n x) (k : IsText t m y) : x = y := by
  obtain ⟨h1, h2, h3⟩ := h.get
  obtain ⟨k1, k2, k3⟩ := k.get
  have a := impl_back n x 0 (by omega) h1 h2 [] (fun b hb => by cases hb) (by simp)
  have b := impl_back m y 0 (by omega) k1 k2 [] (fun b hb => by cases hb) (by simp)
  rw [List.append_nil, ← h3] at a
  rw [List.append_nil, ← k3] at b
  exact same4 (Ev.det a b)
/-- What is read with something left behind it is no item's text. -/
theorem IsText.more {t : ByteArray} {n m : Nat} {x y : S26} (q : List Int) (hq : Rng q) (hne : q ≠ []) (hl : q.length ≤ 4000) (h : IsText t n x) (k : IsText (t ++ strOfNums q) m y) : False := by
  obtain ⟨h1, h2, h3⟩ := h.get
  obtain ⟨k1, k2, k3⟩ := k.get
  have a := impl_back n x 0 (by omega) h1 h2 q hq (by omega)
  have b := impl_back m y 0 (by omega) k1 k2 [] (fun b hb => by cases hb) (by simp)
  rw [List.append_nil, ← k3, h3, str_append] at b
  have e := Ev.det a b
  have e1 : strOfNums q = strOfNums [] := congrArg (fun p => p.2.2.2.1) e
  have e2 := congrArg ByteArray.toList e1
  rw [(str_toList_nil []).2 rfl] at e2
  exact hne ((str_toList_nil q).1 e2)
theorem impl_read_yes {t : ByteArray} {n : Nat} {x : S26} (h : IsText t n x) : Ev (fun k => impl_ReadItem.f k t) (encRI (some x)) := by
  obtain ⟨h1, h2, h3⟩ := h.get
  have a := impl_back n x 0 (by omega) h1 h2 [] (fun b hb => by cases hb) (by simp)
  rw [List.append_nil, ← h3] at a
  have e := impl_ItemText_ev n x h.wl h.wt
  rw [h.tx] at e
  have hz : t.size = (textL n x).length := by rw [h3, strOfNums_size]
  simp only [impl_ReadItem.f]
  refine ev_neg (by omega) (Ev.bind a (ev_pos rfl ?_))
  show Ev (fun k => impl_ReadItem.j0 k t ((strOfNums []).toList != ([] : List UInt8)) x.f0 x.f1 x.f2) _
  rw [show ((strOfNums []).toList != ([] : List UInt8)) = false by rw [(str_toList_nil []).2 rfl]; rfl]
  exact ev_ff (fun k => by rw [impl_ReadItem.j0]) (Ev.bind e (ev_pos rfl (ev_pos rfl (Ev.now _))))
theorem spec_read_yes {t : ByteArray} {n : Nat} {x : S26} (h : IsText t n x) : Ev (fun k => spec_ReadItem.f k t) (encRI (some x)) := by
  obtain ⟨h1, h2, h3⟩ := h.get
  have a := spec_back n x 0 (by omega) h1 h2 [] [] (fun b hb => by cases hb) (fun b hb => by cases hb) (by simp; omega)
  rw [List.append_nil, List.nil_append, ← h3] at a
  have e := spec_ItemText_ev n x h.wl h.wt
  rw [h.tx] at e
  have hz : t.size = (textL n x).length := by rw [h3, strOfNums_size]
  simp only [spec_ReadItem.f]
  refine ev_neg (by omega) (Ev.bind a (Ev.bind e (ev_pos rfl (ev_pos ?_ (ev_pos rfl (ev_pos rfl (Ev.now _)))))))
  show (((([] : List Int).length + (textL n x).length : Nat)) : Int) = (t.size : Int)
  rw [hz, List.length_nil, Nat.zero_add]
theorem impl_read_no (t : ByteArray) (hn : ¬ ∃ n x, IsText t n x) : Ev (fun k => impl_ReadItem.f k t) (encRI none) := by
  simp only [impl_ReadItem.f]
  by_cases hz : (t.size : Int) > 4000
  · exact ev_pos hz (Ev.now _)
  · have fail : ∀ a b c, Ev (fun k => impl_ReadItem.j0 k t true a b c) (encRI none) := fun a b c => ev_tt (fun k => by rw [impl_ReadItem.j0]; try rfl) (Ev.now _)
    have hb := bytesOf_length t
    obtain ⟨o, eo, ho⟩ := impl_total 7 0 (by omega) (bytesOf t) (bytes_rng t) (by omega)
    rw [str_bytes] at eo
    refine ev_neg hz ?_
    cases o with
    | none => exact Ev.bind eo (ev_neg Bool.false_ne_true (fail _ _ _))
    | some p =>
      obtain ⟨x, r⟩ := p
      obtain ⟨hx, hw, _⟩ := ho x r rfl
      refine Ev.bind eo (ev_pos rfl ?_)
      show Ev (fun k => impl_ReadItem.j0 k t ((strOfNums r).toList != ([] : List UInt8)) x.f0 x.f1 x.f2) _
      cases r with
      | cons b r =>
        rw [show ((strOfNums (b :: r)).toList != ([] : List UInt8)) = true by rw [bne_iff_ne]; exact fun e => by have := (str_toList_nil (b :: r)).1 e; cases this]
        exact fail _ _ _
      | nil =>
        rw [show ((strOfNums []).toList != ([] : List UInt8)) = false by rw [(str_toList_nil []).2 rfl]; rfl]
        have e := impl_ItemText_ev 7 x hx (by omega)
        obtain ⟨s, b, hsb⟩ : ∃ s b, itemTextV 7 x = (s, b) := ⟨_, _, rfl⟩
        rw [hsb] at e
        refine ev_ff (fun k => by rw [impl_ReadItem.j0]) (Ev.bind e ?_)
        cases b with
        | false => exact ev_neg Bool.false_ne_true (Ev.now _)
        | true =>
          refine ev_pos rfl (ev_neg (fun h => hn ⟨7, x, hx, by omega, ?_⟩) (Ev.now _))
          rw [hsb, show s = t from toList_inj h]
theorem spec_read_no (t : ByteArray) (hn : ¬ ∃ n x, IsText t n x) : Ev (fun k => spec_ReadItem.f k t) (encRI none) := by
  simp only [spec_ReadItem.f]
  by_cases hz : (t.size : Int) > 4000
  · exact ev_pos hz (Ev.now _)
  · have hb := bytesOf_length t
    obtain ⟨o, eo, ho⟩ := spec_total 7 0 (by omega) (bytesOf t) (bytes_rng t) (by omega) 0
    rw [str_bytes] at eo
    refine ev_neg hz (Ev.bind eo ?_)
    cases o with
    | none =>
      exact Ev.bind (spec_ItemText_ev 1 (⟨0, (⟨#[]⟩ : ByteArray), []⟩ : S26) (WL_flat 0 _ _ (by decide)) (by decide)) (ev_neg Bool.false_ne_true (Ev.now _))
    | some p =>
      obtain ⟨x, j⟩ := p
      obtain ⟨hx, hw, hj⟩ := ho x j rfl
      have e := spec_ItemText_ev 7 x hx (by omega)
      obtain ⟨s, b, hsb⟩ : ∃ s b, itemTextV 7 x = (s, b) := ⟨_, _, rfl⟩
      rw [hsb] at e
      refine Ev.bind e (ev_pos rfl ?_)
      by_cases hjz : (j : Int) = (t.size : Int)
      · refine ev_pos hjz ?_
        cases b with
        | false => exact ev_neg Bool.false_ne_true (Ev.now _)
        | true =>
          refine ev_pos rfl (ev_neg (fun h => hn ⟨7, x, hx, by omega, ?_⟩) (Ev.now _))
          rw [hsb, show s = t from toList_inj h]
      · exact ev_neg hjz (Ev.now _)
theorem read_both (t : ByteArray) : ∃ o : Option S26, Ev (fun k => impl_ReadItem.f k t) (encRI o) ∧ Ev (fun k => spec_ReadItem.f k t) (encRI o) ∧ (∀ x, o = some x → ∃ n, IsText t n x) ∧ ∀ n x, IsText t n x → o = some x := by
  by_cases H : ∃ n x, IsText t n x
  · obtain ⟨n, x, h⟩ := H
    exact ⟨some x, impl_read_yes h, spec_read_yes h, fun y e => by cases e; exact ⟨n, h⟩, fun m y k => by rw [h.uniq k]⟩
  · exact ⟨none, impl_read_no t H, spec_read_no t H, (fun y e => by cases e), fun m y k => absurd ⟨m, y, k⟩ H⟩

theorem same_pair : ∀ (n : Nat) (x y : S26), WL n x → WL n y → ∃ b, Ev (fun k => spec_SameItem.f k x.f0 x.f1 x.f2 y.f0 y.f1 y.f2) b ∧ Ev (fun k => impl_SameItem.f k x.f0 x.f1 x.f2 y.f0 y.f1 y.f2) b
  | 0, _, _, h, _ => h.elim
  | n + 1, x, y, ⟨_, hl, hk⟩, ⟨_, _, hk2⟩ => by
    have no : Ev (fun k => spec_SameItem.j0 k true x.f0 x.f1 x.f2 y.f0 y.f1 y.f2) false := by
      refine Ev.step (fun k => by rw [spec_SameItem.j0]) ?_
      exact ev_pos rfl (Ev.now _)
    by_cases c0 : x.f0 = y.f0
    · by_cases c1 : x.f1.toList = y.f1.toList
      · by_cases c2 : x.f2.length = y.f2.length
        · have loop : ∀ (d i : Nat), i + d = x.f2.length → ∃ b, Ev (fun k => spec_SameItem.l0 k (i : Int) x.f0 x.f1 x.f2 y.f0 y.f1 y.f2) b ∧ Ev (fun k => impl_Item.l0 k y.f2 x.f2 (x.f2.length : Int) (i : Int)) b := by
            intro d
            induction d with
            | zero =>
              intro i hi
              refine ⟨true, Ev.step (fun k => by rw [spec_SameItem.l0]) (ev_neg (by omega) (Ev.now _)), Ev.step (fun k => impl_Item.l0_eq k _ _ _ _) (ev_neg (by omega) (Ev.now _))⟩
            | succ d ih =>
              intro i hi
              have hlt : i < x.f2.length := by omega
              have hlt2 : i < y.f2.length := by omega
              obtain ⟨b, hs, hi'⟩ := same_pair n x.f2[i] y.f2[i] (hk _ (List.getElem_mem hlt)) (hk2 _ (List.getElem_mem hlt2))
              have ws : wrap64 ((i : Int) + 1) = ((i + 1 : Nat) : Int) := by rw [w64 (by omega) (by omega)]; omega
              cases b with
              | false =>
                refine ⟨false, Ev.step (fun k => by rw [spec_SameItem.l0]) (ev_pos (by omega) (ev_pos (by omega) (ev_pos (by omega) ?_))), Ev.step (fun k => impl_Item.l0_eq k _ _ _ _) (ev_pos (by omega) (ev_pos (by omega) (ev_pos (by omega) (ev_pos (by omega) ?_))))⟩
                · rw [rdL x.f2 i hlt, rdL y.f2 i hlt2]
                  exact Ev.bind hs (ev_neg Bool.false_ne_true (Ev.now _))
                · rw [rdL x.f2 i hlt, rdL y.f2 i hlt2]
                  exact Ev.bind hi' (ev_neg Bool.false_ne_true (Ev.now _))
              | true =>
                obtain ⟨b2, hs2, hi2⟩ := ih (i + 1) (by omega)
                refine ⟨b2, Ev.step (fun k => by rw [spec_SameItem.l0]) (ev_pos (by omega) (ev_pos (by omega) (ev_pos (by omega) ?_))), Ev.step (fun k => impl_Item.l0_eq k _ _ _ _) (ev_pos (by omega) (ev_pos (by omega) (ev_pos (by omega) (ev_pos (by omega) ?_))))⟩
                · rw [rdL x.f2 i hlt, rdL y.f2 i hlt2, ws]
                  exact Ev.bind hs (ev_pos rfl hs2)
                · rw [rdL x.f2 i hlt, rdL y.f2 i hlt2, ws]
                  exact Ev.bind hi' (ev_pos rfl hi2)
          obtain ⟨b, hs, hi⟩ := loop x.f2.length 0 (by omega)
          refine ⟨b, ?_, ?_⟩
          · refine Ev.step (fun k => by rw [spec_SameItem.f]) (ev_pos c0 (ev_pos c1 ?_))
            rw [show ((x.f2.length : Int) != (y.f2.length : Int)) = false by simp [c2]]
            refine Ev.step (fun k => by rw [spec_SameItem.j0]) ?_
            exact ev_neg Bool.false_ne_true hs
          · simp only [impl_SameItem.f]
            refine ev_pos c0 (ev_pos c1 (Ev.bind (a := b) ?_ (Ev.now _)))
            refine Ev.step (fun k => by rw [impl_Item.f]) ?_
            exact ev_pos (by omega) hi
        · refine ⟨false, ?_, ?_⟩
          · refine Ev.step (fun k => by rw [spec_SameItem.f]) (ev_pos c0 (ev_pos c1 ?_))
            rw [show ((x.f2.length : Int) != (y.f2.length : Int)) = true by simp; omega]
            exact no
          · simp only [impl_SameItem.f]
            refine ev_pos c0 (ev_pos c1 (Ev.bind (a := false) ?_ (Ev.now _)))
            refine Ev.step (fun k => by rw [impl_Item.f]) ?_
            exact ev_neg (by omega) (Ev.now _)
      · refine ⟨false, Ev.step (fun k => by rw [spec_SameItem.f]) (ev_pos c0 (ev_neg c1 no)), ?_⟩
        simp only [impl_SameItem.f]
        exact ev_pos c0 (ev_neg c1 (Ev.now _))
    · refine ⟨false, Ev.step (fun k => by rw [spec_SameItem.f]) (ev_neg c0 no), ?_⟩
      simp only [impl_SameItem.f]
      exact ev_neg c0 (Ev.now _)

theorem same_refl : ∀ (n : Nat) (x : S26), WL n x → Ev (fun k => spec_SameItem.f k x.f0 x.f1 x.f2 x.f0 x.f1 x.f2) true
  | 0, _, h => h.elim
  | n + 1, x, ⟨_, hl, hk⟩ => by
    have loop : ∀ (d i : Nat), i + d = x.f2.length → Ev (fun k => spec_SameItem.l0 k (i : Int) x.f0 x.f1 x.f2 x.f0 x.f1 x.f2) true := by
      intro d
      induction d with
      | zero =>
        intro i hi
        exact Ev.step (fun k => by rw [spec_SameItem.l0]) (ev_neg (by omega) (Ev.now _))
      | succ d ih =>
        intro i hi
        have hlt : i < x.f2.length := by omega
        refine Ev.step (fun k => by rw [spec_SameItem.l0]) (ev_pos (by omega) (ev_pos (by omega) (ev_pos (by omega) ?_)))
        rw [rdL x.f2 i hlt, show wrap64 ((i : Int) + 1) = ((i + 1 : Nat) : Int) by rw [w64 (by omega) (by omega)]; omega]
        exact Ev.bind (same_refl n x.f2[i] (hk _ (List.getElem_mem hlt))) (ev_pos rfl (ih (i + 1) (by omega)))
    refine Ev.step (fun k => by rw [spec_SameItem.f]) (ev_pos rfl (ev_pos rfl ?_))
    rw [show ((x.f2.length : Int) != (x.f2.length : Int)) = false by simp]
    refine Ev.step (fun k => by rw [spec_SameItem.j0]) ?_
    exact ev_neg Bool.false_ne_true (loop x.f2.length 0 (by omega))

/-! Trees of few and short parts: how heavy they are. -/
def SM : Nat → S26 → Prop
  | 0, _ => False
  | n + 1, x => x.f1.size ≤ 5000 ∧ x.f2.length ≤ 4 ∧ ∀ y ∈ x.f2, SM n y
theorem SM_flat (n : Nat) (a : Int) (s : ByteArray) (h : s.size ≤ 5000) : SM (n + 1) (⟨a, s, []⟩ : S26) := ⟨h, by simp, fun y hy => by simp at hy⟩
theorem SM_WL : ∀ (n : Nat) (x : S26), SM n x → WL n x
  | 0, _, h => h.elim
  | n + 1, x, ⟨h1, h2, h3⟩ => ⟨Nat.le_trans h1 (by omega), Nat.le_trans h2 (by omega), fun y hy => SM_WL n y (h3 y hy)⟩
def smB : Nat → Nat
  | 0 => 0
  | n + 1 => 5004 + 4 * smB n
theorem sum_le {α : Type} (f : α → Nat) (b : Nat) : ∀ l : List α, (∀ y ∈ l, f y ≤ b) → (l.map f).sum ≤ l.length * b
  | [], _ => by simp
  | x :: l, h => by
    have h1 := h x List.mem_cons_self
    have h2 := sum_le f b l (fun y hy => h y (List.mem_cons_of_mem _ hy))
    rw [List.map_cons, List.sum_cons, List.length_cons, Nat.succ_mul]
    omega
theorem SM_wt (e : Nat) : ∀ (n : Nat) (x : S26), SM n x → wtL (n + e) x ≤ smB n
  | 0, _, h => h.elim
  | n + 1, x, ⟨h1, h2, h3⟩ => by
    have h4 := sum_le (wtL (n + e)) (smB n) x.f2 (fun y hy => SM_wt e n y (h3 y hy))
    have h5 : x.f2.length * smB n ≤ 4 * smB n := Nat.mul_le_mul_right _ h2
    rw [Nat.add_right_comm n 1 e]
    show x.f1.size + (x.f2.length + (x.f2.map (wtL (n + e))).sum) ≤ 5004 + 4 * smB n
    omega

theorem spec_int (n : Nat) : ∀ acc : List Int, n + acc.length ≤ 2000000000 → Ev (fun k => spec_IntItem.l0 k (n : Int) (strOfNums acc)) (2, (if be n ++ acc = [] then strOfNums [0] else if 128 ≤ bt (strOfNums (be n ++ acc)) 0 then strOfNums (0 :: (be n ++ acc)) else strOfNums (be n ++ acc)), []) := by
  induction n using Nat.strongRecOn with
  | _ n ih =>
    intro acc hl
    refine Ev.step (fun k => by rw [spec_IntItem.l0]) ?_
    by_cases h : 0 < n
    · refine ev_pos (by omega) ?_
      have e1 : wrap64 (Int.tdiv (n : Int) 256) = ((n / 256 : Nat) : Int) := by rw [show (256 : Int) = ((256 : Nat) : Int) from rfl, tdivN]; exact w64 (by omega) (by omega)
      have e2 : Int.tmod (n : Int) 256 % 256 = ((n % 256 : Nat) : Int) := by
        rw [show (256 : Int) = ((256 : Nat) : Int) from rfl, tmodN]; omega
      rw [e1, e2]
      refine Ev.bind (g := fun _ => some [((n % 256 : Nat) : Int)]) (Ev.now _) ?_
      rw [str_append]
      have hz : (strOfNums [((n % 256 : Nat) : Int)]).size + (strOfNums acc).size ≤ 9223372036854775807 := by rw [strOfNums_size, strOfNums_size]; simp; omega
      refine ev_pos hz ?_
      have := ih (n / 256) (by omega) ([((n % 256 : Nat) : Int)] ++ acc) (by simp; omega)
      rw [be, if_pos h, List.append_assoc]
      exact this
    · refine ev_neg (by omega) ?_
      have e0 : be n = [] := by rw [be, if_neg h]
      rw [e0, List.nil_append]
      have hz : 1 + (strOfNums acc).size ≤ 9223372036854775807 := by rw [strOfNums_size]; omega
      have ez : (⟨#[0]⟩ : ByteArray) ++ strOfNums acc = strOfNums (0 :: acc) := str_append [0] acc
      by_cases ha : acc = []
      · subst ha
        refine ev_pos ((str_toList_nil []).2 rfl) (ev_pos hz ?_)
        rw [if_pos rfl, ez]
        exact Ev.now _
      · refine ev_neg (fun h => ha ((str_toList_nil acc).1 h)) (ev_pos ?_ ?_)
        · rw [strOfNums_size]
          cases acc with
          | nil => exact absurd rfl ha
          | cons x l => simp
        · by_cases hb : bt (strOfNums acc) 0 ≥ 128
          · refine ev_pos hb (ev_pos hz ?_)
            rw [if_neg ha, if_pos hb, ez]
            exact Ev.now _
          · refine ev_neg hb ?_
            rw [if_neg ha, if_neg hb]
            exact Ev.now _
theorem spec_int_ev (a : Int) : Ev (fun k => spec_IntItem.f k a) (intV a) := by
  have key : ∀ n : Nat, n ≤ 1000000000 → Ev (fun k => spec_IntItem.j0 k (n : Int)) (2, strOfNums (intL n), []) := by
    intro n hn
    refine Ev.step (fun k => by rw [spec_IntItem.j0]) ?_
    have := spec_int n [] (by simp; omega)
    rw [List.append_nil] at this
    have hv : (if be n = [] then strOfNums [0] else if 128 ≤ bt (strOfNums (be n)) 0 then strOfNums (0 :: be n) else strOfNums (be n)) = strOfNums (intL n) := by
      unfold intL intB
      by_cases h : n = 0
      · subst h
        have e0 : be 0 = [] := by rw [be, if_neg (by omega)]
        rw [if_pos e0, if_pos rfl, if_neg (by simp)]
      · have hp := be_pos n (by omega)
        rw [if_neg hp, if_neg h, bt_str _ (be_rng n)]
        split <;> rfl
    rw [hv] at this
    exact this
  simp only [spec_IntItem.f, spec_l01In.f]
  unfold intV intN
  by_cases h0 : 0 ≤ a
  · by_cases h1 : a ≤ 1000000000
    · obtain ⟨m, rfl⟩ := Int.eq_ofNat_of_zero_le h0
      rw [if_pos (by omega), if_pos ⟨h0, h1⟩]
      exact Ev.bind (g := fun _ => some (decide ((m : Int) ≤ 1000000000))) (a := true) (by rw [decide_eq_true h1]; exact Ev.now _) (ev_pos rfl (key m (by omega)))
    · rw [if_pos (by omega), if_neg (fun h => h1 h.2)]
      exact Ev.bind (g := fun _ => some (decide (a ≤ 1000000000))) (a := false) (by rw [decide_eq_false h1]; exact Ev.now _) (ev_neg Bool.false_ne_true (key 0 (by omega)))
  · rw [if_neg (by omega), if_neg (fun h => h0 h.1)]
    exact Ev.bind (g := fun _ => some false) (Ev.now _) (ev_neg Bool.false_ne_true (key 0 (by omega)))

theorem be_short : ∀ (k n : Nat), n < 256 ^ k → (be n).length ≤ k
  | 0, n, h => by
    have : n = 0 := by simpa using h
    subst this
    rw [be, if_neg (by omega)]
    simp
  | k + 1, n, h => by
    rw [be]
    by_cases h0 : 0 < n
    · rw [if_pos h0, List.length_append]
      have := be_short k (n / 256) (by rw [Nat.pow_succ] at h; omega)
      simp
      exact this
    · rw [if_neg h0]
      simp
theorem intL_len (n : Nat) (h : n ≤ 1000000000) : (intL n).length ≤ 5 := by
  have e4 : (256 : Nat) ^ 4 = 4294967296 := by decide
  have := be_short 4 n (by rw [e4]; omega)
  unfold intL intB
  by_cases h0 : n = 0
  · rw [if_pos h0]
    decide
  · rw [if_neg h0]
    by_cases hc : 128 ≤ (be n).getD 0 0
    · rw [if_pos hc, List.length_cons]
      omega
    · rw [if_neg hc]
      omega

theorem and255 (x : Int) : 0 ≤ Go.bits .and .i64 x 255 ∧ Go.bits .and .i64 x 255 ≤ 255 := by
  have h : (BitVec.ofInt 64 x &&& BitVec.ofInt 64 255).toNat ≤ 255 := by
    rw [BitVec.toNat_and]
    exact Nat.le_trans Nat.and_le_right (by decide)
  have e : Go.bits .and .i64 x 255 = IntKind.i64.wrap ((BitVec.ofInt 64 x &&& BitVec.ofInt 64 255).toNat : Int) := rfl
  rw [e, IntKind.wrap_i64]
  omega
/-- The cursor's place lies in its bytes. -/
def In (l : List Int) (i : Int) : Prop := 0 ≤ i ∧ i ≤ l.length
theorem byte_ok (l : List Int) (i h : Int) (hl : l.length ≤ 1048576) (hi : In l i) : ∃ b i' h', spec_l01Byte.f l i h = some (b, i', h') ∧ In l i' ∧ 0 ≤ b ∧ b ≤ 255 := by
  unfold spec_l01Byte.f
  obtain ⟨h0, h1⟩ := hi
  by_cases hc : i < (l.length : Int)
  · rw [if_pos hc, if_pos h0]
    have e : wrap64 (i + 1) = i + 1 := w64 (by omega) (by omega)
    exact ⟨_, _, _, rfl, by rw [e]; exact ⟨by omega, by omega⟩, (and255 _).1, (and255 _).2⟩
  · rw [if_neg hc]
    exact ⟨_, _, _, rfl, ⟨h0, h1⟩, (and255 _).1, (and255 _).2⟩
theorem below_ok (l : List Int) (i h n : Int) (hl : l.length ≤ 1048576) (hi : In l i) : ∃ b i' h', spec_l01Below.f l i h n = some (b, i', h') ∧ In l i' ∧ (n ≤ 0 → b = 0) ∧ (0 < n → 0 ≤ b ∧ b < n) := by
  unfold spec_l01Below.f
  by_cases h0 : n ≤ 0
  · rw [if_pos h0]
    exact ⟨_, _, _, rfl, hi, fun _ => rfl, fun h => by omega⟩
  rw [if_neg h0]
  by_cases h1 : n ≤ 256
  · rw [if_pos h1]
    obtain ⟨b, i', h', e, hi', hb0, hb1⟩ := byte_ok l i h hl hi
    rw [e, Option.bind_some, if_neg (by omega)]
    refine ⟨_, _, _, rfl, hi', fun h => absurd h h0, fun _ => ?_⟩
    show 0 ≤ Int.tmod b n ∧ Int.tmod b n < n
    rw [tmod_pos' hb0]
    exact ⟨Int.emod_nonneg _ (by omega), Int.emod_lt_of_pos _ (by omega)⟩
  · rw [if_neg h1]
    obtain ⟨b1, i1, h1', e1, hi1, p1, q1⟩ := byte_ok l i h hl hi
    obtain ⟨b2, i2, h2', e2, hi2, p2, q2⟩ := byte_ok l i1 h1' hl hi1
    obtain ⟨b3, i3, h3', e3, hi3, p3, q3⟩ := byte_ok l i2 h2' hl hi2
    obtain ⟨b4, i4, h4', e4, hi4, p4, q4⟩ := byte_ok l i3 h3' hl hi3
    simp only [e1, e2, e3, e4, Option.bind_some]
    rw [if_neg (by omega)]
    refine ⟨_, _, _, rfl, hi4, fun h => absurd h h0, fun _ => ?_⟩
    have w1 : wrap64 (b1 * 16777216) = b1 * 16777216 := w64 (by omega) (by omega)
    have w2 : wrap64 (b2 * 65536) = b2 * 65536 := w64 (by omega) (by omega)
    have w3 : wrap64 (b3 * 256) = b3 * 256 := w64 (by omega) (by omega)
    rw [w1, w2, w3, w64 (n := b1 * 16777216 + b2 * 65536) (by omega) (by omega), w64 (n := b1 * 16777216 + b2 * 65536 + b3 * 256) (by omega) (by omega), w64 (n := b1 * 16777216 + b2 * 65536 + b3 * 256 + b4) (by omega) (by omega), tmod_pos' (by omega)]
    exact ⟨Int.emod_nonneg _ (by omega), Int.emod_lt_of_pos _ (by omega)⟩
theorem new_loop (l : List Int) (hl : l.length ≤ 1048576) : ∀ (d i : Nat), i + d = l.length → ∀ h : Int, ∃ h', Ev (fun k => spec_l01New.l0 k l h (i : Int)) (l, 0, h') := by
  intro d
  induction d with
  | zero =>
    intro i hi h
    exact ⟨h, Ev.step (fun k => by rw [spec_l01New.l0]) (ev_neg (by omega) (Ev.now _))⟩
  | succ d ih =>
    intro i hi h
    by_cases hc : (i : Int) < 4000
    · obtain ⟨h', e⟩ := ih (i + 1) (by omega) (Go.bits .and .i64 (wrap64 ((wrap64 ((wrap64 (h * 131)) + (wrap64 (rd l i)))) + 7)) 1073741823)
      refine ⟨h', Ev.step (fun k => by rw [spec_l01New.l0]) (ev_pos (by omega) (ev_pos hc (ev_pos (by omega) ?_)))⟩
      rw [show wrap64 ((i : Int) + 1) = ((i + 1 : Nat) : Int) by rw [w64 (by omega) (by omega)]; omega]
      exact e
    · exact ⟨h, Ev.step (fun k => by rw [spec_l01New.l0]) (ev_pos (by omega) (ev_neg hc (Ev.now _)))⟩
theorem new_ok (l : List Int) (hl : l.length ≤ 1048576) : ∃ h', Ev (fun k => spec_l01New.f k l) (l, 0, h') := by
  simp only [spec_l01New.f]
  exact new_loop l hl l.length 0 (by omega) _
theorem in_zero (l : List Int) : In l 0 := ⟨by omega, by omega⟩

theorem text_loop (l : List Int) (hl : l.length ≤ 1048576) : ∀ (d : Nat) (n : Int) (acc : List Int) (j i h : Int), In l i → 0 ≤ j → n ≤ 5000 → (n - j).toNat = d → acc.length ≤ 5000 → (acc.length : Int) = j → ∃ r i' h', Ev (fun k => spec_l01Text.l0 k n acc j l i h) (r, i', h') ∧ In l i' ∧ r.size ≤ 5000 := by
  intro d
  induction d with
  | zero =>
    intro n acc j i h hi hj hn hd ha hz
    exact ⟨_, _, _, Ev.step (fun k => by rw [spec_l01Text.l0]) (ev_neg (by omega) (Ev.now _)), hi, by rw [strOfNums_size]; exact ha⟩
  | succ d ih =>
    intro n acc j i h hi hj hn hd ha hz
    obtain ⟨b, i1, h1, e1, hi1, _, _⟩ := byte_ok l i h hl hi
    have ew : wrap64 (j + 1) = j + 1 := w64 (by omega) (by omega)
    obtain ⟨r, i', h', e, hi', hr⟩ := ih n (acc ++ [b % 256]) (j + 1) i1 h1 hi1 (by omega) hn (by omega) (by rw [List.length_append]; show acc.length + 1 ≤ 5000; omega) (by rw [List.length_append]; show ((acc.length + 1 : Nat) : Int) = j + 1; omega)
    refine ⟨r, i', h', Ev.step (fun k => by rw [spec_l01Text.l0]) (ev_pos (by omega) (Ev.bind (g := fun _ => spec_l01Byte.f l i h) (by rw [e1]; exact Ev.now _) ?_)), hi', hr⟩
    rw [ew]
    have hal : acc.length < 140737488355328 := by omega
    exact ev_pos hal e
theorem text_ok (l : List Int) (hl : l.length ≤ 1048576) (i h n : Int) (hi : In l i) (hn : n ≤ 5000) : ∃ r i' h', Ev (fun k => spec_l01Text.f k l i h n) (r, i', h') ∧ In l i' ∧ r.size ≤ 5000 := by
  simp only [spec_l01Text.f]
  obtain ⟨r, i', h', e, hi', hr⟩ := text_loop l hl (n - 0).toNat n [] 0 i h hi (by omega) hn rfl (by simp) rfl
  exact ⟨r, i', h', ev_neg (by omega) (Ev.step (fun k => by rw [spec_l01Text.j0]) e), hi', hr⟩

/-! Drawn items, small (SM). -/
theorem pick_ok (l : List Int) (i h : Int) (ss : List ByteArray) (hl : l.length ≤ 1048576) (hi : In l i) (hn : 0 < ss.length) : ∃ s i' h', spec_l01Pick.f l i h ss = some (s, i', h') ∧ In l i' ∧ s ∈ ss := by
  unfold spec_l01Pick.f
  obtain ⟨b, i', h', e, hi', _, hb⟩ := below_ok l i h (ss.length : Int) hl hi
  have hb := hb (by omega)
  rw [e, Option.bind_some]
  show ∃ s i'' h'', (if 0 ≤ b then (if b < (ss.length : Int) then some (rdOf ByteArray.empty ss b, i', h') else none) else none) = some (s, i'', h'') ∧ In l i'' ∧ s ∈ ss
  rw [if_pos hb.1, if_pos hb.2]
  refine ⟨_, _, _, rfl, hi', ?_⟩
  unfold rdOf
  rw [List.getD_eq_getElem?_getD, List.getElem?_eq_getElem (by omega)]
  exact List.getElem_mem _
theorem pickint_ok (l : List Int) (i h : Int) (ss : List Int) (hl : l.length ≤ 1048576) (hi : In l i) (hn : 0 < ss.length) : ∃ s i' h', spec_l01PickInt.f l i h ss = some (s, i', h') ∧ In l i' ∧ s ∈ ss := by
  unfold spec_l01PickInt.f
  obtain ⟨b, i', h', e, hi', _, hb⟩ := below_ok l i h (ss.length : Int) hl hi
  have hb := hb (by omega)
  rw [e, Option.bind_some]
  show ∃ s i'' h'', (if 0 ≤ b then (if b < (ss.length : Int) then some (rd ss b, i', h') else none) else none) = some (s, i'', h'') ∧ In l i'' ∧ s ∈ ss
  rw [if_pos hb.1, if_pos hb.2]
  refine ⟨_, _, _, rfl, hi', ?_⟩
  unfold rd
  rw [List.getD_eq_getElem?_getD, List.getElem?_eq_getElem (by omega)]
  exact List.getElem_mem _
theorem intV_size (a : Int) : (strOfNums (intL (intN a))).size ≤ 5 := by
  rw [strOfNums_size]
  refine intL_len _ ?_
  unfold intN
  split
  · omega
  · omega
theorem leaf_ok (l : List Int) (hl : l.length ≤ 1048576) (d c i h : Int) (hi : In l i) (h0 : 0 ≤ c) (h3 : c ≤ 3) : ∃ (x : S26) (i' h' : Int), Ev (fun k => spec_l07Item.j1 k d c l i h) (x.f0, x.f1, x.f2, i', h') ∧ In l i' ∧ (∀ n, SM (n + 1) x) ∧ x.f1.size ≤ 5000 := by
  by_cases c0 : c = 0
  · obtain ⟨s, i', h', e, hi', hs⟩ := pick_ok l i h [(⟨#[0]⟩ : ByteArray), (⟨#[255]⟩ : ByteArray)] hl hi (by simp)
    have hz : s.size ≤ 5000 := by
      simp only [List.mem_cons, List.not_mem_nil, or_false] at hs
      rcases hs with rfl | rfl <;> decide
    exact ⟨⟨1, s, []⟩, i', h', Ev.step (fun k => by rw [spec_l07Item.j1]) (ev_pos c0 (Ev.bind (g := fun _ => spec_l01Pick.f l i h [(⟨#[0]⟩ : ByteArray), (⟨#[255]⟩ : ByteArray)]) (by rw [e]; exact Ev.now _) (Ev.now _))), hi', fun n => SM_flat n _ _ (by omega), hz⟩
  by_cases c1 : c = 1
  · obtain ⟨s, i', h', e, hi', hs⟩ := pickint_ok l i h [0, 1, 127, 128, 255, 256, 65536, 1000000000] hl hi (by simp)
    have hz := intV_size s
    refine ⟨⟨2, strOfNums (intL (intN s)), []⟩, i', h', Ev.step (fun k => by rw [spec_l07Item.j1]) (ev_neg c0 (ev_pos c1 (Ev.bind (g := fun _ => spec_l01PickInt.f l i h [0, 1, 127, 128, 255, 256, 65536, 1000000000]) (by rw [e]; exact Ev.now _) ?_))), hi', fun n => SM_flat n _ _ (by omega), by show (strOfNums (intL (intN s))).size ≤ 5000; omega⟩
    exact Ev.bind (spec_int_ev s) (Ev.now _)
  by_cases c2 : c = 2
  · obtain ⟨s, i1, h1, e, hi1, hs⟩ := pickint_ok l i h [0, 1, 5, 127, 128, 130] hl hi (by simp)
    have hz : s ≤ 5000 := by
      simp only [List.mem_cons, List.not_mem_nil, or_false] at hs
      omega
    obtain ⟨r, i', h', er, hi', hr⟩ := text_ok l hl i1 h1 s hi1 hz
    refine ⟨⟨4, r, []⟩, i', h', Ev.step (fun k => by rw [spec_l07Item.j1]) (ev_neg c0 (ev_neg c1 (ev_pos c2 (Ev.bind (g := fun _ => spec_l01PickInt.f l i h [0, 1, 5, 127, 128, 130]) (by rw [e]; exact Ev.now _) ?_)))), hi', fun n => SM_flat n _ _ (by omega), hr⟩
    exact Ev.bind er (Ev.now _)
  · have c3 : c = 3 := by omega
    obtain ⟨s, i', h', e, hi', hs⟩ := pick_ok l i h [(⟨#[]⟩ : ByteArray), (⟨#[97]⟩ : ByteArray), (⟨#[110, 97, 109, 101, 46, 111, 102]⟩ : ByteArray), (⟨#[126, 32, 33]⟩ : ByteArray)] hl hi (by simp)
    have hz : s.size ≤ 5000 := by
      simp only [List.mem_cons, List.not_mem_nil, or_false] at hs
      rcases hs with rfl | rfl | rfl | rfl <;> decide
    refine ⟨⟨12, s, []⟩, i', h', Ev.step (fun k => by rw [spec_l07Item.j1]) (ev_neg c0 (ev_neg c1 (ev_neg c2 (ev_pos c3 (Ev.bind (g := fun _ => spec_l01Pick.f l i h [(⟨#[]⟩ : ByteArray), (⟨#[97]⟩ : ByteArray), (⟨#[110, 97, 109, 101, 46, 111, 102]⟩ : ByteArray), (⟨#[126, 32, 33]⟩ : ByteArray)]) (by rw [e]; exact Ev.now _) ?_))))), hi', fun n => SM_flat n _ _ (by omega), hz⟩
    exact Ev.bind (g := fun _ => spec_TextItem.f s) (a := (12, s, [])) (Ev.now _) (Ev.now _)
theorem item_ok (l : List Int) (hl : l.length ≤ 1048576) : ∀ (d : Nat), d ≤ 3 → ∀ (i h : Int), In l i → ∃ (x : S26) (i' h' : Int), Ev (fun k => spec_l07Item.f k l i h (d : Int)) (x.f0, x.f1, x.f2, i', h') ∧ In l i' ∧ SM (d + 1) x ∧ x.f1.size ≤ 5000 := by
  intro d
  induction d with
  | zero =>
    intro _ i h hi
    obtain ⟨b, i1, h1, e, hi1, _, hb⟩ := below_ok l i h 6 hl hi
    have hb := hb (by omega)
    by_cases h3 : b > 3
    · obtain ⟨x, i', h', ex, hi', hw, hz⟩ := leaf_ok l hl 0 (b - 4) i1 h1 hi1 (by omega) (by omega)
      refine ⟨x, i', h', Ev.step (fun k => by rw [spec_l07Item.f]) (Ev.bind (g := fun _ => spec_l01Below.f l i h 6) (by rw [e]; exact Ev.now _) (ev_pos rfl ?_)), hi', hw 0, hz⟩
      rw [show decide (b > 3) = true from decide_eq_true h3]
      refine Ev.step (fun k => by rw [spec_l07Item.j0]) (ev_pos rfl ?_)
      rw [w64 (n := b - 4) (by omega) (by omega)]
      exact ex
    · obtain ⟨x, i', h', ex, hi', hw, hz⟩ := leaf_ok l hl 0 b i1 h1 hi1 (by omega) (by omega)
      refine ⟨x, i', h', Ev.step (fun k => by rw [spec_l07Item.f]) (Ev.bind (g := fun _ => spec_l01Below.f l i h 6) (by rw [e]; exact Ev.now _) (ev_pos rfl ?_)), hi', hw 0, hz⟩
      rw [show decide (b > 3) = false from decide_eq_false h3]
      refine Ev.step (fun k => by rw [spec_l07Item.j0]) ?_
      exact ev_neg Bool.false_ne_true ex
  | succ d ih =>
    intro hd i h hi
    obtain ⟨b, i1, h1, e, hi1, _, hb⟩ := below_ok l i h 6 hl hi
    have hb := hb (by omega)
    have hne : ¬ ((d + 1 : Nat) : Int) = 0 := by omega
    by_cases h3 : b ≤ 3
    · obtain ⟨x, i', h', ex, hi', hw, hz⟩ := leaf_ok l hl ((d + 1 : Nat) : Int) b i1 h1 hi1 (by omega) (by omega)
      refine ⟨x, i', h', Ev.step (fun k => by rw [spec_l07Item.f]) (Ev.bind (g := fun _ => spec_l01Below.f l i h 6) (by rw [e]; exact Ev.now _) (ev_neg hne ?_)), hi', hw _, hz⟩
      refine Ev.step (fun k => by rw [spec_l07Item.j0]) ?_
      exact ev_neg Bool.false_ne_true ex
    · have loop : ∀ (m : Nat) (q : Int) (acc : List S26) (i h : Int), In l i → 0 ≤ q → q + m = 4 → (acc.length : Int) = q → (∀ y ∈ acc, SM (d + 1) y) → ∃ (L : List S26) (i' h' : Int), Ev (fun k => spec_l07Item.l0 k ((d + 1 : Nat) : Int) q l i h 48 (⟨#[]⟩ : ByteArray) acc) (48, (⟨#[]⟩ : ByteArray), L, i', h') ∧ In l i' ∧ L.length ≤ 4 ∧ ∀ y ∈ L, SM (d + 1) y := by
        intro m
        induction m with
        | zero =>
          intro q acc i h hi hq hm ha hw
          obtain ⟨c, i2, h2, e2, hi2, _, hc⟩ := below_ok l i h 4 hl hi
          have hc := hc (by omega)
          exact ⟨acc, i2, h2, Ev.step (fun k => by rw [spec_l07Item.l0]) (Ev.bind (g := fun _ => spec_l01Below.f l i h 4) (by rw [e2]; exact Ev.now _) (ev_neg (by show ¬ q < c; omega) (Ev.now _))), hi2, by omega, hw⟩
        | succ m ihm =>
          intro q acc i h hi hq hm ha hw
          obtain ⟨c, i2, h2, e2, hi2, _, hc⟩ := below_ok l i h 4 hl hi
          have hc := hc (by omega)
          by_cases hqc : q < c
          · obtain ⟨x, i3, h3, ex, hi3, hx, _⟩ := ih (by omega) i2 h2 hi2
            obtain ⟨L, i', h', eL, hi', hL, hwL⟩ := ihm (q + 1) (acc ++ [x]) i3 h3 hi3 (by omega) (by omega) (by rw [List.length_append]; show ((acc.length + 1 : Nat) : Int) = q + 1; omega) (fun y hy => by
              rcases List.mem_append.1 hy with hy | hy
              · exact hw y hy
              · obtain rfl := List.mem_singleton.1 hy
                exact hx)
            refine ⟨L, i', h', Ev.step (fun k => by rw [spec_l07Item.l0]) (Ev.bind (g := fun _ => spec_l01Below.f l i h 4) (by rw [e2]; exact Ev.now _) (ev_pos hqc ?_)), hi', hL, hwL⟩
            rw [show wrap64 (((d + 1 : Nat) : Int) - 1) = (d : Int) by rw [w64 (by omega) (by omega)]; omega, w64 (n := q + 1) (by omega) (by omega)]
            have hal : acc.length < 2932031007402 := by omega
            refine Ev.bind ex (ev_pos hal ?_)
            simp only [etaL]
            exact eL
          · exact ⟨acc, i2, h2, Ev.step (fun k => by rw [spec_l07Item.l0]) (Ev.bind (g := fun _ => spec_l01Below.f l i h 4) (by rw [e2]; exact Ev.now _) (ev_neg hqc (Ev.now _))), hi2, by omega, hw⟩
      obtain ⟨L, i', h', eL, hi', hL, hwL⟩ := loop 4 0 [] i1 h1 hi1 (by omega) (by omega) rfl (fun y hy => by simp at hy)
      refine ⟨⟨48, (⟨#[]⟩ : ByteArray), L⟩, i', h', Ev.step (fun k => by rw [spec_l07Item.f]) (Ev.bind (g := fun _ => spec_l01Below.f l i h 6) (by rw [e]; exact Ev.now _) (ev_neg hne ?_)), hi', ⟨by show 0 ≤ 5000; omega, by show L.length ≤ 4; omega, hwL⟩, by show 0 ≤ 5000; omega⟩
      refine Ev.step (fun k => by rw [spec_l07Item.j0]) ?_
      refine ev_neg Bool.false_ne_true ?_
      refine Ev.step (fun k => by rw [spec_l07Item.j1]) ?_
      exact (ev_neg (by show ¬ b = 0; omega) (ev_neg (by show ¬ b = 1; omega) (ev_neg (by show ¬ b = 2; omega) (ev_neg (by show ¬ b = 3; omega) eL))))

theorem WL_up2 (n : Nat) (x : S26) (h : WL n x) : ∀ d, WL (n + d) x
  | 0 => h
  | d + 1 => WL_up1 (n + d) x (WL_up2 n x h d)
theorem nest_WL (m : Nat) (x : S26) (h : WL m x) : ∀ n, WL (m + n) (nestV n x)
  | 0 => h
  | n + 1 => ⟨by show 0 ≤ 1048576; omega, by show 1 ≤ 1048576; omega, fun y hy => by
      obtain rfl := List.mem_singleton.1 hy
      exact nest_WL m x h n⟩
theorem nest_wt (m : Nat) (x : S26) : ∀ n, wtL (m + n) (nestV n x) = n + wtL m x
  | 0 => by rw [Nat.zero_add]; rfl
  | n + 1 => by
    have h := nest_wt m x n
    show 0 + (1 + (wtL (m + n) (nestV n x) + 0)) = _
    rw [h]
    omega
theorem any_ok (l : List Int) (hl : l.length ≤ 1048576) (i h : Int) (hi : In l i) : ∃ (x : S26) (i' h' : Int), Ev (fun k => spec_l07Any.f k l i h) (x.f0, x.f1, x.f2, i', h') ∧ In l i' ∧ WL 10 x ∧ wtL 10 x ≤ 500000 := by
  simp only [spec_l07Any.f]
  obtain ⟨b, i1, h1, e1, hi1, _, _⟩ := below_ok l i h 12 hl hi
  obtain ⟨x, i2, h2, e2, hi2, hs, hz⟩ := item_ok l hl 3 (by omega) i1 h1 hi1
  have hw : WL 4 x := SM_WL 4 x hs
  have hw10 : WL 10 x := WL_up2 4 x hw 6
  have hb : smB 4 = 425340 := by decide
  have hb10 : wtL 10 x ≤ 425340 := hb ▸ SM_wt 6 4 x hs
  by_cases c0 : b = 0
  · obtain ⟨s, i3, h3, e3, hi3, _⟩ := pickint_ok l i2 h2 [0, 1, 2, 3, 48, 256] hl hi2 (by simp)
    refine ⟨⟨s, x.f1, x.f2⟩, i3, h3, Ev.bind (g := fun _ => spec_l01Below.f l i h 12) (by rw [e1]; exact Ev.now _) (Ev.bind e2 (ev_pos c0 ?_)), hi3, hw10, Nat.le_trans hb10 (by omega)⟩
    refine Ev.bind (g := fun _ => spec_l01PickInt.f l i2 h2 [0, 1, 2, 3, 48, 256]) (by rw [e3]; exact Ev.now _) ?_
    exact Ev.now _
  by_cases c1 : b = 1
  · have hs : x.f1.size + 1 ≤ 9223372036854775807 := by omega
    have ha : (x.f1 ++ (⟨#[0]⟩ : ByteArray)).size = x.f1.size + 1 := by rw [ByteArray.size_append]; rfl
    refine ⟨⟨x.f0, x.f1 ++ (⟨#[0]⟩ : ByteArray), x.f2⟩, i2, h2, Ev.bind (g := fun _ => spec_l01Below.f l i h 12) (by rw [e1]; exact Ev.now _) (Ev.bind e2 (ev_neg c0 (ev_pos c1 (ev_pos hs (Ev.now _))))), hi2, ⟨?_, hw10.2.1, hw10.2.2⟩, ?_⟩
    · show (x.f1 ++ (⟨#[0]⟩ : ByteArray)).size ≤ 1048576
      omega
    · have h9 : x.f1.size + (x.f2.length + (x.f2.map (wtL 9)).sum) ≤ 425340 := hb10
      show (x.f1 ++ (⟨#[0]⟩ : ByteArray)).size + (x.f2.length + (x.f2.map (wtL 9)).sum) ≤ 500000
      omega
  by_cases c2 : b = 2
  · refine ⟨nestV 6 (⟨x.f0, x.f1, x.f2⟩ : S26), i2, h2, Ev.bind (g := fun _ => spec_l01Below.f l i h 12) (by rw [e1]; exact Ev.now _) (Ev.bind e2 (ev_neg c0 (ev_neg c1 (ev_pos c2 (Ev.now _))))), hi2, nest_WL 4 _ (by rw [etaL]; exact hw) 6, ?_⟩
    have h4 : wtL 4 x ≤ 425340 := hb ▸ SM_wt 0 4 x hs
    have h6 := nest_wt 4 (⟨x.f0, x.f1, x.f2⟩ : S26) 6
    rw [etaL] at h6 ⊢
    show wtL (4 + 6) (nestV 6 x) ≤ 500000
    omega
  · exact ⟨x, i2, h2, Ev.bind (g := fun _ => spec_l01Below.f l i h 12) (by rw [e1]; exact Ev.now _) (Ev.bind e2 (ev_neg c0 (ev_neg c1 (ev_neg c2 (Ev.now _))))), hi2, hw10, Nat.le_trans hb10 (by omega)⟩

theorem spoilt_ok (l : List Int) (hl : l.length ≤ 1048576) (i h : Int) (hi : In l i) (t : ByteArray) (ht : t.size ≤ 100000) : ∃ (u : ByteArray) (i' h' : Int), Ev (fun k => spec_l02Spoilt.f k l i h t) (u, i', h') := by
  have hx : ∀ a b, (t.extract a b).size ≤ t.size := fun a b => by rw [ByteArray.size_extract]; omega
  simp only [spec_l02Spoilt.f]
  obtain ⟨b, i1, h1, e1, hi1, _, _⟩ := below_ok l i h 12 hl hi
  have J : ∀ c : Bool, ∃ (u : ByteArray) (i' h' : Int), Ev (fun k => spec_l02Spoilt.j0 k t c l i1 h1) (u, i', h') := by
    intro c
    cases c with
    | false => exact ⟨t, i1, h1, ev_ff (fun k => by rw [spec_l02Spoilt.j0]; try rfl) (Ev.now _)⟩
    | true =>
      by_cases h0 : (t.size : Int) > 0
      · obtain ⟨q, i2, h2, e2, hi2, _, hq⟩ := below_ok l i1 h1 (t.size : Int) hl hi1
        have hq := hq h0
        obtain ⟨r, i3, h3, e3, hi3, hr⟩ := text_ok l hl i2 h2 1 hi2 (by omega)
        have e1 := hx 0 q.toNat
        have e4 := hx ((wrap64 (q + 1)) : Int).toNat t.size
        have ew : wrap64 (q + 1) = q + 1 := w64 (by omega) (by omega)
        refine ⟨_, _, _, ev_tt (fun k => by rw [spec_l02Spoilt.j0]; try rfl) (ev_pos h0 (Ev.bind (g := fun _ => spec_l01Below.f l i1 h1 (t.size : Int)) (by rw [e2]; exact Ev.now _) (ev_pos hq.1 (ev_pos (by show q ≤ (t.size : Int); omega) (Ev.bind e3 (ev_pos ?_ (ev_pos ?_ (ev_pos ?_ (ev_pos ?_ (Ev.now _))))))))))⟩
        · show (t.extract 0 q.toNat).size + r.size ≤ _
          omega
        · show 0 ≤ wrap64 (q + 1)
          rw [ew]
          omega
        · show wrap64 (q + 1) ≤ (t.size : Int)
          rw [ew]
          omega
        · show ((t.extract 0 q.toNat) ++ r).size + (t.extract ((wrap64 (q + 1)) : Int).toNat t.size).size ≤ _
          rw [ByteArray.size_append]
          clear ew
          omega
      · exact ⟨t, i1, h1, ev_tt (fun k => by rw [spec_l02Spoilt.j0]; try rfl) (ev_neg h0 (Ev.now _))⟩
  by_cases c0 : b = 0
  · obtain ⟨r, i3, h3, e3, hi3, hr⟩ := text_ok l hl i1 h1 1 hi1 (by omega)
    exact ⟨_, _, _, Ev.bind (g := fun _ => spec_l01Below.f l i h 12) (by rw [e1]; exact Ev.now _) (ev_pos c0 (Ev.bind e3 (ev_pos (by show t.size + r.size ≤ _; omega) (Ev.now _))))⟩
  by_cases c1 : b = 1
  · have ew : wrap64 ((t.size : Int) + 1) = (t.size : Int) + 1 := w64 (by omega) (by omega)
    obtain ⟨q, i2, h2, e2, hi2, _, hq⟩ := below_ok l i1 h1 ((t.size : Int) + 1) hl hi1
    have hq := hq (by omega)
    exact ⟨_, _, _, Ev.bind (g := fun _ => spec_l01Below.f l i h 12) (by rw [e1]; exact Ev.now _) (ev_neg c0 (ev_pos c1 (Ev.bind (g := fun _ => spec_l01Below.f l i1 h1 (wrap64 ((t.size : Int) + 1))) (by rw [ew, e2]; exact Ev.now _) (ev_pos hq.1 (ev_pos (by show q ≤ (t.size : Int); clear ew; omega) (Ev.now _))))))⟩
  by_cases c2 : b = 2
  · obtain ⟨u, i', h', e⟩ := J (b == 2)
    exact ⟨u, i', h', Ev.bind (g := fun _ => spec_l01Below.f l i h 12) (by rw [e1]; exact Ev.now _) (ev_neg c0 (ev_neg c1 (ev_pos c2 e)))⟩
  · obtain ⟨u, i', h', e⟩ := J (b == 3)
    exact ⟨u, i', h', Ev.bind (g := fun _ => spec_l01Below.f l i h 12) (by rw [e1]; exact Ev.now _) (ev_neg c0 (ev_neg c1 (ev_neg c2 e)))⟩
theorem itemTextV_size (n : Nat) (x : S26) : (itemTextV n x).1.size ≤ 4000 := by
  unfold itemTextV
  split
  · rename_i q
    show (strOfNums (textL n x)).size ≤ 4000
    rw [strOfNums_size]
    exact q.2
  · show 0 ≤ 4000
    omega
theorem draw_item (l : List Int) (hl : l.length ≤ 1048576) : ∃ x : S26, Ev (fun k => spec_DrawItem.f k l) (x.f0, x.f1, x.f2) ∧ WL 4 x ∧ wtL 4 x ≤ 500000 := by
  simp only [spec_DrawItem.f]
  obtain ⟨h0, e0⟩ := new_ok l hl
  obtain ⟨x, i2, h2, e2, hi2, hs, hz⟩ := item_ok l hl 3 (by omega) 0 h0 (in_zero l)
  have hb : smB 4 = 425340 := by decide
  have h4 : wtL 4 x ≤ 425340 := hb ▸ SM_wt 0 4 x hs
  exact ⟨x, Ev.bind e0 (Ev.bind e2 (Ev.now _)), SM_WL 4 x hs, Nat.le_trans h4 (by omega)⟩
theorem draw_read (l : List Int) (hl : l.length ≤ 1048576) : ∃ u : ByteArray, Ev (fun k => spec_DrawReadItem.f k l) u := by
  simp only [spec_DrawReadItem.f]
  obtain ⟨h0, e0⟩ := new_ok l hl
  obtain ⟨b, i1, h1, e1, hi1, _, _⟩ := below_ok l 0 h0 6 hl (in_zero l)
  obtain ⟨x, i2, h2, e2, hi2, hw, hb⟩ := any_ok l hl i1 h1 hi1
  have et := spec_ItemText_ev 10 x hw (by omega)
  have hz := itemTextV_size 10 x
  by_cases c0 : b = 0
  · obtain ⟨u, i', h', eu⟩ := spoilt_ok l hl i2 h2 hi2 (itemTextV 10 x).1 (by omega)
    exact ⟨u, Ev.bind e0 (Ev.bind (g := fun _ => spec_l01Below.f l 0 h0 6) (a := (b, i1, h1)) (by rw [e1]; exact Ev.now _) (Ev.bind e2 (Ev.bind et (ev_pos c0 (Ev.bind eu (Ev.now _))))))⟩
  by_cases c1 : b = 1
  · exact ⟨_, Ev.bind e0 (Ev.bind (g := fun _ => spec_l01Below.f l 0 h0 6) (a := (b, i1, h1)) (by rw [e1]; exact Ev.now _) (Ev.bind e2 (Ev.bind et (ev_neg c0 (ev_pos c1 (ev_pos (by show (itemTextV 10 x).1.size + 1 ≤ _; omega) (Ev.now _)))))))⟩
  by_cases c2 : b = 2
  · obtain ⟨s, i', h', e, hi', hs⟩ := pick_ok l i2 h2 [(⟨#[]⟩ : ByteArray), (⟨#[2, 2, 0, 1]⟩ : ByteArray), (⟨#[2, 1, 128]⟩ : ByteArray), (⟨#[4, 129, 5, 104, 101, 108, 108, 111]⟩ : ByteArray), (⟨#[1, 1, 1]⟩ : ByteArray), (⟨#[48, 128]⟩ : ByteArray), (⟨#[4, 130, 0, 128]⟩ : ByteArray), (⟨#[48, 3, 2, 1]⟩ : ByteArray)] hl hi2 (by simp)
    exact ⟨s, Ev.bind e0 (Ev.bind (g := fun _ => spec_l01Below.f l 0 h0 6) (a := (b, i1, h1)) (by rw [e1]; exact Ev.now _) (Ev.bind e2 (Ev.bind et (ev_neg c0 (ev_neg c1 (ev_pos c2 (Ev.bind (g := fun _ => spec_l01Pick.f l i2 h2 [(⟨#[]⟩ : ByteArray), (⟨#[2, 2, 0, 1]⟩ : ByteArray), (⟨#[2, 1, 128]⟩ : ByteArray), (⟨#[4, 129, 5, 104, 101, 108, 108, 111]⟩ : ByteArray), (⟨#[1, 1, 1]⟩ : ByteArray), (⟨#[48, 128]⟩ : ByteArray), (⟨#[4, 130, 0, 128]⟩ : ByteArray), (⟨#[48, 3, 2, 1]⟩ : ByteArray)]) (by rw [e]; exact Ev.now _) (Ev.now _))))))))⟩
  · exact ⟨_, Ev.bind e0 (Ev.bind (g := fun _ => spec_l01Below.f l 0 h0 6) (a := (b, i1, h1)) (by rw [e1]; exact Ev.now _) (Ev.bind e2 (Ev.bind et (ev_neg c0 (ev_neg c1 (ev_neg c2 (Ev.now _)))))))⟩
theorem draw_same (l : List Int) (hl : l.length ≤ 1048576) : ∃ a b : S26, Ev (fun k => spec_DrawSameItem.f k l) (a.f0, a.f1, a.f2, b.f0, b.f1, b.f2) ∧ WL 10 a ∧ WL 10 b := by
  simp only [spec_DrawSameItem.f, spec_l01Once.f]
  obtain ⟨h0, e0⟩ := new_ok l hl
  obtain ⟨x, i2, h2, e2, hi2, hw, hb⟩ := any_ok l hl 0 h0 (in_zero l)
  obtain ⟨b1, i3, h3, e3, hi3, _, _⟩ := below_ok l i2 h2 2 hl hi2
  by_cases hb0 : b1 = 0
  · refine ⟨x, x, Ev.bind e0 (Ev.bind e2 (Ev.bind (g := fun _ => (spec_l01Below.f l i2 h2 2).bind fun bt => some ((bt.1 == 0), bt.2.1, bt.2.2)) (a := (true, i3, h3)) ?_ (ev_pos rfl (Ev.now _)))), hw, hw⟩
    rw [e3, hb0]
    exact Ev.now _
  · obtain ⟨y, i4, h4, e4, hi4, hw4, hb4⟩ := any_ok l hl i3 h3 hi3
    refine ⟨x, y, Ev.bind e0 (Ev.bind e2 (Ev.bind (g := fun _ => (spec_l01Below.f l i2 h2 2).bind fun bt => some ((bt.1 == 0), bt.2.1, bt.2.2)) (a := (false, i3, h3)) ?_ (ev_neg Bool.false_ne_true (Ev.bind e4 (Ev.now _))))), hw, hw4⟩
    rw [e3]
    have : (b1 == 0) = false := beq_eq_false_iff_ne.mpr hb0
    show Ev (fun _ => some ((b1 == 0), i3, h3)) _
    rw [this]
    exact Ev.now _
theorem draw_ok (l : List Int) (hl : l.length ≤ 1048576) : ∃ c : S26, Ev (fun k => spec_DrawItemOk.f k l) (c.f0, c.f1, c.f2) ∧ WL 10 c := by
  simp only [spec_DrawItemOk.f]
  obtain ⟨h0, e0⟩ := new_ok l hl
  obtain ⟨x, i2, h2, e2, hi2, hw, hb⟩ := any_ok l hl 0 h0 (in_zero l)
  exact ⟨x, Ev.bind e0 (Ev.bind e2 (Ev.now _)), hw⟩
theorem impl_ItemOk_ev (n : Nat) (x : S26) (h : WL n x) : Ev (fun k => impl_ItemOk.f k x.f0 x.f1 x.f2) (okV n x 0) := by
  simp only [impl_ItemOk.f]
  exact Ev.bind (impl_ok n x 0 h (by omega) (by omega)) (Ev.now _)
theorem spec_ItemOk_ev (n : Nat) (x : S26) (h : WL n x) : Ev (fun k => spec_ItemOk.f k x.f0 x.f1 x.f2) (okV n x 0) := by
  simp only [spec_ItemOk.f]
  exact Ev.bind (spec_ok n x 0 h (by omega) (by omega)) (Ev.now _)
theorem less_split (L : List Int) (h : 1 ≤ L.length) : ∃ q : Int, L = L.take (L.length - 1) ++ [q] ∧ q ∈ L := by
  have hlt : L.length - 1 < L.length := by omega
  refine ⟨L[L.length - 1], ?_, List.getElem_mem hlt⟩
  have := List.take_append_drop (L.length - 1) L
  rw [List.drop_eq_getElem_cons hlt, List.drop_eq_nil_of_le (by omega)] at this
  exact this.symm
theorem FnItems : laws_FnItems.Pure := by
  intro l _ _ _
  refine Ev.rounds (g := fun k => laws_FnItems.f k l) ?_
  simp only [laws_FnItems.f, laws_big.f]
  refine Ev.bind (g := fun _ => some (decide ((l.length : Int) > 1048576))) (Ev.now _) ?_
  by_cases hb : (l.length : Int) > 1048576
  · exact ev_pos (decide_eq_true hb) (Ev.now _)
  refine ev_neg (by simpa using hb) ?_
  have hl : l.length ≤ 1048576 := by omega
  obtain ⟨x, ex, wx, bx⟩ := draw_item l hl
  obtain ⟨u, eu⟩ := draw_read l hl
  obtain ⟨a, b, ed, wa, wb⟩ := draw_same l hl
  obtain ⟨c, ec, wc⟩ := draw_ok l hl
  have et := impl_ItemText_ev 4 x wx (by omega)
  obtain ⟨oy, iy, _, _, _⟩ := read_both (itemTextV 4 x).1
  obtain ⟨ou, iu, su, hou, _⟩ := read_both u
  have eg : ∃ g, Ev (fun k => impl_ItemText.f k (encRI ou).1 (encRI ou).2.1 (encRI ou).2.2.1) g ∧ ((encRI ou).2.2.2 = false ∨ g.1.toList = u.toList) := by
    cases ou with
    | none => exact ⟨_, impl_ItemText_ev 1 (⟨0, (⟨#[]⟩ : ByteArray), []⟩ : S26) (WL_flat 0 _ _ (by decide)) (by decide), Or.inl rfl⟩
    | some z =>
      obtain ⟨n, h⟩ := hou z rfl
      have e := impl_ItemText_ev n z h.wl h.wt
      rw [h.tx] at e
      exact ⟨_, e, Or.inr rfl⟩
  obtain ⟨g, eg, hg⟩ := eg
  obtain ⟨s, s1, s2⟩ := same_pair 10 a b wa wb
  have fin : Ev (fun k => (impl_ItemOk.f k c.f0 c.f1 c.f2).bind fun c1 => (spec_ItemOk.f k c.f0 c.f1 c.f2).bind fun c2 => if c1 = c2 then some true else none) true := Ev.bind (impl_ItemOk_ev 10 c wc) (Ev.bind (spec_ItemOk_ev 10 c wc) (ev_pos rfl (Ev.now _)))
  refine Ev.bind ex (Ev.bind et (Ev.bind iy (Ev.bind eu (Ev.bind iu (Ev.bind su (Ev.bind eg (Ev.bind ed (Ev.bind ec ?_))))))))
  by_cases hk : okV 4 x 0 = true ∧ (textL 4 x).length ≤ 4000
  · have hv : itemTextV 4 x = (strOfNums (textL 4 x), true) := by unfold itemTextV; rw [if_pos hk]
    have hT : IsText (strOfNums (textL 4 x)) 4 x := ⟨wx, by omega, hv⟩
    have hsz : (strOfNums (textL 4 x)).size = (textL 4 x).length := strOfNums_size _
    have h2 := ok_text hk.1
    have ey := impl_read_yes hT
    rw [hv] at iy ⊢
    have hy := Ev.det iy ey
    have ew : wrap64 (((strOfNums (textL 4 x)).size : Int) - 1) = (((textL 4 x).length - 1 : Nat) : Int) := by rw [hsz, w64 (by omega) (by omega)]; omega
    have hm : Ev (fun k => impl_ReadItem.f k (strOfNums (textL 4 x) ++ (⟨#[120]⟩ : ByteArray))) (encRI none) := impl_read_no _ (fun ⟨n, y, h⟩ => hT.more [120] (fun b hb => by obtain rfl := List.mem_singleton.1 hb; omega) (by simp) (by decide) h)
    have hle : Ev (fun k => impl_ReadItem.f k ((strOfNums (textL 4 x)).extract 0 ((((textL 4 x).length - 1 : Nat) : Int)).toNat)) (encRI none) := by
      rw [Int.toNat_natCast, str_front]
      obtain ⟨q, hq, hqm⟩ := less_split (textL 4 x) (by omega)
      refine impl_read_no _ (fun ⟨n, y, h⟩ => h.more [q] (fun b hb => by obtain rfl := List.mem_singleton.1 hb; exact text_rng 4 x _ hqm) (by simp) (by simp) (m := 4) (y := x) ?_)
      rw [str_append, ← hq]
      exact hT
    refine ev_pos rfl (ev_pos (by show (strOfNums (textL 4 x)).size + 1 ≤ _; omega) (Ev.bind hm ?_))
    rw [ew]
    refine ev_pos (by omega) (ev_pos (by show (((textL 4 x).length - 1 : Nat) : Int) ≤ ((strOfNums (textL 4 x)).size : Int); omega) (Ev.bind hle (Ev.bind (impl_ItemOk_ev 4 x wx) (ev_pos hk.1 ?_))))
    obtain ⟨sx, x1, x2⟩ := same_pair 4 x x wx wx
    have hsx : sx = true := Ev.det x1 (same_refl 4 x wx)
    subst hsx
    rw [hy]
    exact Ev.bind x2 (ev_pos ⟨⟨rfl, rfl, rfl, rfl⟩, rfl, hg⟩ (Ev.bind s2 (Ev.bind s1 (ev_pos rfl fin))))
  · have hv : itemTextV 4 x = ((⟨#[]⟩ : ByteArray), false) := by unfold itemTextV; rw [if_neg hk]
    rw [hv]
    exact ev_neg Bool.false_ne_true (ev_pos ⟨rfl, rfl⟩ fin)

end Go.Proofs.Ytknalcnbkbkjdaa.Pure

namespace Go.Proofs.Ytknalcnbkbkjdaa.PrintWords
open Go.ChangeShapes Go.WideShapes
/-- The words' own, under the name by which the printed row calls it. -/
theorem sized_ints {H : Type} {enc : TypeId × Value → H} {P : Program} {W : World} {base : Nat} {spare : Nat → Bool} {held : Bool} {t e : TypeId} {k : IntKind} {a : Option Addr} {len cap : Nat} {d : DataW H} {ps : List MemPlace} {ts : List TypeId} {ds : List (DataW H)} {j : Nat}
    (hsz : (DataW.weightsEach P ts ds).all (· ≤ reachBytes) = true) (ht : ts[j]? = some t) (hd : ds[j]? = some d) (hu : P.underlying t = some (.slice e)) (he : P.underlying e = some (.int k)) (hc : P.cellsOf e = 1) {B : Nat} (hB : P.bytesOf e = B)
    (h : DataW.Trod enc P W base spare held t (.slice a len cap) d ps) : len * B ≤ 140737488351232 :=
  Go.Proofs.YtknalcnbkbkjdaaW.PrintWords.sized_ints hsz ht hd hu he hc hB h
end Go.Proofs.Ytknalcnbkbkjdaa.PrintWords
