/- The law FnNames answers true for every input: who is under one is under all above; what is allowed is under one of what is permitted, and under none of what is denied. -/
import Derived.Test.YtkhmcioeceiepaaDoorGFnNamesx4
import Derived.Test.YtkhmcioeceiepaaDoorWSized
set_option linter.unusedVariables false
set_option linter.unusedSimpArgs false
namespace Go.Proofs.YtkhmcioeceiepaaDoor.Pure
open Go.RowKit Go.Proofs.YtkhmcioeceiepaaDoor.GFnNames Go.Proofs.YtkhmcioeceiepaaDoorW.PrintWords Go.Proofs.YtkhmcioeceiepaaDoorW.PrintLast

theorem w64 {n : Int} (h0 : -9223372036854775808 ≤ n) (h1 : n ≤ 9223372036854775807) : wrap64 n = n := by unfold wrap64; omega
theorem ev_pos {α : Type} {c : Prop} [Decidable c] {f g : Nat → Option α} {r : α} (h : c) (k : Ev f r) : Ev (fun n => if c then f n else g n) r := by
  simpa only [if_pos h] using k
theorem ev_neg {α : Type} {c : Prop} [Decidable c] {f g : Nat → Option α} {r : α} (h : ¬ c) (k : Ev g r) : Ev (fun n => if c then f n else g n) r := by
  simpa only [if_neg h] using k
theorem tdivN (n m : Nat) : Int.tdiv (n : Int) (m : Int) = ((n / m : Nat) : Int) := rfl
theorem tmodN (n m : Nat) : Int.tmod (n : Int) (m : Int) = ((n % m : Nat) : Int) := rfl
theorem tdiv_pos' {n m : Int} (h : 0 ≤ n) : Int.tdiv n m = n / m := Int.tdiv_eq_ediv_of_nonneg h
theorem tmod_pos' {n m : Int} (h : 0 ≤ n) : Int.tmod n m = n % m := Int.tmod_eq_emod_of_nonneg h
theorem bt_rng (s : ByteArray) (i : Int) : 0 ≤ bt s i ∧ bt s i ≤ 255 := bt_range s i
theorem bt_bytes (s : ByteArray) (i : Nat) : bt s i = (bytesOf s).getD i 0 := (rd_bytesOf s i).symm
theorem drop_bytes (s : ByteArray) (i : Nat) (h : i < s.size) : (bytesOf s).drop i = bt s i :: (bytesOf s).drop (i + 1) := by
  have h' : i < (bytesOf s).length := by rw [bytesOf_length]; exact h
  rw [List.drop_eq_getElem_cons h', bt_bytes, List.getD_eq_getElem?_getD, List.getElem?_eq_getElem h']
  rfl

theorem and255 (x : Int) : 0 ≤ Go.bits .and .i64 x 255 ∧ Go.bits .and .i64 x 255 ≤ 255 := by
  have h : (BitVec.ofInt 64 x &&& BitVec.ofInt 64 255).toNat ≤ 255 := by
    rw [BitVec.toNat_and]
    exact Nat.le_trans Nat.and_le_right (by decide)
  have e : Go.bits .and .i64 x 255 = IntKind.i64.wrap ((BitVec.ofInt 64 x &&& BitVec.ofInt 64 255).toNat : Int) := rfl
  rw [e, IntKind.wrap_i64]
  omega
/-- The cursor's place lies in its bytes. -/
def In (l : List Int) (i : Int) : Prop := 0 ≤ i ∧ i ≤ l.length
theorem byte_ok (l : List Int) (i h : Int) (hl : l.length ≤ 1048576) (hi : In l i) : ∃ b i' h', spec_l01Byte.f l i h = some (b, i', h') ∧ In l i' ∧ 0 ≤ b ∧ b ≤ 255 := by
  unfold spec_l01Byte.f
  obtain ⟨h0, h1⟩ := hi
  by_cases hc : i < (l.length : Int)
  · rw [if_pos hc, if_pos h0]
    have e : wrap64 (i + 1) = i + 1 := w64 (by omega) (by omega)
    exact ⟨_, _, _, rfl, by rw [e]; exact ⟨by omega, by omega⟩, (and255 _).1, (and255 _).2⟩
  · rw [if_neg hc]
    exact ⟨_, _, _, rfl, ⟨h0, h1⟩, (and255 _).1, (and255 _).2⟩
theorem below_ok (l : List Int) (i h n : Int) (hl : l.length ≤ 1048576) (hi : In l i) : ∃ b i' h', spec_l01Below.f l i h n = some (b, i', h') ∧ In l i' ∧ (n ≤ 0 → b = 0) ∧ (0 < n → 0 ≤ b ∧ b < n) := by
  unfold spec_l01Below.f
  by_cases h0 : n ≤ 0
  · rw [if_pos h0]
    exact ⟨_, _, _, rfl, hi, fun _ => rfl, fun h => by omega⟩
  rw [if_neg h0]
  by_cases h1 : n ≤ 256
  · rw [if_pos h1]
    obtain ⟨b, i', h', e, hi', hb0, hb1⟩ := byte_ok l i h hl hi
    rw [e, Option.bind_some, if_neg (by omega)]
    refine ⟨_, _, _, rfl, hi', fun h => absurd h h0, fun _ => ?_⟩
    show 0 ≤ Int.tmod b n ∧ Int.tmod b n < n
    rw [tmod_pos' hb0]
    exact ⟨Int.emod_nonneg _ (by omega), Int.emod_lt_of_pos _ (by omega)⟩
  · rw [if_neg h1]
    obtain ⟨b1, i1, h1', e1, hi1, p1, q1⟩ := byte_ok l i h hl hi
    obtain ⟨b2, i2, h2', e2, hi2, p2, q2⟩ := byte_ok l i1 h1' hl hi1
    obtain ⟨b3, i3, h3', e3, hi3, p3, q3⟩ := byte_ok l i2 h2' hl hi2
    obtain ⟨b4, i4, h4', e4, hi4, p4, q4⟩ := byte_ok l i3 h3' hl hi3
    simp only [e1, e2, e3, e4, Option.bind_some]
    rw [if_neg (by omega)]
    refine ⟨_, _, _, rfl, hi4, fun h => absurd h h0, fun _ => ?_⟩
    have w1 : wrap64 (b1 * 16777216) = b1 * 16777216 := w64 (by omega) (by omega)
    have w2 : wrap64 (b2 * 65536) = b2 * 65536 := w64 (by omega) (by omega)
    have w3 : wrap64 (b3 * 256) = b3 * 256 := w64 (by omega) (by omega)
    rw [w1, w2, w3, w64 (n := b1 * 16777216 + b2 * 65536) (by omega) (by omega), w64 (n := b1 * 16777216 + b2 * 65536 + b3 * 256) (by omega) (by omega), w64 (n := b1 * 16777216 + b2 * 65536 + b3 * 256 + b4) (by omega) (by omega), tmod_pos' (by omega)]
    exact ⟨Int.emod_nonneg _ (by omega), Int.emod_lt_of_pos _ (by omega)⟩
theorem new_loop (l : List Int) (hl : l.length ≤ 1048576) : ∀ (d i : Nat), i + d = l.length → ∀ h : Int, ∃ h', Ev (fun k => spec_l01New.l0 k l h (i : Int)) (l, 0, h') := by
  intro d
  induction d with
  | zero =>
    intro i hi h
    exact ⟨h, Ev.step (fun k => by rw [spec_l01New.l0]) (ev_neg (by omega) (Ev.now _))⟩
  | succ d ih =>
    intro i hi h
    by_cases hc : (i : Int) < 4000
    · obtain ⟨h', e⟩ := ih (i + 1) (by omega) (Go.bits .and .i64 (wrap64 ((wrap64 ((wrap64 (h * 131)) + (wrap64 (rd l i)))) + 7)) 1073741823)
      refine ⟨h', Ev.step (fun k => by rw [spec_l01New.l0]) (ev_pos (by omega) (ev_pos hc (ev_pos (by omega) ?_)))⟩
      rw [show wrap64 ((i : Int) + 1) = ((i + 1 : Nat) : Int) by rw [w64 (by omega) (by omega)]; omega]
      exact e
    · exact ⟨h, Ev.step (fun k => by rw [spec_l01New.l0]) (ev_pos (by omega) (ev_neg hc (Ev.now _)))⟩
theorem new_ok (l : List Int) (hl : l.length ≤ 1048576) : ∃ h', Ev (fun k => spec_l01New.f k l) (l, 0, h') := by
  simp only [spec_l01New.f]
  exact new_loop l hl l.length 0 (by omega) _
theorem in_zero (l : List Int) : In l 0 := ⟨by omega, by omega⟩

/-! A text cut at its points, and read byte by byte. -/
def lowB (c : UInt8) : Bool := decide (97 ≤ c.toNat) && decide (c.toNat ≤ 122)
def scanN : List UInt8 → Bool → Bool
  | [], p => p
  | c :: l, p => if lowB c = true then scanN l true else if c = 46 then (if p = true then scanN l false else false) else false
def partOk (p : List UInt8) : Bool := !p.isEmpty && p.all lowB
theorem splitK_cons (c : UInt8) (l : List UInt8) (hc : c ≠ 46) : ∀ k, ∃ h t, Lib.splitK [46] 0 k l = h :: t ∧ Lib.splitK [46] 0 k (c :: l) = (c :: h) :: t := by
  intro k
  cases k with
  | zero => exact ⟨l, [], rfl, rfl⟩
  | succ k =>
    unfold Lib.splitK
    rw [Lib.index_one, Lib.index_one]
    have e : Lib.indexByte (c :: l) 46 = if Lib.indexByte l 46 = -1 then -1 else Lib.indexByte l 46 + 1 := by
      rw [Lib.indexByte]
      simp [hc]
    by_cases hi : Lib.indexByte l 46 = -1
    · rw [e, if_pos hi, hi]
      exact ⟨l, [], rfl, rfl⟩
    · have hn : ∃ i : Nat, Lib.indexByte l 46 = i := by
        have : ∀ l : List UInt8, -1 ≤ Lib.indexByte l 46 := by
          intro l
          induction l with
          | nil => simp [Lib.indexByte]
          | cons b l ih =>
            rw [Lib.indexByte]
            split
            · omega
            · split <;> omega
        have h1 := this l
        exact ⟨(Lib.indexByte l 46).toNat, by omega⟩
      obtain ⟨i, hi2⟩ := hn
      rw [e, if_neg hi, hi2]
      have b1 : ((i : Int) == -1) = false := beq_eq_false_iff_ne.2 (by omega)
      have b2 : ((i : Int) + 1 == -1) = false := beq_eq_false_iff_ne.2 (by omega)
      rw [b1, b2]
      have t1 : ((i : Int)).toNat = i := by omega
      have t2 : ((i : Int) + 1).toNat = i + 1 := by omega
      rw [t1, t2]
      refine ⟨_, _, rfl, ?_⟩
      simp
theorem split_dot (l : List UInt8) : Lib.split (46 :: l) [46] = [] :: Lib.split l [46] := by
  unfold Lib.split
  rw [Lib.count_cons_eq, Nat.add_comm]
  rw [Lib.splitK, Lib.index_one]
  have e : Lib.indexByte (46 :: l) 46 = 0 := by rw [Lib.indexByte]; simp
  rw [e]
  simp
theorem split_other (c : UInt8) (l : List UInt8) (hc : c ≠ 46) : ∃ h t, Lib.split l [46] = h :: t ∧ Lib.split (c :: l) [46] = (c :: h) :: t := by
  unfold Lib.split
  rw [Lib.count_cons_ne _ _ _ hc]
  exact splitK_cons c l hc _
theorem scan_split : ∀ (l : List UInt8) (p : Bool), ∃ h t, Lib.split l [46] = h :: t ∧ scanN l p = (((p || !h.isEmpty) && h.all lowB) && t.all partOk) := by
  intro l
  induction l with
  | nil => intro p; exact ⟨[], [], rfl, by simp [scanN]⟩
  | cons c l ih =>
    intro p
    by_cases hc : c = 46
    · subst hc
      obtain ⟨h, t, e, es⟩ := ih false
      refine ⟨[], Lib.split l [46], split_dot l, ?_⟩
      have hl : lowB 46 = false := rfl
      rw [scanN, hl, if_neg Bool.false_ne_true, if_pos rfl, e]
      cases p with
      | false => simp
      | true =>
        rw [if_pos rfl, es]
        simp [partOk]
    · obtain ⟨h, t, e, es⟩ := ih true
      obtain ⟨h', t', e', e2⟩ := split_other c l hc
      rw [e] at e'
      obtain ⟨rfl, rfl⟩ : h = h' ∧ t = t' := by simpa using e'
      refine ⟨c :: h, t, e2, ?_⟩
      rw [scanN]
      by_cases hl : lowB c = true
      · rw [if_pos hl, es]
        simp [hl]
      · rw [if_neg hl, if_neg hc]
        simp [hl]
theorem scan_parts (l : List UInt8) : scanN l false = (Lib.split l [46]).all partOk := by
  obtain ⟨h, t, e, es⟩ := scan_split l false
  rw [es, e]
  simp [partOk]

theorem rdS (xs : List ByteArray) (i : Nat) (h : i < xs.length) : rdOf ByteArray.empty xs (i : Int) = xs[i] := by
  simp [rdOf, List.getD_eq_getElem?_getD, List.getElem?_eq_getElem h]

/-! What is a right name: both sides answer by the same word. -/
def nameV (s : ByteArray) : Bool := decide (s.size ≤ 20) && scanN s.data.toList false
theorem bt_at (s : ByteArray) (i : Nat) (h : i < s.size) : ∃ c : UInt8, bt s (i : Int) = (c.toNat : Int) ∧ s.data.toList.drop i = c :: s.data.toList.drop (i + 1) := by
  have h' : i < s.data.toList.length := by rw [Array.length_toList]; exact h
  refine ⟨s.data.toList[i], ?_, List.drop_eq_getElem_cons h'⟩
  unfold bt
  rw [dif_pos (by simpa using h)]
  rfl
theorem low_bt (c : UInt8) : lowB c = (decide ((c.toNat : Int) ≥ 97) && decide ((c.toNat : Int) ≤ 122)) := by
  unfold lowB
  congr 1 <;> rw [decide_eq_decide] <;> omega
theorem dot_bt (c : UInt8) : ((c.toNat : Int) = 46) ↔ c = 46 := by
  constructor
  · intro h
    have h2 : c.toNat = (46 : UInt8).toNat := by
      show c.toNat = 46
      omega
    exact UInt8.toNat_inj.1 h2
  · intro h
    subst h
    rfl
theorem spec_name (s : ByteArray) (hs : s.size ≤ 1048576) : Ev (fun k => spec_NameOk.f k s) (nameV s) := by
  have loop : ∀ (d i p : Nat), i + d = s.size → p ≤ i → Ev (fun k => spec_NameOk.l0 k s (p : Int) (i : Int)) (scanN (s.data.toList.drop i) (decide (0 < p)) && decide (1 ≤ s.size ∧ s.size ≤ 20)) := by
    intro d
    induction d with
    | zero =>
      intro i p hi hp
      refine Ev.step (fun k => by rw [spec_NameOk.l0]) (ev_neg (by omega) ?_)
      rw [List.drop_eq_nil_of_le (by rw [Array.length_toList]; show s.size ≤ i; omega), scanN]
      by_cases h1 : 1 ≤ s.size
      · by_cases h2 : s.size ≤ 20
        · refine Ev.bind (g := fun _ => spec_l01In.f (s.size : Int) 1 20) (a := true) (by unfold spec_l01In.f; rw [if_pos (by omega), decide_eq_true (by omega)]; exact Ev.now _) (ev_pos rfl ?_)
          rw [decide_eq_true (show 1 ≤ s.size ∧ s.size ≤ 20 from ⟨h1, h2⟩), Bool.and_true, show decide (0 < p) = decide ((p : Int) > 0) by rw [decide_eq_decide]; omega]
          exact Ev.now _
        · refine Ev.bind (g := fun _ => spec_l01In.f (s.size : Int) 1 20) (a := false) (by unfold spec_l01In.f; rw [if_pos (by omega), decide_eq_false (by omega)]; exact Ev.now _) (ev_neg Bool.false_ne_true ?_)
          rw [decide_eq_false (show ¬ (1 ≤ s.size ∧ s.size ≤ 20) from fun h => h2 h.2), Bool.and_false]
          exact Ev.now _
      · refine Ev.bind (g := fun _ => spec_l01In.f (s.size : Int) 1 20) (a := false) (by unfold spec_l01In.f; rw [if_neg (by omega)]; exact Ev.now _) (ev_neg Bool.false_ne_true ?_)
        rw [decide_eq_false (show ¬ (1 ≤ s.size ∧ s.size ≤ 20) from fun h => h1 h.1), Bool.and_false]
        exact Ev.now _
    | succ d ih =>
      intro i p hi hp
      obtain ⟨c, hb, hd⟩ := bt_at s i (by omega)
      have ei : wrap64 ((i : Int) + 1) = ((i + 1 : Nat) : Int) := by rw [w64 (by omega) (by omega)]; omega
      have ep : wrap64 ((p : Int) + 1) = ((p + 1 : Nat) : Int) := by rw [w64 (by omega) (by omega)]; omega
      have i1 := ih (i + 1) (p + 1) (by omega) (by omega)
      have i0 := ih (i + 1) 0 (by omega) (by omega)
      rw [decide_eq_true (show 0 < p + 1 by omega)] at i1
      rw [decide_eq_false (show ¬ 0 < 0 by omega)] at i0
      have j : Ev (fun k => spec_NameOk.j1 k s (p : Int) (i : Int) (lowB c)) (scanN (s.data.toList.drop i) (decide (0 < p)) && decide (1 ≤ s.size ∧ s.size ≤ 20)) := by
        refine Ev.step (fun k => by rw [spec_NameOk.j1]) ?_
        rw [hd, scanN, ei, ep, hb]
        by_cases hl : lowB c = true
        · rw [if_pos hl]
          exact ev_pos hl i1
        · rw [if_neg hl]
          refine ev_neg hl (ev_pos (by omega) (ev_pos (by omega) ?_))
          by_cases hc : c = 46
          · rw [if_pos hc]
            refine ev_pos ((dot_bt c).2 hc) ?_
            by_cases hp0 : 0 < p
            · rw [decide_eq_true hp0, if_pos rfl]
              exact ev_pos (by omega) i0
            · rw [decide_eq_false hp0, if_neg Bool.false_ne_true, Bool.false_and]
              exact ev_neg (by omega) (Ev.now _)
          · rw [if_neg hc, Bool.false_and]
            exact ev_neg (fun h => hc ((dot_bt c).1 h)) (Ev.now _)
      refine Ev.step (fun k => by rw [spec_NameOk.l0]) (ev_pos (by omega) (ev_pos (by omega) ?_))
      rw [hb]
      rw [low_bt] at j
      by_cases h97 : (c.toNat : Int) ≥ 97
      · refine ev_pos h97 ?_
        rwa [decide_eq_true h97, Bool.true_and] at j
      · refine ev_neg h97 ?_
        rwa [decide_eq_false h97, Bool.false_and] at j
  have h := loop s.size 0 0 (by omega) (by omega)
  simp only [spec_NameOk.f]
  have e : (scanN (s.data.toList.drop 0) (decide (0 < 0)) && decide (1 ≤ s.size ∧ s.size ≤ 20)) = nameV s := by
    unfold nameV
    rw [List.drop_zero, decide_eq_false (show ¬ 0 < 0 by omega)]
    by_cases h1 : 1 ≤ s.size
    · rw [Bool.and_comm]
      congr 1
      rw [decide_eq_decide]
      omega
    · have hn : s.data.toList = [] := List.eq_nil_of_length_eq_zero (by rw [Array.length_toList]; show s.size = 0; omega)
      rw [hn]
      simp [scanN]
  rwa [e] at h
theorem bytes_low (s : ByteArray) (hs : s.size ≤ 1048576) : Ev (fun k => impl_bytesIn.f k s 97 122) (s.data.toList.all lowB) := by
  have loop : ∀ (d i : Nat), i + d = s.size → Ev (fun k => impl_bytesIn.l0 k s 97 122 (i : Int)) ((s.data.toList.drop i).all lowB) := by
    intro d
    induction d with
    | zero =>
      intro i hi
      refine Ev.step (fun k => by rw [impl_bytesIn.l0]) (ev_neg (by omega) ?_)
      rw [List.drop_eq_nil_of_le (by rw [Array.length_toList]; show s.size ≤ i; omega)]
      exact Ev.now _
    | succ d ih =>
      intro i hi
      obtain ⟨c, hb, hd⟩ := bt_at s i (by omega)
      have hc := c.toNat_lt
      refine Ev.step (fun k => by rw [impl_bytesIn.l0]) (ev_pos (by omega) (ev_pos (by omega) ?_))
      rw [hb, w64 (n := (c.toNat : Int)) (by omega) (by omega), hd, List.all_cons]
      refine Ev.bind (g := fun _ => impl_within.f (c.toNat : Int) 97 122) (a := lowB c) ?_ ?_
      · rw [low_bt]
        unfold impl_within.f
        by_cases h : (c.toNat : Int) ≥ 97
        · rw [if_pos h, decide_eq_true h, Bool.true_and]; exact Ev.now _
        · rw [if_neg h, decide_eq_false h, Bool.false_and]; exact Ev.now _
      · cases lowB c with
        | true =>
          rw [Bool.true_and, show wrap64 ((i : Int) + 1) = ((i + 1 : Nat) : Int) by rw [w64 (by omega) (by omega)]; omega]
          exact ev_pos rfl (ih (i + 1) (by omega))
        | false => exact ev_neg Bool.false_ne_true (Ev.now _)
  have h := loop s.size 0 (by omega)
  rwa [List.drop_zero] at h
theorem split_size (sep : ByteArray) : ∀ (k : Nat) (s p : ByteArray), p ∈ Lib.splitB sep 0 k s → p.size ≤ s.size
  | 0, s, p, h => by
    have : p = s := by simpa [Lib.splitB] using h
    rw [this]
    exact Nat.le_refl _
  | k + 1, s, p, h => by
    unfold Lib.splitB at h
    split at h
    · have : p = s := by simpa using h
      rw [this]
      exact Nat.le_refl _
    · rcases List.mem_cons.1 h with h | h
      · rw [h, ByteArray.size_extract]
        omega
      · have h1 := split_size sep k _ p h
        rw [ByteArray.size_extract] at h1
        omega
theorem impl_name (s : ByteArray) (hs : s.size ≤ 1048576) : Ev (fun k => impl_NameOk.f k s) (nameV s) := by
  obtain ⟨ps, hps⟩ : ∃ ps, ps = Lib.splitB ⟨#[46]⟩ 0 (Lib.countB s ⟨#[46]⟩) s := ⟨_, rfl⟩
  have hsz : ∀ p ∈ ps, p.size ≤ 1048576 := fun p hp => by rw [hps] at hp; have := split_size _ _ _ _ hp; omega
  have hmap : ps.map (·.data.toList) = Lib.split s.data.toList [46] := by rw [hps]; exact Lib.splitB_data _ _ _ _
  have hlen : ps.length ≤ 1048577 := by
    have h1 := Lib.countB_le ⟨#[46]⟩ (Nat.le_refl 1) s.size s (Nat.le_refl _)
    have h2 := Lib.splitB_all ⟨#[46]⟩ (Nat.le_refl 1) 0 _ s rfl
    rw [hps, h2]
    omega
  have loop : ∀ (d i : Nat), i + d = ps.length → Ev (fun k => impl_NameOk.l0 k s ps (ps.length : Int) (i : Int)) (((ps.drop i).all fun p => partOk p.data.toList) && decide (s.size ≤ 20)) := by
    intro d
    induction d with
    | zero =>
      intro i hi
      refine Ev.step (fun k => by rw [impl_NameOk.l0]) (ev_neg (by omega) ?_)
      rw [List.drop_eq_nil_of_le (by omega), List.all_nil, Bool.true_and, show decide (s.size ≤ 20) = decide ((s.size : Int) ≤ 20) by rw [decide_eq_decide]; omega]
      exact Ev.now _
    | succ d ih =>
      intro i hi
      have hlt : i < ps.length := by omega
      refine Ev.step (fun k => by rw [impl_NameOk.l0]) (ev_pos (by omega) (ev_pos (by omega) (ev_pos (by omega) ?_)))
      rw [rdS ps i hlt, List.drop_eq_getElem_cons hlt, List.all_cons]
      have hp : ps[i].toList = ps[i].data.toList := ByteArray.toList_eq _
      by_cases hn : ps[i].data.toList = []
      · rw [show partOk ps[i].data.toList = false by unfold partOk; rw [hn]; rfl]
        exact ev_pos (by rw [hp]; exact hn) (Ev.now _)
      · refine ev_neg (by rw [hp]; exact hn) (Ev.bind (bytes_low ps[i] (hsz _ (List.getElem_mem hlt))) ?_)
        rw [show partOk ps[i].data.toList = ps[i].data.toList.all lowB by
          unfold partOk
          cases h : ps[i].data.toList with
          | nil => exact absurd h hn
          | cons c l => rfl]
        cases ps[i].data.toList.all lowB with
        | true =>
          rw [Bool.true_and, show wrap64 ((i : Int) + 1) = ((i + 1 : Nat) : Int) by rw [w64 (by omega) (by omega)]; omega]
          exact ev_pos rfl (ih (i + 1) (by omega))
        | false => exact ev_neg Bool.false_ne_true (Ev.now _)
  simp only [impl_NameOk.f]
  refine Ev.bind (g := fun _ => strings_Split.f s ⟨#[46]⟩) (a := ps) (by unfold strings_Split.f; rw [if_pos (show (⟨#[46]⟩ : ByteArray).size = 1 from rfl), if_pos (by omega), hps]; exact Ev.now _) ?_
  have h := loop ps.length 0 (by omega)
  have e : (((ps.drop 0).all fun p => partOk p.data.toList) && decide (s.size ≤ 20)) = nameV s := by
    unfold nameV
    rw [List.drop_zero, scan_parts, ← hmap, List.all_map, Bool.and_comm]
    rfl
  rwa [e] at h

theorem names_pair (l : List ByteArray) (hl : l.length ≤ 1048576) (hs : ∀ s ∈ l, s.size ≤ 1048576) : ∃ b, Ev (fun k => spec_NamesOk.f k l) b ∧ Ev (fun k => impl_NamesOk.f k l) b := by
  have loop : ∀ (d i : Nat), i + d = l.length → ∃ b, Ev (fun k => spec_NamesOk.l0 k l (i : Int)) b ∧ Ev (fun k => impl_NamesOk.l0 k l l (l.length : Int) (i : Int)) b := by
    intro d
    induction d with
    | zero =>
      intro i hi
      exact ⟨_, Ev.step (fun k => by rw [spec_NamesOk.l0]) (ev_neg (by omega) (Ev.now _)), Ev.step (fun k => by rw [impl_NamesOk.l0]) (ev_neg (by omega) (Ev.now _))⟩
    | succ d ih =>
      intro i hi
      have hlt : i < l.length := by omega
      have hsz := hs _ (List.getElem_mem hlt)
      have e1 : wrap64 ((i : Int) + 1) = ((i + 1 : Nat) : Int) := by rw [w64 (by omega) (by omega)]; omega
      obtain ⟨b, b1, b2⟩ := ih (i + 1) (by omega)
      cases hv : nameV l[i] with
      | false =>
        refine ⟨false, Ev.step (fun k => by rw [spec_NamesOk.l0]) (ev_pos (by omega) (ev_pos (by omega) ?_)), Ev.step (fun k => by rw [impl_NamesOk.l0]) (ev_pos (by omega) (ev_pos (by omega) (ev_pos (by omega) ?_)))⟩
        · rw [rdS l i hlt]
          refine Ev.bind (spec_name l[i] hsz) ?_
          rw [hv]
          exact ev_neg Bool.false_ne_true (Ev.now _)
        · rw [rdS l i hlt]
          refine Ev.bind (impl_name l[i] hsz) ?_
          rw [hv]
          exact ev_neg Bool.false_ne_true (Ev.now _)
      | true =>
        by_cases h0 : (i : Int) > 0
        · have e2 : wrap64 ((i : Int) - 1) = ((i - 1 : Nat) : Int) := by rw [w64 (by omega) (by omega)]; omega
          have hlt2 : i - 1 < l.length := by omega
          by_cases hc : (Op.bytesLess (l[i - 1].toList) (l[i].toList)) = true
          · refine ⟨b, Ev.step (fun k => by rw [spec_NamesOk.l0]) (ev_pos (by omega) (ev_pos (by omega) ?_)), Ev.step (fun k => by rw [impl_NamesOk.l0]) (ev_pos (by omega) (ev_pos (by omega) (ev_pos (by omega) ?_)))⟩
            · rw [rdS l i hlt, e2, rdS l (i - 1) hlt2, e1]
              refine Ev.bind (spec_name l[i] hsz) ?_
              rw [hv]
              exact ev_pos rfl (ev_pos h0 (ev_pos (by omega) (ev_pos (by omega) (ev_pos hc b1))))
            · rw [rdS l i hlt, e2, rdS l (i - 1) hlt2, e1]
              refine Ev.bind (impl_name l[i] hsz) ?_
              rw [hv]
              exact ev_pos rfl (ev_pos h0 (ev_pos (by omega) (ev_pos (by omega) (ev_pos hc b2))))
          · refine ⟨false, Ev.step (fun k => by rw [spec_NamesOk.l0]) (ev_pos (by omega) (ev_pos (by omega) ?_)), Ev.step (fun k => by rw [impl_NamesOk.l0]) (ev_pos (by omega) (ev_pos (by omega) (ev_pos (by omega) ?_)))⟩
            · rw [rdS l i hlt, e2, rdS l (i - 1) hlt2, e1]
              refine Ev.bind (spec_name l[i] hsz) ?_
              rw [hv]
              exact ev_pos rfl (ev_pos h0 (ev_pos (by omega) (ev_pos (by omega) (ev_neg hc (Ev.now _)))))
            · rw [rdS l i hlt, e2, rdS l (i - 1) hlt2, e1]
              refine Ev.bind (impl_name l[i] hsz) ?_
              rw [hv]
              exact ev_pos rfl (ev_pos h0 (ev_pos (by omega) (ev_pos (by omega) (ev_neg hc (Ev.now _)))))
        · refine ⟨b, Ev.step (fun k => by rw [spec_NamesOk.l0]) (ev_pos (by omega) (ev_pos (by omega) ?_)), Ev.step (fun k => by rw [impl_NamesOk.l0]) (ev_pos (by omega) (ev_pos (by omega) (ev_pos (by omega) ?_)))⟩
          · rw [rdS l i hlt, e1]
            refine Ev.bind (spec_name l[i] hsz) ?_
            rw [hv]
            exact ev_pos rfl (ev_neg h0 b1)
          · rw [rdS l i hlt, e1]
            refine Ev.bind (impl_name l[i] hsz) ?_
            rw [hv]
            exact ev_pos rfl (ev_neg h0 b2)
  obtain ⟨b, b1, b2⟩ := loop l.length 0 (by omega)
  exact ⟨b, b1, b2⟩

theorem toList_size (s : ByteArray) : s.toList.length = s.size := by rw [ByteArray.toList_eq, Array.length_toList]; rfl
theorem extract_toList (s : ByteArray) (i j : Nat) : (s.extract i j).toList = (s.toList.drop i).take (j - i) := by
  rw [ByteArray.toList_eq, ByteArray.toList_eq]; simp [ByteArray.data_extract, List.extract_eq_take_drop]
theorem under_pair (a b : ByteArray) (ha : a.size ≤ 2097152) (hb : b.size ≤ 2097152) : ∃ r, spec_Under.f a b = some r ∧ impl_Under.f a b = some r := by
  unfold spec_Under.f impl_Under.f strings_HasSuffix.f stringslite_HasSuffix.f
  by_cases h3 : b.toList = []
  · rw [if_pos h3, if_pos h3]; exact ⟨_, rfl, rfl⟩
  rw [if_neg h3, if_neg h3]
  by_cases h4 : a.toList = b.toList
  · rw [if_pos h4, if_pos h4]; exact ⟨_, rfl, rfl⟩
  rw [if_neg h4, if_neg h4, if_pos (show 1 + b.size ≤ 9223372036854775807 by omega)]
  have hsz : ((⟨#[46]⟩ : ByteArray) ++ b).size = 1 + b.size := by simp [ByteArray.size_append]; rfl
  rw [hsz]
  have e1 : wrap64 ((a.size : Int) - b.size) = (a.size : Int) - b.size := w64 (by omega) (by omega)
  have e2 : wrap64 ((a.size : Int) - ((1 + b.size : Nat) : Int)) = (a.size : Int) - (1 + b.size : Nat) := w64 (by omega) (by omega)
  have e3 : wrap64 ((a.size : Int) - b.size - 1) = (a.size : Int) - b.size - 1 := w64 (by omega) (by omega)
  rw [e1, e2, e3]
  by_cases h5 : (a.size : Int) - b.size > 0
  · rw [if_pos h5, if_pos (show (0 : Int) ≤ (a.size : Int) - b.size by omega), if_pos (show (a.size : Int) - b.size ≤ a.size by omega), if_pos (show (0 : Int) ≤ (a.size : Int) - b.size - 1 by omega), if_pos (show (a.size : Int) - b.size - 1 < a.size by omega),
      if_pos (show (a.size : Int) ≥ (1 + b.size : Nat) by omega), if_pos (show (0 : Int) ≤ (a.size : Int) - (1 + b.size : Nat) by omega), if_pos (show (a.size : Int) - (1 + b.size : Nat) ≤ a.size by omega)]
    simp only [Option.bind_some]
    have n1 : ((a.size : Int) - b.size).toNat = a.size - b.size := by omega
    have n2 : ((a.size : Int) - (1 + b.size : Nat)).toNat = a.size - b.size - 1 := by omega
    have n3 : ((a.size : Int) - b.size - 1).toNat = a.size - b.size - 1 := by omega
    have hlt : a.size - b.size - 1 < a.toList.length := by rw [toList_size]; omega
    have hbt : bt a ((a.size : Int) - b.size - 1) = (a.toList[a.size - b.size - 1]).toNat := by
      unfold bt
      rw [dif_pos (by omega)]
      simp only [n3, ByteArray.toList_eq]
      rfl
    have key : (a.extract (a.size - b.size - 1) a.size).toList = a.toList[a.size - b.size - 1] :: (a.extract (a.size - b.size) a.size).toList := by
      rw [extract_toList, extract_toList, List.drop_eq_getElem_cons hlt, show a.size - b.size - 1 + 1 = a.size - b.size by omega, show a.size - (a.size - b.size - 1) = (a.size - (a.size - b.size)) + 1 by omega, List.take_succ_cons]
    have hap : ((⟨#[46]⟩ : ByteArray) ++ b).toList = 46 :: b.toList := by rw [ByteArray.toList_eq, ByteArray.toList_eq]; simp [ByteArray.data_append]
    rw [n1, n2, key, hap, hbt]
    by_cases h6 : (a.extract (a.size - b.size) a.size).toList = b.toList
    · rw [if_pos h6, h6]
      refine ⟨_, rfl, ?_⟩
      congr 1
      generalize a.toList[a.size - b.size - 1] = c
      rw [Bool.eq_iff_iff]
      simp only [beq_iff_eq, List.cons.injEq, and_true]
      constructor
      · rintro rfl; rfl
      · intro h
        apply UInt8.toNat_inj.1
        have : (c.toNat : Int) = 46 := h
        have h' : c.toNat = 46 := by omega
        rw [h']; rfl
    · rw [if_neg h6]
      refine ⟨_, rfl, ?_⟩
      congr 1
      simp only [beq_eq_false_iff_ne, ne_eq, List.cons.injEq, not_and]
      exact fun _ => h6
  · rw [if_neg h5, if_neg (show ¬ (a.size : Int) ≥ (1 + b.size : Nat) by omega)]
    exact ⟨_, rfl, rfl⟩

theorem under_both (a b : ByteArray) (ha : a.size ≤ 2097152) (hb : b.size ≤ 2097152) : spec_Under.f a b = some (al_under a b) ∧ impl_Under.f a b = some (al_under a b) := by
  obtain ⟨r, e1, e2⟩ := under_pair a b ha hb
  have e : al_under a b = r := by unfold al_under; rw [e2]; rfl
  rw [e]
  exact ⟨e1, e2⟩
theorem al_good_of (a : ByteArray) (ha : a.size ≤ 2097152) (l : List ByteArray) (hs : ∀ s ∈ l, s.size ≤ 2097152) : al_good a l = true := by
  unfold al_good
  rw [List.all_eq_true]
  intro x hx
  rw [(under_both a x ha (hs x hx)).2]
  rfl
def allowV (a : ByteArray) (l1 l2 : List ByteArray) : Bool := (l1.isEmpty || l1.any (al_under a)) && !l2.any (al_under a)
theorem impl_allow (a : ByteArray) (l1 l2 : List ByteArray) (ha : a.size ≤ 2097152) (h1 : ∀ s ∈ l1, s.size ≤ 2097152) (h2 : ∀ s ∈ l2, s.size ≤ 2097152) : impl_Allowed.f a l1 l2 = some (allowV a l1 l2) := by
  unfold impl_Allowed.f allowV
  rw [if_pos (al_good_of a ha l1 h1), if_pos (al_good_of a ha l2 h2)]

theorem ok_loop (l : List Int) (hl : l.length ≤ 1048576) : ∀ (d i : Nat), i + d = l.length → ∃ r, Ev (fun k => spec_PoliciesOk.l0 k l (i : Int)) r ∧ Ev (fun k => impl_PoliciesOk.l0 k l l (l.length : Int) (i : Int)) r := by
  intro d
  induction d with
  | zero =>
    intro i hi
    exact ⟨_, Ev.step (fun k => by rw [spec_PoliciesOk.l0]) (ev_neg (by omega) (Ev.now _)), Ev.step (fun k => by rw [impl_PoliciesOk.l0]) (ev_neg (by omega) (Ev.now _))⟩
  | succ d ih =>
    intro i hi
    obtain ⟨r, h1, h2⟩ := ih (i + 1) (by omega)
    have e : wrap64 ((i : Int) + 1) = ((i + 1 : Nat) : Int) := by rw [w64 (by omega) (by omega)]; omega
    have e' : wrap64 ((i : Int) - 1) = (i : Int) - 1 := w64 (by omega) (by omega)
    obtain ⟨b, hb1, hb2⟩ : ∃ b, spec_l01In.f (rd l i) 0 99 = some b ∧ impl_within.f (rd l i) 0 99 = some b := by
      unfold spec_l01In.f impl_within.f
      split
      · exact ⟨_, rfl, rfl⟩
      · exact ⟨_, rfl, rfl⟩
    suffices h : ∃ q, Ev (fun k => if b = true then (if (i : Int) > 0 then (if 0 ≤ (wrap64 ((i : Int) - 1)) then (if (wrap64 ((i : Int) - 1)) < (l.length : Int) then (if (rd l (wrap64 ((i : Int) - 1))) ≥ (rd l i) then (some false) else (spec_PoliciesOk.l0 k l (wrap64 ((i : Int) + 1)))) else (none)) else (none)) else (spec_PoliciesOk.l0 k l (wrap64 ((i : Int) + 1)))) else (some false)) q ∧ Ev (fun k => if b = true then (if (i : Int) > 0 then (if 0 ≤ (wrap64 ((i : Int) - 1)) then (if (wrap64 ((i : Int) - 1)) < (l.length : Int) then (if (rd l (wrap64 ((i : Int) - 1))) ≥ (rd l i) then (some false) else (impl_PoliciesOk.l0 k l l (l.length : Int) (wrap64 ((i : Int) + 1)))) else (none)) else (none)) else (impl_PoliciesOk.l0 k l l (l.length : Int) (wrap64 ((i : Int) + 1)))) else (some false)) q by
      obtain ⟨q, g1, g2⟩ := h
      refine ⟨q, Ev.step (fun k => by rw [spec_PoliciesOk.l0]) (ev_pos (by omega) (ev_pos (by omega) ?_)), Ev.step (fun k => by rw [impl_PoliciesOk.l0]) (ev_pos (by omega) (ev_pos (by omega) (ev_pos (by omega) ?_)))⟩
      · rw [hb1]; exact g1
      · rw [hb2]; exact g2
    rw [e, e']
    cases b
    · exact ⟨_, ev_neg (by simp) (Ev.now _), ev_neg (by simp) (Ev.now _)⟩
    · by_cases g0 : (i : Int) > 0
      · by_cases g1 : rd l ((i : Int) - 1) ≥ rd l i
        · exact ⟨_, ev_pos rfl (ev_pos g0 (ev_pos (by omega) (ev_pos (by omega) (ev_pos g1 (Ev.now _))))), ev_pos rfl (ev_pos g0 (ev_pos (by omega) (ev_pos (by omega) (ev_pos g1 (Ev.now _)))))⟩
        · exact ⟨_, ev_pos rfl (ev_pos g0 (ev_pos (by omega) (ev_pos (by omega) (ev_neg g1 h1)))), ev_pos rfl (ev_pos g0 (ev_pos (by omega) (ev_pos (by omega) (ev_neg g1 h2))))⟩
      · exact ⟨_, ev_pos rfl (ev_neg g0 h1), ev_pos rfl (ev_neg g0 h2)⟩

def pols : List (List Int) := [[0], [1, 2], [2], [0, 5], []]
theorem pol_ok (l : List Int) (i h : Int) (hl : l.length ≤ 1048576) (hi : In l i) : ∃ p i' h', spec_l08Policies.f l i h = some (p, i', h') ∧ In l i' ∧ p ∈ pols := by
  unfold spec_l08Policies.f
  obtain ⟨b, i', h', e, hi', _, hb⟩ := below_ok l i h 5 hl hi
  rw [e, Option.bind_some]
  show ∃ p i'' h'', (if b = 0 then some ([0], i', h') else if b = 1 then some ([1, 2], i', h') else if b = 2 then some ([2], i', h') else if b = 3 then some ([0, 5], i', h') else some ([], i', h')) = some (p, i'', h'') ∧ In l i'' ∧ p ∈ pols
  by_cases h0 : b = 0
  · rw [if_pos h0]; exact ⟨_, _, _, rfl, hi', by decide⟩
  rw [if_neg h0]
  by_cases h1 : b = 1
  · rw [if_pos h1]; exact ⟨_, _, _, rfl, hi', by decide⟩
  rw [if_neg h1]
  by_cases h2 : b = 2
  · rw [if_pos h2]; exact ⟨_, _, _, rfl, hi', by decide⟩
  rw [if_neg h2]
  by_cases h3 : b = 3
  · rw [if_pos h3]; exact ⟨_, _, _, rfl, hi', by decide⟩
  rw [if_neg h3]; exact ⟨_, _, _, rfl, hi', by decide⟩

/-! Who is under whom. -/
def underP (a b : ByteArray) : Prop := b.toList = [] ∨ a.toList = b.toList ∨ (46 :: b.toList) <:+ a.toList
theorem under_iff (a b : ByteArray) (ha : a.size ≤ 1000) (hb : b.size ≤ 1000) : al_under a b = true ↔ underP a b := by
  have h := (under_both a b (by omega) (by omega)).2
  unfold underP
  unfold impl_Under.f strings_HasSuffix.f stringslite_HasSuffix.f at h
  by_cases h3 : b.toList = []
  · rw [if_pos h3] at h
    rw [← Option.some.inj h]
    exact ⟨fun _ => Or.inl h3, fun _ => rfl⟩
  rw [if_neg h3] at h
  by_cases h4 : a.toList = b.toList
  · rw [if_pos h4] at h
    rw [← Option.some.inj h]
    exact ⟨fun _ => Or.inr (Or.inl h4), fun _ => rfl⟩
  rw [if_neg h4, if_pos (show 1 + b.size ≤ 9223372036854775807 by omega)] at h
  have hsz : ((⟨#[46]⟩ : ByteArray) ++ b).size = 1 + b.size := by simp [ByteArray.size_append]; rfl
  have hap : ((⟨#[46]⟩ : ByteArray) ++ b).toList = 46 :: b.toList := by rw [ByteArray.toList_eq, ByteArray.toList_eq]; simp [ByteArray.data_append]
  rw [hsz, w64 (n := (a.size : Int) - ((1 + b.size : Nat) : Int)) (by omega) (by omega)] at h
  have hsuf : (46 :: b.toList) <:+ a.toList ↔ 46 :: b.toList = a.toList.drop (a.size - (1 + b.size)) := by
    rw [List.suffix_iff_eq_drop, List.length_cons, toList_size, toList_size, Nat.add_comm b.size 1]
  by_cases h5 : (a.size : Int) ≥ ((1 + b.size : Nat) : Int)
  · rw [if_pos h5, if_pos (show (0 : Int) ≤ (a.size : Int) - (1 + b.size : Nat) by omega), if_pos (show (a.size : Int) - (1 + b.size : Nat) ≤ a.size by omega)] at h
    simp only [Option.bind_some] at h
    have n2 : ((a.size : Int) - (1 + b.size : Nat)).toNat = a.size - (1 + b.size) := by omega
    rw [n2, extract_toList, hap, List.take_of_length_le (by rw [List.length_drop, toList_size]; omega)] at h
    rw [← Option.some.inj h, beq_iff_eq, hsuf]
    constructor
    · exact fun e => Or.inr (Or.inr e.symm)
    · rintro (e | e | e)
      · exact absurd e h3
      · exact absurd e h4
      · exact e.symm
  · rw [if_neg h5] at h
    simp only [Option.bind_some] at h
    rw [← Option.some.inj h]
    constructor
    · exact fun e => absurd e Bool.false_ne_true
    · rintro (e | e | e)
      · exact absurd e h3
      · exact absurd e h4
      · exfalso
        have := e.length_le
        rw [List.length_cons, toList_size, toList_size] at this
        omega
theorem under_nil (a : ByteArray) (ha : a.size ≤ 1000) : al_under a ⟨#[]⟩ = true := (under_iff a ⟨#[]⟩ ha (by decide)).2 (Or.inl (by rw [ByteArray.toList_eq]))
theorem under_self (a : ByteArray) (ha : a.size ≤ 1000) : al_under a a = true := (under_iff a a ha ha).2 (Or.inr (Or.inl rfl))
theorem two_list (x : UInt8) (a : ByteArray) : ((⟨#[x, 46]⟩ : ByteArray) ++ a).toList = x :: 46 :: a.toList := by rw [ByteArray.toList_eq, ByteArray.toList_eq]; simp [ByteArray.data_append]
theorem two_size (x : UInt8) (a : ByteArray) : ((⟨#[x, 46]⟩ : ByteArray) ++ a).size = 2 + a.size := by simp [ByteArray.size_append]; rfl
theorem under_pre (x : UInt8) (a : ByteArray) (ha : a.size ≤ 900) : al_under ((⟨#[x, 46]⟩ : ByteArray) ++ a) a = true := by
  refine (under_iff _ _ (by rw [two_size]; omega) (by omega)).2 (Or.inr (Or.inr ?_))
  rw [two_list]
  exact ⟨[x], rfl⟩
theorem under_up (x : UInt8) (a b : ByteArray) (ha : a.size ≤ 900) (hb : b.size ≤ 900) (h : al_under a b = true) : al_under ((⟨#[x, 46]⟩ : ByteArray) ++ a) b = true := by
  refine (under_iff _ _ (by rw [two_size]; omega) (by omega)).2 ?_
  rcases (under_iff a b (by omega) (by omega)).1 h with e | e | ⟨t, e⟩
  · exact Or.inl e
  · refine Or.inr (Or.inr ?_)
    rw [two_list, e]
    exact ⟨[x], rfl⟩
  · refine Or.inr (Or.inr ?_)
    rw [two_list, ← e]
    exact ⟨x :: 46 :: t, by simp⟩
/-! What is drawn. -/
def Short (s : ByteArray) : Prop := s.size ≤ 100
theorem pick_ok (l : List Int) (i h : Int) (ss : List ByteArray) (hl : l.length ≤ 1048576) (hi : In l i) (hn : 0 < ss.length) (hs : ∀ s ∈ ss, Short s) : ∃ s i' h', spec_l01Pick.f l i h ss = some (s, i', h') ∧ In l i' ∧ Short s := by
  unfold spec_l01Pick.f
  obtain ⟨b, i', h', e, hi', _, hb⟩ := below_ok l i h (ss.length : Int) hl hi
  obtain ⟨b0, b1⟩ := hb (by omega)
  rw [e, Option.bind_some]
  show ∃ s i'' h'', (if 0 ≤ b then (if b < (ss.length : Int) then some (rdOf ByteArray.empty ss b, i', h') else none) else none) = some (s, i'', h'') ∧ In l i'' ∧ Short s
  rw [if_pos b0, if_pos b1]
  refine ⟨_, _, _, rfl, hi', ?_⟩
  have e2 : rdOf ByteArray.empty ss b = ss[b.toNat]'(by omega) := by
    have := rdS ss b.toNat (by omega)
    rwa [Int.toNat_of_nonneg b0] at this
  rw [e2]
  exact hs _ (List.getElem_mem _)
theorem name_ok (l : List Int) (i h : Int) (hl : l.length ≤ 1048576) (hi : In l i) : ∃ s i' h', spec_l08Name.f l i h = some (s, i', h') ∧ In l i' ∧ Short s := by
  unfold spec_l08Name.f
  obtain ⟨s, i', h', e, hi', hs⟩ := pick_ok l i h [(⟨#[114, 111, 111, 116]⟩ : ByteArray), (⟨#[99, 97, 46, 111, 114, 103]⟩ : ByteArray), (⟨#[115, 117, 98, 46, 99, 97, 46, 111, 114, 103]⟩ : ByteArray), (⟨#[108, 101, 97, 102, 46, 115, 117, 98, 46, 99, 97, 46, 111, 114, 103]⟩ : ByteArray), (⟨#[111, 114, 103]⟩ : ByteArray), (⟨#[111, 116, 104, 101, 114, 46, 99, 111, 109]⟩ : ByteArray), (⟨#[108, 101, 97, 102, 46, 99, 111, 109]⟩ : ByteArray)] hl hi (by decide) (by unfold Short; decide)
  rw [e]
  exact ⟨s, i', h', rfl, hi', hs⟩
theorem list_ok (l : List Int) (i h : Int) (hl : l.length ≤ 1048576) (hi : In l i) : ∃ ns i' h', spec_l08Names.f l i h = some (ns, i', h') ∧ In l i' ∧ ns.length ≤ 2 ∧ ∀ s ∈ ns, Short s := by
  unfold spec_l08Names.f
  obtain ⟨b, i', h', e, hi', _, _⟩ := below_ok l i h 5 hl hi
  rw [e, Option.bind_some]
  show ∃ ns i'' h'', (if b = 0 then some ([(⟨#[111, 114, 103]⟩ : ByteArray)], i', h') else if b = 1 then some ([(⟨#[99, 97, 46, 111, 114, 103]⟩ : ByteArray), (⟨#[99, 111, 109]⟩ : ByteArray)], i', h') else if b = 2 then some ([(⟨#[111, 116, 104, 101, 114, 46, 99, 111, 109]⟩ : ByteArray)], i', h') else some ([], i', h')) = some (ns, i'', h'') ∧ In l i'' ∧ ns.length ≤ 2 ∧ ∀ s ∈ ns, Short s
  by_cases h0 : b = 0
  · rw [if_pos h0]; exact ⟨_, _, _, rfl, hi', by decide, by unfold Short; decide⟩
  rw [if_neg h0]
  by_cases h1 : b = 1
  · rw [if_pos h1]; exact ⟨_, _, _, rfl, hi', by decide, by unfold Short; decide⟩
  rw [if_neg h1]
  by_cases h2 : b = 2
  · rw [if_pos h2]; exact ⟨_, _, _, rfl, hi', by decide, by unfold Short; decide⟩
  rw [if_neg h2]; exact ⟨_, _, _, rfl, hi', by decide, fun s hs => by cases hs⟩
theorem draw_under (l : List Int) (hl : l.length ≤ 1048576) : ∃ n t, Short n ∧ Short t ∧ Ev (fun k => spec_DrawUnder.f k l) (n, t) := by
  simp only [spec_DrawUnder.f]
  obtain ⟨h0, e0⟩ := new_ok l hl
  obtain ⟨t, i1, h1, e1, hi1, ht⟩ := pick_ok l 0 h0 [(⟨#[]⟩ : ByteArray), (⟨#[111, 114, 103]⟩ : ByteArray), (⟨#[99, 97, 46, 111, 114, 103]⟩ : ByteArray), (⟨#[97, 46, 111, 114, 103]⟩ : ByteArray), (⟨#[99, 111, 109]⟩ : ByteArray), (⟨#[114, 111, 111, 116]⟩ : ByteArray)] hl (in_zero l) (by decide) (by unfold Short; decide)
  obtain ⟨n, i2, h2, e2, hi2, hn⟩ := name_ok l i1 h1 hl hi1
  refine ⟨n, t, hn, ht, Ev.bind e0 ?_⟩
  simp only [e1, Option.bind_some, e2]
  exact Ev.now _
theorem draw_allowed (l : List Int) (hl : l.length ≤ 1048576) : ∃ n p d, Short n ∧ (p.length ≤ 2 ∧ ∀ s ∈ p, Short s) ∧ (d.length ≤ 2 ∧ ∀ s ∈ d, Short s) ∧ Ev (fun k => spec_DrawAllowed.f k l) (n, p, d) := by
  simp only [spec_DrawAllowed.f]
  obtain ⟨h0, e0⟩ := new_ok l hl
  obtain ⟨n, i1, h1, e1, hi1, hn⟩ := name_ok l 0 h0 hl (in_zero l)
  obtain ⟨p, i2, h2, e2, hi2, hp⟩ := list_ok l i1 h1 hl hi1
  obtain ⟨d, i3, h3, e3, hi3, hd⟩ := list_ok l i2 h2 hl hi2
  refine ⟨n, p, d, hn, hp, hd, Ev.bind e0 ?_⟩
  simp only [e1, Option.bind_some, e2, e3]
  exact Ev.now _
theorem draw_name (l : List Int) (hl : l.length ≤ 1048576) : ∃ n, Short n ∧ Ev (fun k => spec_DrawNameOk.f k l) n := by
  simp only [spec_DrawNameOk.f]
  obtain ⟨h0, e0⟩ := new_ok l hl
  obtain ⟨t, i1, h1, e1, hi1, ht⟩ := pick_ok l 0 h0 [(⟨#[]⟩ : ByteArray), (⟨#[97]⟩ : ByteArray), (⟨#[97, 46, 98]⟩ : ByteArray), (⟨#[46, 97]⟩ : ByteArray), (⟨#[97, 46]⟩ : ByteArray), (⟨#[97, 46, 46, 98]⟩ : ByteArray), (⟨#[65]⟩ : ByteArray), (⟨#[114, 111, 111, 116]⟩ : ByteArray), (⟨#[97, 98, 99, 100, 101, 102, 103, 104, 105, 106, 46, 97, 98, 99, 100, 101, 102, 103, 104, 105]⟩ : ByteArray), (⟨#[97, 98, 99, 100, 101, 102, 103, 104, 105, 106, 46, 97, 98, 99, 100, 101, 102, 103, 104, 105, 106]⟩ : ByteArray)] hl (in_zero l) (by decide) (by unfold Short; decide)
  refine ⟨t, ht, Ev.bind e0 ?_⟩
  simp only [e1, Option.bind_some]
  exact Ev.now _
theorem draw_names (l : List Int) (hl : l.length ≤ 1048576) : ∃ ns : List ByteArray, ns.length ≤ 3 ∧ (∀ s ∈ ns, Short s) ∧ Ev (fun k => spec_DrawNamesOk.f k l) ns := by
  simp only [spec_DrawNamesOk.f, spec_l01Once.f]
  obtain ⟨h0, e0⟩ := new_ok l hl
  obtain ⟨b, i1, h1, e1, hi1, _, _⟩ := below_ok l 0 h0 3 hl (in_zero l)
  obtain ⟨p, i2, h2, e2, hi2, hp, hps⟩ := list_ok l i1 h1 hl hi1
  obtain ⟨t, i3, h3, e3, hi3, ht⟩ := pick_ok l i2 h2 [(⟨#[122, 122]⟩ : ByteArray), (⟨#[65]⟩ : ByteArray), (⟨#[122, 122, 122, 46, 111, 114, 103]⟩ : ByteArray)] hl hi2 (by decide) (by unfold Short; decide)
  by_cases hb : (b == 0) = true
  · refine ⟨[(⟨#[98]⟩ : ByteArray), (⟨#[97]⟩ : ByteArray)], by decide, by unfold Short; decide, Ev.bind e0 ?_⟩
    simp only [e1, Option.bind_some]
    exact ev_pos hb (Ev.now _)
  · refine ⟨p ++ [t], by rw [List.length_append, List.length_singleton]; omega, fun s hs => ?_, Ev.bind e0 ?_⟩
    · rcases List.mem_append.1 hs with h | h
      · exact hps s h
      · have : s = t := by simpa using h
        rw [this]
        exact ht
    · simp only [e1, Option.bind_some, e2, e3, List.nil_append]
      refine ev_neg hb (ev_pos (by simp; omega) ?_)
      exact ev_pos (by omega) (Ev.now _)
theorem draw_pols (l : List Int) (hl : l.length ≤ 1048576) : ∃ ns : List Int, ns.length ≤ 3 ∧ Ev (fun k => spec_DrawPoliciesOk.f k l) ns := by
  simp only [spec_DrawPoliciesOk.f, spec_l01PickInt.f]
  obtain ⟨h0, e0⟩ := new_ok l hl
  obtain ⟨p, i1, h1, e1, hi1, hp⟩ := pol_ok l 0 h0 hl (in_zero l)
  have lp : p.length ≤ 2 := (show ∀ q ∈ pols, q.length ≤ 2 by decide) p hp
  obtain ⟨b, i2, h2, e2, hi2, _, hb⟩ := below_ok l i1 h1 5 hl hi1
  obtain ⟨b0, b1⟩ := hb (by omega)
  refine ⟨p ++ [rd [7, 99, 100, 0, -1] b], by rw [List.length_append, List.length_singleton]; omega, Ev.bind e0 ?_⟩
  simp only [e1, Option.bind_some, List.nil_append, List.length_nil, List.length_cons]
  refine ev_pos (by omega) ?_
  have e2' : spec_l01Below.f l i1 h1 ((0 + 1 + 1 + 1 + 1 + 1 : Nat) : Int) = some (b, i2, h2) := e2
  rw [e2']
  simp only [Option.bind_some]
  rw [if_pos b0, if_pos (show b < ((0 + 1 + 1 + 1 + 1 + 1 : Nat) : Int) by omega)]
  simp only [Option.bind_some]
  exact ev_pos (by omega) (Ev.now _)
theorem FnNames : laws_FnNames.Pure := by
  intro l _ _ _
  refine Ev.rounds (g := fun k => laws_FnNames.f k l) ?_
  simp only [laws_FnNames.f, laws_big.f]
  refine Ev.bind (g := fun _ => some (decide ((l.length : Int) > 1048576))) (Ev.now _) ?_
  by_cases hb : (l.length : Int) > 1048576
  · exact ev_pos (decide_eq_true hb) (Ev.now _)
  refine ev_neg (by simpa using hb) ?_
  have hl : l.length ≤ 1048576 := by omega
  obtain ⟨n, t, hn, ht, eu⟩ := draw_under l hl
  obtain ⟨x, p, d, hx, ⟨lp, hp⟩, ⟨ld, hd⟩, ea⟩ := draw_allowed l hl
  obtain ⟨a, ha, en⟩ := draw_name l hl
  obtain ⟨bs, lb, hbs, ens⟩ := draw_names l hl
  obtain ⟨c, lc, ep⟩ := draw_pols l hl
  unfold Short at hn ht hx hp hd ha hbs
  refine Ev.bind eu (Ev.bind ea ?_)
  have un : ∀ u v : ByteArray, u.size ≤ 1000 → v.size ≤ 1000 → Ev (fun _ : Nat => impl_Under.f u v) (al_under u v) := fun u v hu hv => by rw [(under_both u v (by omega) (by omega)).2]; exact Ev.now _
  have us : ∀ u v : ByteArray, u.size ≤ 1000 → v.size ≤ 1000 → Ev (fun _ : Nat => spec_Under.f u v) (al_under u v) := fun u v hu hv => by rw [(under_both u v (by omega) (by omega)).1]; exact Ev.now _
  have hal : Ev (fun _ : Nat => impl_Allowed.f x p d) (allowV x p d) := by rw [impl_allow x p d (by omega) (fun s hs => by have := hp s hs; omega) (fun s hs => by have := hd s hs; omega)]; exact Ev.now _
  obtain ⟨q, q1, q2⟩ := names_pair bs (by omega) (fun s hs => by have := hbs s hs; omega)
  obtain ⟨r, r1, r2⟩ := ok_loop c (by omega) c.length 0 (by omega)
  have n1 := impl_name a (by omega)
  have n2 := spec_name a (by omega)
  have last : ∀ (b8 b9 : Bool), allowV x p d = (b8 && !b9) → Ev (fun k => laws_FnNames.l1 k l n t x p d b8 b9 (d.length : Int)) true := by
    intro b8 b9 hv
    refine Ev.step (fun k => by rw [laws_FnNames.l1]) (ev_neg (by omega) ?_)
    refine Ev.bind en (Ev.bind ens (Ev.bind ep (Ev.bind (un n ⟨#[]⟩ (by omega) (by decide)) ?_)))
    rw [under_nil n (by omega)]
    refine ev_pos rfl (Ev.bind (un n n (by omega) (by omega)) ?_)
    rw [under_self n (by omega)]
    refine ev_pos rfl (ev_pos (by omega) (Ev.bind (un ((⟨#[97, 46]⟩ : ByteArray) ++ n) n (by rw [two_size]; omega) (by omega)) ?_))
    rw [under_pre 97 n (by omega)]
    refine ev_pos rfl (Ev.bind (un n t (by omega) (by omega)) (Ev.bind (us n t (by omega) (by omega)) (ev_pos (by simp) (Ev.bind (un n t (by omega) (by omega)) ?_))))
    cases hu : al_under n t with
    | true =>
      refine ev_pos rfl (Ev.bind (un ((⟨#[98, 46]⟩ : ByteArray) ++ n) t (by rw [two_size]; omega) (by omega)) ?_)
      rw [under_up 98 n t (by omega) (by omega) hu]
      refine ev_pos rfl (Ev.bind hal ?_)
      rw [hv]
      cases b8 with
      | true =>
        refine ev_pos rfl (ev_pos (by simp) (Ev.bind n1 (Ev.bind n2 (ev_pos (by simp) (Ev.bind q2 (Ev.bind q1 (ev_pos (by simp) (Ev.bind r2 (Ev.bind r1 ?_)))))))))
        rw [show (r == r) = true by simp]
        exact Ev.now _
      | false =>
        refine ev_neg Bool.false_ne_true (ev_pos (by simp) (Ev.bind n1 (Ev.bind n2 (ev_pos (by simp) (Ev.bind q2 (Ev.bind q1 (ev_pos (by simp) (Ev.bind r2 (Ev.bind r1 ?_)))))))))
        rw [show (r == r) = true by simp]
        exact Ev.now _
    | false =>
      refine ev_neg Bool.false_ne_true (Ev.bind hal ?_)
      rw [hv]
      cases b8 with
      | true =>
        refine ev_pos rfl (ev_pos (by simp) (Ev.bind n1 (Ev.bind n2 (ev_pos (by simp) (Ev.bind q2 (Ev.bind q1 (ev_pos (by simp) (Ev.bind r2 (Ev.bind r1 ?_)))))))))
        rw [show (r == r) = true by simp]
        exact Ev.now _
      | false =>
        refine ev_neg Bool.false_ne_true (ev_pos (by simp) (Ev.bind n1 (Ev.bind n2 (ev_pos (by simp) (Ev.bind q2 (Ev.bind q1 (ev_pos (by simp) (Ev.bind r2 (Ev.bind r1 ?_)))))))))
        rw [show (r == r) = true by simp]
        exact Ev.now _
  have loop1 : ∀ (m i : Nat) (b8 b9 : Bool), i + m = d.length → allowV x p d = (b8 && !(b9 || (d.drop i).any (al_under x))) → Ev (fun k => laws_FnNames.l1 k l n t x p d b8 b9 (i : Int)) true := by
    intro m
    induction m with
    | zero =>
      intro i b8 b9 hi hv
      obtain rfl : i = d.length := by omega
      rw [List.drop_eq_nil_of_le (Nat.le_refl _), List.any_nil, Bool.or_false] at hv
      exact last b8 b9 hv
    | succ m ih =>
      intro i b8 b9 hi hv
      have hlt : i < d.length := by omega
      have ei : wrap64 ((i : Int) + 1) = ((i + 1 : Nat) : Int) := by rw [w64 (by omega) (by omega)]; omega
      rw [List.drop_eq_getElem_cons hlt, List.any_cons] at hv
      refine Ev.step (fun k => by rw [laws_FnNames.l1]) (ev_pos (by omega) ?_)
      rw [ei]
      cases b9 with
      | true => exact ev_pos rfl (ih (i + 1) b8 true (by omega) (by simpa using hv))
      | false =>
        have hs := hd _ (List.getElem_mem hlt)
        refine ev_neg Bool.false_ne_true (ev_pos (Int.natCast_nonneg _) ?_)
        rw [rdS d i hlt]
        refine Ev.bind (un x d[i] (by omega) (by omega)) ?_
        exact ih (i + 1) b8 _ (by omega) (by rwa [Bool.false_or] at hv)
  have loop0 : ∀ (m i : Nat) (b8 : Bool), i + m = p.length → allowV x p d = ((b8 || (p.drop i).any (al_under x)) && !d.any (al_under x)) → Ev (fun k => laws_FnNames.l0 k l n t x p d b8 false (i : Int)) true := by
    intro m
    induction m with
    | zero =>
      intro i b8 hi hv
      obtain rfl : i = p.length := by omega
      rw [List.drop_eq_nil_of_le (Nat.le_refl _), List.any_nil, Bool.or_false] at hv
      refine Ev.step (fun k => by rw [laws_FnNames.l0]) (ev_neg (by omega) ?_)
      exact loop1 d.length 0 b8 false (by omega) (by rw [Bool.false_or, List.drop_zero]; exact hv)
    | succ m ih =>
      intro i b8 hi hv
      have hlt : i < p.length := by omega
      have ei : wrap64 ((i : Int) + 1) = ((i + 1 : Nat) : Int) := by rw [w64 (by omega) (by omega)]; omega
      rw [List.drop_eq_getElem_cons hlt, List.any_cons] at hv
      refine Ev.step (fun k => by rw [laws_FnNames.l0]) (ev_pos (by omega) ?_)
      rw [ei]
      cases b8 with
      | true => exact ev_pos rfl (ih (i + 1) true (by omega) (by simpa using hv))
      | false =>
        have hs := hp _ (List.getElem_mem hlt)
        refine ev_neg Bool.false_ne_true (ev_pos (Int.natCast_nonneg _) ?_)
        rw [rdS p i hlt]
        refine Ev.bind (un x p[i] (by omega) (by omega)) ?_
        exact ih (i + 1) _ (by omega) (by rwa [Bool.false_or] at hv)
  refine loop0 p.length 0 ((p.length : Int) == 0) (by omega) ?_
  unfold allowV
  rw [List.drop_zero]
  congr 2
  cases p with
  | nil => rfl
  | cons y p => simp; omega

end Go.Proofs.YtkhmcioeceiepaaDoor.Pure

namespace Go.Proofs.YtkhmcioeceiepaaDoor.PrintWords
open Go.ChangeShapes Go.WideShapes
/-- The words' own, under the name by which the printed row calls it. -/
theorem sized_ints {H : Type} {enc : TypeId × Value → H} {P : Program} {W : World} {base : Nat} {spare : Nat → Bool} {held : Bool} {t e : TypeId} {k : IntKind} {a : Option Addr} {len cap : Nat} {d : DataW H} {ps : List MemPlace} {ts : List TypeId} {ds : List (DataW H)} {j : Nat}
    (hsz : (DataW.weightsEach P ts ds).all (· ≤ reachBytes) = true) (ht : ts[j]? = some t) (hd : ds[j]? = some d) (hu : P.underlying t = some (.slice e)) (he : P.underlying e = some (.int k)) (hc : P.cellsOf e = 1) {B : Nat} (hB : P.bytesOf e = B)
    (h : DataW.Trod enc P W base spare held t (.slice a len cap) d ps) : len * B ≤ 140737488351232 :=
  Go.Proofs.YtkhmcioeceiepaaDoorW.PrintWords.sized_ints hsz ht hd hu he hc hB h
end Go.Proofs.YtkhmcioeceiepaaDoor.PrintWords
