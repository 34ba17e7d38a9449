/- The law FnBlocks answers true for every input: a digest is made block by block. -/
import Derived.Test.YtekplhhkbeemnaaDoorGFnBlocksx3
import Derived.Test.YtekplhhkbeemnaaDoorWSized
set_option linter.unusedVariables false
set_option linter.unusedSimpArgs false
namespace Go.Proofs.YtekplhhkbeemnaaDoor.Pure
open Go.RowKit Go.Proofs.YtekplhhkbeemnaaDoor.GFnBlocks Go.Proofs.YtekplhhkbeemnaaDoorW.PrintWords Go.Proofs.YtekplhhkbeemnaaDoorW.PrintLast

theorem w64 {n : Int} (h0 : -9223372036854775808 ≤ n) (h1 : n ≤ 9223372036854775807) : wrap64 n = n := by unfold wrap64; omega
theorem ev_pos {α : Type} {c : Prop} [Decidable c] {f g : Nat → Option α} {r : α} (h : c) (k : Ev f r) : Ev (fun n => if c then f n else g n) r := by
  simpa only [if_pos h] using k
theorem ev_neg {α : Type} {c : Prop} [Decidable c] {f g : Nat → Option α} {r : α} (h : ¬ c) (k : Ev g r) : Ev (fun n => if c then f n else g n) r := by
  simpa only [if_neg h] using k
theorem tdivN (n m : Nat) : Int.tdiv (n : Int) (m : Int) = ((n / m : Nat) : Int) := rfl
theorem tmodN (n m : Nat) : Int.tmod (n : Int) (m : Int) = ((n % m : Nat) : Int) := rfl
theorem tdiv_pos' {n m : Int} (h : 0 ≤ n) : Int.tdiv n m = n / m := Int.tdiv_eq_ediv_of_nonneg h
theorem tmod_pos' {n m : Int} (h : 0 ≤ n) : Int.tmod n m = n % m := Int.tmod_eq_emod_of_nonneg h
theorem bt_rng (s : ByteArray) (i : Int) : 0 ≤ bt s i ∧ bt s i ≤ 255 := bt_range s i
theorem bt_bytes (s : ByteArray) (i : Nat) : bt s i = (bytesOf s).getD i 0 := (rd_bytesOf s i).symm
theorem drop_bytes (s : ByteArray) (i : Nat) (h : i < s.size) : (bytesOf s).drop i = bt s i :: (bytesOf s).drop (i + 1) := by
  have h' : i < (bytesOf s).length := by rw [bytesOf_length]; exact h
  rw [List.drop_eq_getElem_cons h', bt_bytes, List.getD_eq_getElem?_getD, List.getElem?_eq_getElem h']
  rfl

theorem shaB_yes {l : List Int} (h : Sha.Eight l) (s : ByteArray) (hs : s.size = 64) : Sha.shaB l s = Sha.blkV l s Sha.KEYS :=
  if_pos ⟨h.len, hs, Sha.inR_of (fun m _ => h.get m)⟩
theorem sb_ev {l : List Int} (h : Sha.Eight l) (s : ByteArray) (hs : s.size = 64) : Ev (fun _ : Nat => impl_ShaBlock.f l s) (Sha.blkV l s Sha.KEYS) := by
  simp only [impl_ShaBlock.f]
  refine ev_pos (by rw [h.len]; decide) ?_
  rw [shaB_yes h s hs]
  exact Ev.now _
theorem outB_snoc : ∀ (l : List Int) (x : Int), Sha.outB (l ++ [x]) = Sha.outB l ++ [x / 16777216 % 256, x / 65536 % 256, x / 256 % 256, x % 256]
  | [], _ => rfl
  | y :: l, x => by simp only [List.cons_append, Sha.outB, outB_snoc l x]
theorem dig_l1 (h : List Int) (hl : h.length = 8) : ∀ (d i : Nat), i + d = 8 → Ev (fun k => impl_Digest.l1 k (Sha.outB (h.take i)) h (h.length : Int) (i : Int)) (strOfNums (Sha.outB h)) := by
  intro d
  induction d with
  | zero =>
    intro i hi
    refine Ev.step (fun k => by rw [impl_Digest.l1]) ?_
    refine ev_neg (by omega) ?_
    rw [List.take_of_length_le (by omega)]
    exact Ev.now _
  | succ d ih =>
    intro i hi
    refine Ev.step (fun k => by rw [impl_Digest.l1]) ?_
    refine ev_pos (by omega) (ev_pos (by omega) (ev_pos (by omega) ?_))
    refine Ev.bind (Ev.now _) ?_
    refine ev_pos (by have := Sha.outB_len (h.take i); rw [List.length_take] at this; simp only [List.length_cons, List.length_nil]; omega) ?_
    have hr : rd h (i : Int) = h[i] := by simp [rd, List.getD_eq_getElem?_getD, List.getElem?_eq_getElem (show i < h.length by omega)]
    rw [hr, ← outB_snoc, ← List.take_succ_eq_append_getElem, show wrap64 ((i : Int) + 1) = ((i + 1 : Nat) : Int) by rw [w64 (by omega) (by omega)]; omega]
    exact ih (i + 1) (by omega)
theorem list_size (s : ByteArray) : s.toList.length = s.size := by rw [ByteArray.toList_eq, Array.length_toList]; rfl
theorem dig_l0 (p : ByteArray) (M : Nat) (hp : p.size = 64 * M) : ∀ (d m : Nat), m + d = M → Ev (fun k => impl_Digest.l0 k (Sha.stateN p m) (p.extract (64 * m) p.size)) (strOfNums (Sha.outB (Sha.stateN p M))) := by
  intro d
  induction d with
  | zero =>
    intro m hm
    obtain rfl : m = M := by omega
    refine Ev.step (fun k => by rw [impl_Digest.l0]) ?_
    refine ev_pos (List.eq_nil_of_length_eq_zero (by rw [list_size, ByteArray.size_extract]; omega)) ?_
    have h := dig_l1 (Sha.stateN p m) (Sha.stateN_eight p m).len 8 0 rfl
    exact h
  | succ d ih =>
    intro m hm
    have hs : (p.extract (64 * m) p.size).size = p.size - 64 * m := by rw [ByteArray.size_extract]; omega
    refine Ev.step (fun k => by rw [impl_Digest.l0]) ?_
    refine ev_neg (fun h => by have := congrArg List.length h; rw [list_size, hs] at this; simp at this; omega) ?_
    refine ev_pos (by decide) (ev_pos (by rw [hs]; omega) ?_)
    have e1 : (p.extract (64 * m) p.size).extract 0 64 = p.extract (64 * m) (64 * m + 64) := by
      rw [ByteArray.extract_extract]
      congr 1
      omega
    have e2 : (p.extract (64 * m) p.size).extract 64 (p.extract (64 * m) p.size).size = p.extract (64 * (m + 1)) p.size := by
      rw [hs, ByteArray.extract_extract]
      congr 1
      omega
    rw [e1, e2]
    refine Ev.bind (sb_ev (Sha.stateN_eight p m) _ (by rw [ByteArray.size_extract]; omega)) ?_
    exact ih (m + 1) (by omega)
theorem impl_dig (t : ByteArray) (h : t.size ≤ 1099511627776) : Ev (fun k => impl_Digest.f k t) (Sha.digV t) := by
  simp only [impl_Digest.f]
  have hst : Ev (fun _ : Nat => impl_ShaStart.f) Sha.FIRST := Ev.now _
  have hpd : Ev (fun _ : Nat => impl_PadText.f t) (Sha.padV t) := by simp only [impl_PadText.f]; exact ev_pos h (Ev.now _)
  refine Ev.bind hst (Ev.bind hpd ?_)
  have hp := Sha.padV_size t
  have h0 := dig_l0 (Sha.padV t) ((Sha.padV t).size / 64) (by omega) ((Sha.padV t).size / 64) 0 (by omega)
  rw [show (Sha.padV t).extract (64 * 0) (Sha.padV t).size = Sha.padV t from ByteArray.extract_zero_size] at h0
  exact h0
theorem digV_size (t : ByteArray) : (Sha.digV t).size = 32 := by
  unfold Sha.digV
  rw [strOfNums_size, Sha.outB_len, (Sha.stateN_eight _ _).len]

theorem spec_dig (t : ByteArray) (h : t.size ≤ 1099511627776) : Ev (fun _ : Nat => spec_Digest.f t) (Sha.digV t) := by
  simp only [spec_Digest.f]; exact ev_pos h (Ev.now _)

def cutV (t : ByteArray) (a : Int) : ByteArray := if 1 ≤ a ∧ a ≤ 32 then (Sha.digV t).extract 0 a.toNat else ⟨#[]⟩
theorem impl_cut (t : ByteArray) (a : Int) (h : t.size ≤ 1099511627776) : Ev (fun k => impl_CutDigest.f k t a) (cutV t a) := by
  simp only [impl_CutDigest.f]
  have hd := digV_size t
  unfold cutV
  by_cases h1 : 1 ≤ a ∧ a ≤ 32
  · rw [if_pos h1]
    have hw : Ev (fun _ : Nat => impl_within.f a 1 32) true := by
      simp only [impl_within.f]
      refine ev_pos h1.1 ?_
      rw [decide_eq_true h1.2]
      exact Ev.now _
    exact Ev.bind hw (ev_pos rfl (Ev.bind (impl_dig t h) (ev_pos (by omega) (ev_pos (by rw [hd]; omega) (Ev.now _)))))
  · rw [if_neg h1]
    have hw : Ev (fun _ : Nat => impl_within.f a 1 32) false := by
      simp only [impl_within.f]
      by_cases h2 : 1 ≤ a
      · refine ev_pos h2 ?_
        rw [decide_eq_false (by omega)]
        exact Ev.now _
      · exact ev_neg h2 (Ev.now _)
    exact Ev.bind hw (ev_neg (by decide) (Ev.now _))

theorem toList_size (s : ByteArray) : s.toList.length = s.size := by rw [ByteArray.toList_eq, Array.length_toList]; rfl
theorem extract_toList (s : ByteArray) (i j : Nat) : (s.extract i j).toList = (s.toList.drop i).take (j - i) := by
  rw [ByteArray.toList_eq, ByteArray.toList_eq]; simp [ByteArray.data_extract, List.extract_eq_take_drop]
theorem append_toList (s t : ByteArray) : (s ++ t).toList = s.toList ++ t.toList := by
  rw [ByteArray.toList_eq, ByteArray.toList_eq, ByteArray.toList_eq]; simp [ByteArray.data_append]
theorem nums_toList (l : List Int) : (strOfNums l).toList = l.map fun n => UInt8.ofNat n.toNat := by rw [ByteArray.toList_eq, strOfNums_data]

theorem and255 (x : Int) : 0 ≤ Go.bits .and .i64 x 255 ∧ Go.bits .and .i64 x 255 ≤ 255 := by
  have h : (BitVec.ofInt 64 x &&& BitVec.ofInt 64 255).toNat ≤ 255 := by
    rw [BitVec.toNat_and]
    exact Nat.le_trans Nat.and_le_right (by decide)
  have e : Go.bits .and .i64 x 255 = IntKind.i64.wrap ((BitVec.ofInt 64 x &&& BitVec.ofInt 64 255).toNat : Int) := rfl
  rw [e, IntKind.wrap_i64]
  omega
/-- The cursor's place lies in its bytes. -/
def In (l : List Int) (i : Int) : Prop := 0 ≤ i ∧ i ≤ l.length
theorem byte_ok (l : List Int) (i h : Int) (hl : l.length ≤ 1048576) (hi : In l i) : ∃ b i' h', spec_l01Byte.f l i h = some (b, i', h') ∧ In l i' ∧ 0 ≤ b ∧ b ≤ 255 := by
  unfold spec_l01Byte.f
  obtain ⟨h0, h1⟩ := hi
  by_cases hc : i < (l.length : Int)
  · rw [if_pos hc, if_pos h0]
    have e : wrap64 (i + 1) = i + 1 := w64 (by omega) (by omega)
    exact ⟨_, _, _, rfl, by rw [e]; exact ⟨by omega, by omega⟩, (and255 _).1, (and255 _).2⟩
  · rw [if_neg hc]
    exact ⟨_, _, _, rfl, ⟨h0, h1⟩, (and255 _).1, (and255 _).2⟩
theorem below_ok (l : List Int) (i h n : Int) (hl : l.length ≤ 1048576) (hi : In l i) : ∃ b i' h', spec_l01Below.f l i h n = some (b, i', h') ∧ In l i' ∧ (n ≤ 0 → b = 0) ∧ (0 < n → 0 ≤ b ∧ b < n) := by
  unfold spec_l01Below.f
  by_cases h0 : n ≤ 0
  · rw [if_pos h0]
    exact ⟨_, _, _, rfl, hi, fun _ => rfl, fun h => by omega⟩
  rw [if_neg h0]
  by_cases h1 : n ≤ 256
  · rw [if_pos h1]
    obtain ⟨b, i', h', e, hi', hb0, hb1⟩ := byte_ok l i h hl hi
    rw [e, Option.bind_some, if_neg (by omega)]
    refine ⟨_, _, _, rfl, hi', fun h => absurd h h0, fun _ => ?_⟩
    show 0 ≤ Int.tmod b n ∧ Int.tmod b n < n
    rw [tmod_pos' hb0]
    exact ⟨Int.emod_nonneg _ (by omega), Int.emod_lt_of_pos _ (by omega)⟩
  · rw [if_neg h1]
    obtain ⟨b1, i1, h1', e1, hi1, p1, q1⟩ := byte_ok l i h hl hi
    obtain ⟨b2, i2, h2', e2, hi2, p2, q2⟩ := byte_ok l i1 h1' hl hi1
    obtain ⟨b3, i3, h3', e3, hi3, p3, q3⟩ := byte_ok l i2 h2' hl hi2
    obtain ⟨b4, i4, h4', e4, hi4, p4, q4⟩ := byte_ok l i3 h3' hl hi3
    simp only [e1, e2, e3, e4, Option.bind_some]
    rw [if_neg (by omega)]
    refine ⟨_, _, _, rfl, hi4, fun h => absurd h h0, fun _ => ?_⟩
    have w1 : wrap64 (b1 * 16777216) = b1 * 16777216 := w64 (by omega) (by omega)
    have w2 : wrap64 (b2 * 65536) = b2 * 65536 := w64 (by omega) (by omega)
    have w3 : wrap64 (b3 * 256) = b3 * 256 := w64 (by omega) (by omega)
    rw [w1, w2, w3, w64 (n := b1 * 16777216 + b2 * 65536) (by omega) (by omega), w64 (n := b1 * 16777216 + b2 * 65536 + b3 * 256) (by omega) (by omega), w64 (n := b1 * 16777216 + b2 * 65536 + b3 * 256 + b4) (by omega) (by omega), tmod_pos' (by omega)]
    exact ⟨Int.emod_nonneg _ (by omega), Int.emod_lt_of_pos _ (by omega)⟩
theorem new_loop (l : List Int) (hl : l.length ≤ 1048576) : ∀ (d i : Nat), i + d = l.length → ∀ h : Int, ∃ h', Ev (fun k => spec_l01New.l0 k l h (i : Int)) (l, 0, h') := by
  intro d
  induction d with
  | zero =>
    intro i hi h
    exact ⟨h, Ev.step (fun k => by rw [spec_l01New.l0]) (ev_neg (by omega) (Ev.now _))⟩
  | succ d ih =>
    intro i hi h
    by_cases hc : (i : Int) < 4000
    · obtain ⟨h', e⟩ := ih (i + 1) (by omega) (Go.bits .and .i64 (wrap64 ((wrap64 ((wrap64 (h * 131)) + (wrap64 (rd l i)))) + 7)) 1073741823)
      refine ⟨h', Ev.step (fun k => by rw [spec_l01New.l0]) (ev_pos (by omega) (ev_pos hc (ev_pos (by omega) ?_)))⟩
      rw [show wrap64 ((i : Int) + 1) = ((i + 1 : Nat) : Int) by rw [w64 (by omega) (by omega)]; omega]
      exact e
    · exact ⟨h, Ev.step (fun k => by rw [spec_l01New.l0]) (ev_pos (by omega) (ev_neg hc (Ev.now _)))⟩
theorem new_ok (l : List Int) (hl : l.length ≤ 1048576) : ∃ h', Ev (fun k => spec_l01New.f k l) (l, 0, h') := by
  simp only [spec_l01New.f]
  exact new_loop l hl l.length 0 (by omega) _
theorem in_zero (l : List Int) : In l 0 := ⟨by omega, by omega⟩

theorem text_loop (l : List Int) (hl : l.length ≤ 1048576) : ∀ (d : Nat) (n : Int) (acc : List Int) (j i h : Int), In l i → 0 ≤ j → n ≤ 5000 → (n - j).toNat = d → acc.length ≤ 5000 → (acc.length : Int) = j → ∃ r i' h', Ev (fun k => spec_l01Text.l0 k n acc j l i h) (r, i', h') ∧ In l i' ∧ r.size ≤ 5000 := by
  intro d
  induction d with
  | zero =>
    intro n acc j i h hi hj hn hd ha hz
    exact ⟨_, _, _, Ev.step (fun k => by rw [spec_l01Text.l0]) (ev_neg (by omega) (Ev.now _)), hi, by rw [strOfNums_size]; exact ha⟩
  | succ d ih =>
    intro n acc j i h hi hj hn hd ha hz
    obtain ⟨b, i1, h1, e1, hi1, _, _⟩ := byte_ok l i h hl hi
    have ew : wrap64 (j + 1) = j + 1 := w64 (by omega) (by omega)
    obtain ⟨r, i', h', e, hi', hr⟩ := ih n (acc ++ [b % 256]) (j + 1) i1 h1 hi1 (by omega) hn (by omega) (by rw [List.length_append]; show acc.length + 1 ≤ 5000; omega) (by rw [List.length_append]; show ((acc.length + 1 : Nat) : Int) = j + 1; omega)
    refine ⟨r, i', h', Ev.step (fun k => by rw [spec_l01Text.l0]) (ev_pos (by omega) (Ev.bind (g := fun _ => spec_l01Byte.f l i h) (by rw [e1]; exact Ev.now _) ?_)), hi', hr⟩
    rw [ew]
    have hal : acc.length < 140737488355328 := by omega
    exact ev_pos hal e
theorem text_ok (l : List Int) (hl : l.length ≤ 1048576) (i h n : Int) (hi : In l i) (hn : n ≤ 5000) : ∃ r i' h', Ev (fun k => spec_l01Text.f k l i h n) (r, i', h') ∧ In l i' ∧ r.size ≤ 5000 := by
  simp only [spec_l01Text.f]
  obtain ⟨r, i', h', e, hi', hr⟩ := text_loop l hl (n - 0).toNat n [] 0 i h hi (by omega) hn rfl (by simp) rfl
  exact ⟨r, i', h', ev_neg (by omega) (Ev.step (fun k => by rw [spec_l01Text.j0]) e), hi', hr⟩

theorem pick_in (l : List Int) (i h : Int) (p : List Int) (hl : l.length ≤ 1048576) (hi : In l i) (h0 : 0 < p.length) (hp : p.length ≤ 1000) : ∃ b i' h', spec_l01PickInt.f l i h p = some (b, i', h') ∧ In l i' ∧ b ∈ p := by
  unfold spec_l01PickInt.f
  obtain ⟨b, i1, h1, e1, hi1, _, hb⟩ := below_ok l i h (p.length : Int) hl hi
  have hb := hb (by omega)
  rw [e1, Option.bind_some, if_pos hb.1, if_pos hb.2]
  refine ⟨_, _, _, rfl, hi1, ?_⟩
  unfold rd
  rw [List.getD_eq_getElem?_getD, List.getElem?_eq_getElem (by omega)]
  exact List.getElem_mem _
theorem some_ok (l : List Int) (hl : l.length ≤ 1048576) (i h : Int) (hi : In l i) : ∃ r i' h', Ev (fun k => spec_l03Some.f k l i h) (r, i', h') ∧ In l i' ∧ r.size ≤ 5000 := by
  simp only [spec_l03Some.f]
  obtain ⟨b, i1, h1, e1, hi1, hb⟩ := pick_in l i h [0, 1, 3, 9, 54, 55, 56, 63, 64, 65, 119, 120, 200] hl hi (by decide) (by decide)
  have hb2 : b ≤ 5000 := by
    simp only [List.mem_cons, List.not_mem_nil, or_false] at hb
    omega
  obtain ⟨r, i2, h2, e2, hi2, hr⟩ := text_ok l hl i1 h1 b hi1 hb2
  exact ⟨r, i2, h2, Ev.bind (g := fun _ => spec_l01PickInt.f l i h [0, 1, 3, 9, 54, 55, 56, 63, 64, 65, 119, 120, 200]) (by rw [e1]; exact Ev.now _) (Ev.bind e2 (Ev.now _)), hi2, hr⟩
theorem textof_ok (l : List Int) (hl : l.length ≤ 1048576) : ∃ r, Ev (fun k => spec_DrawTextOf.f k l) r ∧ r.size ≤ 5000 := by
  simp only [spec_DrawTextOf.f]
  obtain ⟨h0, e0⟩ := new_ok l hl
  obtain ⟨r, i2, h2, e2, _, hr⟩ := some_ok l hl 0 h0 (in_zero l)
  exact ⟨r, Ev.bind e0 (Ev.bind e2 (Ev.now _)), hr⟩

theorem sameints_loop (l : List Int) (hl : l.length ≤ 1048576) : ∀ (d i : Nat), i + d = l.length → Ev (fun k => laws_sameInts.l0 k l l (i : Int)) true := by
  intro d
  induction d with
  | zero =>
    intro i hi
    refine Ev.step (fun k => by rw [laws_sameInts.l0]) ?_
    exact ev_neg (by omega) (Ev.now _)
  | succ d ih =>
    intro i hi
    refine Ev.step (fun k => by rw [laws_sameInts.l0]) ?_
    refine ev_pos (by omega) (ev_pos (by omega) (ev_pos (by omega) (ev_pos rfl ?_)))
    rw [show wrap64 ((i : Int) + 1) = ((i + 1 : Nat) : Int) by rw [w64 (by omega) (by omega)]; omega]
    exact ih (i + 1) (by omega)
theorem sameints (l : List Int) (hl : l.length ≤ 1048576) : Ev (fun k => laws_sameInts.f k l l) true := by
  simp only [laws_sameInts.f]
  refine ev_pos trivial ?_
  exact sameints_loop l hl l.length 0 (by omega)

theorem text_len (l : List Int) (hl : l.length ≤ 1048576) : ∀ (d : Nat) (n : Int) (acc : List Int) (j i h : Int), In l i → 0 ≤ j → j ≤ n → n ≤ 5000 → (n - j).toNat = d → (acc.length : Int) = j → ∃ r i' h', Ev (fun k => spec_l01Text.l0 k n acc j l i h) (r, i', h') ∧ In l i' ∧ (r.size : Int) = n := by
  intro d
  induction d with
  | zero =>
    intro n acc j i h hi hj hjn hn hd hz
    exact ⟨_, _, _, Ev.step (fun k => by rw [spec_l01Text.l0]) (ev_neg (by omega) (Ev.now _)), hi, by rw [strOfNums_size]; omega⟩
  | succ d ih =>
    intro n acc j i h hi hj hjn hn hd hz
    obtain ⟨b, i1, h1, e1, hi1, _, _⟩ := byte_ok l i h hl hi
    have ew : wrap64 (j + 1) = j + 1 := w64 (by omega) (by omega)
    obtain ⟨r, i', h', e, hi', hr⟩ := ih n (acc ++ [b % 256]) (j + 1) i1 h1 hi1 (by omega) (by omega) hn (by omega) (by rw [List.length_append]; show ((acc.length + 1 : Nat) : Int) = j + 1; omega)
    refine ⟨r, i', h', Ev.step (fun k => by rw [spec_l01Text.l0]) (ev_pos (by omega) (Ev.bind (g := fun _ => spec_l01Byte.f l i h) (by rw [e1]; exact Ev.now _) ?_)), hi', hr⟩
    rw [ew]
    have hal : acc.length < 140737488355328 := by omega
    exact ev_pos hal e
theorem text64 (l : List Int) (hl : l.length ≤ 1048576) (i h : Int) (hi : In l i) : ∃ r i' h', Ev (fun k => spec_l01Text.f k l i h 64) (r, i', h') ∧ In l i' ∧ r.size = 64 := by
  simp only [spec_l01Text.f]
  obtain ⟨r, i', h', e, hi', hr⟩ := text_len l hl 64 64 [] 0 i h hi (by omega) (by omega) (by omega) rfl rfl
  exact ⟨r, i', h', ev_neg (by omega) (Ev.step (fun k => by rw [spec_l01Text.j0]) e), hi', by omega⟩
theorem sb_loop (l : List Int) (hl : l.length ≤ 1048576) (kk : Int) (bl : ByteArray) (hb : bl.size = 64) : ∀ (d : Nat) (acc : List Int) (j i h : Int), In l i → 0 ≤ j → j ≤ 8 → (8 - j).toNat = d → (acc.length : Int) = j → ∃ a b, Ev (fun k => spec_DrawShaBlock.l0 k kk bl acc j l i h) (a, b) ∧ a.length ≤ 8 := by
  intro d
  induction d with
  | zero =>
    intro acc j i h hi hj hj2 hd hz
    have hst : Ev (fun _ : Nat => spec_ShaStart.f) sha8 := Ev.now _
    have ha : acc.length = 8 := by omega
    by_cases c0 : kk = 0
    · exact ⟨_, _, Ev.step (fun k => by rw [spec_DrawShaBlock.l0]) (ev_neg (by omega) (ev_pos c0 (ev_pos (by omega) (Ev.now _)))), by rw [List.length_drop]; omega⟩
    by_cases c1 : kk = 1
    · exact ⟨_, _, Ev.step (fun k => by rw [spec_DrawShaBlock.l0]) (ev_neg (by omega) (ev_neg c0 (ev_pos c1 (ev_pos (by omega) (Ev.now _))))), (show acc.length ≤ 8 by omega)⟩
    by_cases c2 : kk = 2
    · obtain ⟨x, i1, h1, e1, _, _⟩ := pick_in l i h [(-1), 4294967296, 9223372036854775807] hl hi (by decide) (by decide)
      have h3 : 3 < (acc.length : Int) := by omega
      refine ⟨acc.set 3 x, bl, Ev.step (fun k => by rw [spec_DrawShaBlock.l0]) (ev_neg (by omega) (ev_neg c0 (ev_neg c1 (ev_pos c2 (Ev.bind (g := fun _ => spec_l01PickInt.f l i h [(-1), 4294967296, 9223372036854775807]) (a := (x, i1, h1)) (by rw [e1]; exact Ev.now _) ?_))))), by rw [List.length_set]; omega⟩
      exact ev_pos h3 (Ev.now _)
    by_cases c3 : kk = 3
    · exact ⟨_, _, Ev.step (fun k => by rw [spec_DrawShaBlock.l0]) (ev_neg (by omega) (ev_neg c0 (ev_neg c1 (ev_neg c2 (ev_pos c3 (Ev.bind hst (Ev.now _))))))), by decide⟩
    · exact ⟨_, _, Ev.step (fun k => by rw [spec_DrawShaBlock.l0]) (ev_neg (by omega) (ev_neg c0 (ev_neg c1 (ev_neg c2 (ev_neg c3 (Ev.now _)))))), (show acc.length ≤ 8 by omega)⟩
  | succ d ih =>
    intro acc j i h hi hj hj2 hd hz
    obtain ⟨x, i1, h1, e1, hi1, _⟩ := pick_in l i h [0, 1, 4294967295, 2147483648, 12345678] hl hi (by decide) (by decide)
    have ew : wrap64 (j + 1) = j + 1 := w64 (by omega) (by omega)
    obtain ⟨a, b, e, ha⟩ := ih (acc ++ [wrap64 x]) (j + 1) i1 h1 hi1 (by omega) (by omega) (by omega) (by rw [List.length_append]; show ((acc.length + 1 : Nat) : Int) = j + 1; omega)
    refine ⟨a, b, Ev.step (fun k => by rw [spec_DrawShaBlock.l0]) (ev_pos (by omega) (Ev.bind (g := fun _ => spec_l01PickInt.f l i h [0, 1, 4294967295, 2147483648, 12345678]) (by rw [e1]; exact Ev.now _) ?_)), ha⟩
    rw [ew]
    have hal : acc.length < 17592186044416 := by omega
    exact ev_pos hal e
theorem drawsb_ok (l : List Int) (hl : l.length ≤ 1048576) : ∃ a b, Ev (fun k => spec_DrawShaBlock.f k l) (a, b) ∧ a.length ≤ 8 := by
  simp only [spec_DrawShaBlock.f]
  obtain ⟨h0, e0⟩ := new_ok l hl
  obtain ⟨b1, i1, h1, e1, hi1, _, _⟩ := below_ok l 0 h0 10 hl (in_zero l)
  obtain ⟨r, i2, h2, e2, hi2, hr⟩ := text64 l hl i1 h1 hi1
  obtain ⟨a, b, e, ha⟩ := sb_loop l hl b1 r hr 8 [] 0 i2 h2 hi2 (by omega) (by omega) (by omega) rfl
  exact ⟨a, b, Ev.bind e0 (Ev.bind (g := fun _ => spec_l01Below.f l 0 h0 10) (by rw [e1]; exact Ev.now _) (Ev.bind e2 e)), ha⟩
theorem nums_size (l : List Int) : (strOfNums l).size = l.length := strOfNums_size l
theorem nums_app (a b : List Int) : strOfNums a ++ strOfNums b = strOfNums (a ++ b) := by
  have h : (strOfNums a ++ strOfNums b).data = (strOfNums (a ++ b)).data := by
    apply Array.toList_inj.1
    rw [ByteArray.data_append, Array.toList_append, strOfNums_data, strOfNums_data, strOfNums_data, List.map_append]
  cases hx : strOfNums a ++ strOfNums b with
  | mk x =>
    cases hy : strOfNums (a ++ b) with
    | mk y => rw [hx, hy] at h; rw [show x = y from h]
theorem bytes_back (t : ByteArray) : (bytesOf t).map (fun n => UInt8.ofNat n.toNat) = t.toList := by
  unfold bytesOf
  rw [List.map_map, ByteArray.toList_eq]
  refine (List.map_congr_left (fun b _ => ?_)).trans (List.map_id _)
  show UInt8.ofNat ((b.toNat : Int)).toNat = b
  rw [Int.toNat_natCast]
  exact UInt8.ofNat_toNat
theorem pad_begins (t : ByteArray) : ((Sha.padV t).extract 0 t.size).toList = t.toList := by
  rw [extract_toList, List.drop_zero, Nat.sub_zero]
  unfold Sha.padV Sha.padL Sha.padB
  rw [nums_toList, List.append_assoc, List.map_append, bytes_back, List.take_left' (toList_size t)]
theorem sb_any (l : List Int) (s : ByteArray) (h : l.length ≤ 1048576) : Ev (fun _ : Nat => impl_ShaBlock.f l s) (Sha.shaB l s) := by
  simp only [impl_ShaBlock.f]; exact ev_pos (by omega) (Ev.now _)
theorem sb_spec (l : List Int) (s : ByteArray) (h : l.length ≤ 1048576) : Ev (fun _ : Nat => spec_ShaBlock.f l s) (Sha.shaB l s) := by
  simp only [spec_ShaBlock.f]; exact ev_pos (by omega) (Ev.now _)
theorem shaB_len (l : List Int) (s : ByteArray) : (Sha.shaB l s).length = l.length := by
  unfold Sha.shaB
  split
  · rename_i h
    rw [Sha.blkV, Sha.plusN_len]
  · rfl
theorem blocks_end (l : List Int) (hl : l.length ≤ 1048576) (t : ByteArray) (ht : t.size ≤ 5000) (h : List Int) (h8 : h.length = 8) (hd : Sha.digV t = strOfNums (Sha.outB h)) : ∀ (d i : Nat), i + d = 8 → Ev (fun k => laws_FnBlocks.l1 k l t h (strOfNums (Sha.outB (h.take i))) (i : Int)) true := by
  intro d
  induction d with
  | zero =>
    intro i hi
    refine Ev.step (fun k => by rw [laws_FnBlocks.l1]) ?_
    rw [List.take_of_length_le (by omega), ← hd]
    obtain ⟨a, b, eab, ha⟩ := drawsb_ok l hl
    have hs := shaB_len a b
    have hz := digV_size t
    have ec := impl_cut t 5 (by omega)
    unfold cutV at ec
    rw [if_pos (by decide)] at ec
    refine ev_neg (by omega) (Ev.bind eab (Ev.bind (impl_dig t (by omega)) (ev_pos rfl (Ev.bind (spec_dig t (by omega)) (ev_pos rfl (ev_pos (by omega) (Ev.bind ec (ev_pos (by decide) (ev_pos (by omega) (ev_pos rfl ?_))))))))))
    exact Ev.bind (sb_any a b (by omega)) (Ev.bind (sb_spec a b (by omega)) (Ev.bind (sameints _ (by omega)) (Ev.now _)))
  | succ d ih =>
    intro i hi
    refine Ev.step (fun k => by rw [laws_FnBlocks.l1]) ?_
    refine ev_pos (by omega) (ev_pos (by omega) (ev_pos (by omega) ?_))
    have hr : rd h (i : Int) = h[i] := by simp [rd, List.getD_eq_getElem?_getD, List.getElem?_eq_getElem (show i < h.length by omega)]
    refine Ev.bind (Ev.now _) ?_
    refine ev_pos (by rw [nums_size, nums_size, Sha.outB_len, List.length_take]; simp only [List.length_cons, List.length_nil]; omega) ?_
    rw [nums_app, hr, ← outB_snoc, ← List.take_succ_eq_append_getElem, show wrap64 ((i : Int) + 1) = ((i + 1 : Nat) : Int) by rw [w64 (by omega) (by omega)]; omega]
    exact ih (i + 1) (by omega)
theorem blocks_loop (l : List Int) (hl : l.length ≤ 1048576) (t : ByteArray) (ht : t.size ≤ 5000) (p : ByteArray) (hp : Sha.padV t = p) (M : Nat) (hM : p.size = 64 * M) : ∀ (d m : Nat), m + d = M → Ev (fun k => laws_FnBlocks.l0 k l t p (Sha.stateN p m) ((64 * m : Nat) : Int)) true := by
  have hps := Sha.padV_size t
  rw [hp] at hps
  intro d
  induction d with
  | zero =>
    intro m hm
    obtain rfl : m = M := by omega
    refine Ev.step (fun k => by rw [laws_FnBlocks.l0]) ?_
    refine ev_neg (by omega) ?_
    have hd : Sha.digV t = strOfNums (Sha.outB (Sha.stateN p m)) := by
      unfold Sha.digV
      rw [hp, hM, Nat.mul_div_cancel_left _ (by decide)]
    exact blocks_end l hl t ht (Sha.stateN p m) (Sha.stateN_eight p m).len hd 8 0 rfl
  | succ d ih =>
    intro m hm
    refine Ev.step (fun k => by rw [laws_FnBlocks.l0]) ?_
    have ew : wrap64 (((64 * m : Nat) : Int) + 64) = ((64 * (m + 1) : Nat) : Int) := by rw [w64 (by omega) (by omega)]; omega
    rw [ew, Int.toNat_natCast, Int.toNat_natCast]
    refine ev_pos (by omega) (ev_pos (by omega) (ev_pos (by omega) (ev_pos (by omega) ?_)))
    refine Ev.bind (sb_ev (Sha.stateN_eight p m) _ (by rw [ByteArray.size_extract]; omega)) ?_
    exact ih (m + 1) (by omega)
theorem FnBlocks : laws_FnBlocks.Pure := by
  intro l _ _ _
  refine Ev.rounds (g := fun k => laws_FnBlocks.f k l) ?_
  simp only [laws_FnBlocks.f, laws_big.f]
  refine Ev.bind (g := fun _ => some (decide ((l.length : Int) > 1048576))) (Ev.now _) ?_
  by_cases hb : (l.length : Int) > 1048576
  · exact ev_pos (decide_eq_true hb) (Ev.now _)
  refine ev_neg (by simpa using hb) ?_
  have hl : l.length ≤ 1048576 := by omega
  obtain ⟨t, et, ht⟩ := textof_ok l hl
  have hst : Ev (fun _ : Nat => impl_ShaStart.f) Sha.FIRST := Ev.now _
  have hpd : Ev (fun _ : Nat => impl_PadText.f t) (Sha.padV t) := by simp only [impl_PadText.f]; exact ev_pos (by omega) (Ev.now _)
  have hbg := pad_begins t
  have hps := Sha.padV_size t
  obtain ⟨p, hp⟩ : ∃ p, Sha.padV t = p := ⟨_, rfl⟩
  rw [hp] at hpd hbg hps
  have hloop := blocks_loop l hl t ht p hp (p.size / 64) (by omega) (p.size / 64) 0 (by omega)
  refine Ev.bind et (Ev.bind hpd (Ev.bind hst (ev_pos (by omega) (ev_neg (by rw [w64 (by omega) (by omega)]; omega) (ev_pos (by omega) (ev_pos (by omega) ?_))))))
  rw [Int.toNat_natCast, hbg, show (t.toList != t.toList) = false by simp]
  refine Ev.step (fun k => by rw [laws_FnBlocks.j0]) ?_
  exact ev_neg (by decide) hloop

end Go.Proofs.YtekplhhkbeemnaaDoor.Pure

namespace Go.Proofs.YtekplhhkbeemnaaDoor.PrintWords
open Go.ChangeShapes Go.WideShapes
/-- The words' own, under the name by which the printed row calls it. -/
theorem sized_ints {H : Type} {enc : TypeId × Value → H} {P : Program} {W : World} {base : Nat} {spare : Nat → Bool} {held : Bool} {t e : TypeId} {k : IntKind} {a : Option Addr} {len cap : Nat} {d : DataW H} {ps : List MemPlace} {ts : List TypeId} {ds : List (DataW H)} {j : Nat}
    (hsz : (DataW.weightsEach P ts ds).all (· ≤ reachBytes) = true) (ht : ts[j]? = some t) (hd : ds[j]? = some d) (hu : P.underlying t = some (.slice e)) (he : P.underlying e = some (.int k)) (hc : P.cellsOf e = 1) {B : Nat} (hB : P.bytesOf e = B)
    (h : DataW.Trod enc P W base spare held t (.slice a len cap) d ps) : len * B ≤ 140737488351232 :=
  Go.Proofs.YtekplhhkbeemnaaDoorW.PrintWords.sized_ints hsz ht hd hu he hc hB h
end Go.Proofs.YtekplhhkbeemnaaDoor.PrintWords
