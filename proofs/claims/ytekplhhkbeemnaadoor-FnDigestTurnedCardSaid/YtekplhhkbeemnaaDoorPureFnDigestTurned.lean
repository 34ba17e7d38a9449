/- The law FnDigestTurned answers true for every input: a digest of a text, also with one byte turned, is what the document tells, a hash is its beginning, and what is padded of unlike texts is not the same. -/
import Derived.Test.YtekplhhkbeemnaaDoorGFnDigestTurnedx2
import Derived.Test.YtekplhhkbeemnaaDoorWSized
set_option linter.unusedVariables false
set_option linter.unusedSimpArgs false
namespace Go.Proofs.YtekplhhkbeemnaaDoor.Pure
open Go.RowKit Go.Proofs.YtekplhhkbeemnaaDoor.GFnDigestTurned Go.Proofs.YtekplhhkbeemnaaDoorW.PrintWords Go.Proofs.YtekplhhkbeemnaaDoorW.PrintLast

theorem w64 {n : Int} (h0 : -9223372036854775808 ≤ n) (h1 : n ≤ 9223372036854775807) : wrap64 n = n := by unfold wrap64; omega
theorem ev_pos {α : Type} {c : Prop} [Decidable c] {f g : Nat → Option α} {r : α} (h : c) (k : Ev f r) : Ev (fun n => if c then f n else g n) r := by
  simpa only [if_pos h] using k
theorem ev_neg {α : Type} {c : Prop} [Decidable c] {f g : Nat → Option α} {r : α} (h : ¬ c) (k : Ev g r) : Ev (fun n => if c then f n else g n) r := by
  simpa only [if_neg h] using k
theorem tdivN (n m : Nat) : Int.tdiv (n : Int) (m : Int) = ((n / m : Nat) : Int) := rfl
theorem tmodN (n m : Nat) : Int.tmod (n : Int) (m : Int) = ((n % m : Nat) : Int) := rfl
theorem tdiv_pos' {n m : Int} (h : 0 ≤ n) : Int.tdiv n m = n / m := Int.tdiv_eq_ediv_of_nonneg h
theorem tmod_pos' {n m : Int} (h : 0 ≤ n) : Int.tmod n m = n % m := Int.tmod_eq_emod_of_nonneg h
theorem bt_rng (s : ByteArray) (i : Int) : 0 ≤ bt s i ∧ bt s i ≤ 255 := bt_range s i
theorem bt_bytes (s : ByteArray) (i : Nat) : bt s i = (bytesOf s).getD i 0 := (rd_bytesOf s i).symm
theorem drop_bytes (s : ByteArray) (i : Nat) (h : i < s.size) : (bytesOf s).drop i = bt s i :: (bytesOf s).drop (i + 1) := by
  have h' : i < (bytesOf s).length := by rw [bytesOf_length]; exact h
  rw [List.drop_eq_getElem_cons h', bt_bytes, List.getD_eq_getElem?_getD, List.getElem?_eq_getElem h']
  rfl

theorem shaB_yes {l : List Int} (h : Sha.Eight l) (s : ByteArray) (hs : s.size = 64) : Sha.shaB l s = Sha.blkV l s Sha.KEYS :=
  if_pos ⟨h.len, hs, Sha.inR_of (fun m _ => h.get m)⟩
theorem sb_ev {l : List Int} (h : Sha.Eight l) (s : ByteArray) (hs : s.size = 64) : Ev (fun _ : Nat => impl_ShaBlock.f l s) (Sha.blkV l s Sha.KEYS) := by
  simp only [impl_ShaBlock.f]
  refine ev_pos (by rw [h.len]; decide) ?_
  rw [shaB_yes h s hs]
  exact Ev.now _
theorem outB_snoc : ∀ (l : List Int) (x : Int), Sha.outB (l ++ [x]) = Sha.outB l ++ [x / 16777216 % 256, x / 65536 % 256, x / 256 % 256, x % 256]
  | [], _ => rfl
  | y :: l, x => by simp only [List.cons_append, Sha.outB, outB_snoc l x]
theorem dig_l1 (h : List Int) (hl : h.length = 8) : ∀ (d i : Nat), i + d = 8 → Ev (fun k => impl_Digest.l1 k (Sha.outB (h.take i)) h (h.length : Int) (i : Int)) (strOfNums (Sha.outB h)) := by
  intro d
  induction d with
  | zero =>
    intro i hi
    refine Ev.step (fun k => by rw [impl_Digest.l1]) ?_
    refine ev_neg (by omega) ?_
    rw [List.take_of_length_le (by omega)]
    exact Ev.now _
  | succ d ih =>
    intro i hi
    refine Ev.step (fun k => by rw [impl_Digest.l1]) ?_
    refine ev_pos (by omega) (ev_pos (by omega) (ev_pos (by omega) ?_))
    refine Ev.bind (Ev.now _) ?_
    refine ev_pos (by have := Sha.outB_len (h.take i); rw [List.length_take] at this; simp only [List.length_cons, List.length_nil]; omega) ?_
    have hr : rd h (i : Int) = h[i] := by simp [rd, List.getD_eq_getElem?_getD, List.getElem?_eq_getElem (show i < h.length by omega)]
    rw [hr, ← outB_snoc, ← List.take_succ_eq_append_getElem, show wrap64 ((i : Int) + 1) = ((i + 1 : Nat) : Int) by rw [w64 (by omega) (by omega)]; omega]
    exact ih (i + 1) (by omega)
theorem list_size (s : ByteArray) : s.toList.length = s.size := by rw [ByteArray.toList_eq, Array.length_toList]; rfl
theorem dig_l0 (p : ByteArray) (M : Nat) (hp : p.size = 64 * M) : ∀ (d m : Nat), m + d = M → Ev (fun k => impl_Digest.l0 k (Sha.stateN p m) (p.extract (64 * m) p.size)) (strOfNums (Sha.outB (Sha.stateN p M))) := by
  intro d
  induction d with
  | zero =>
    intro m hm
    obtain rfl : m = M := by omega
    refine Ev.step (fun k => by rw [impl_Digest.l0]) ?_
    refine ev_pos (List.eq_nil_of_length_eq_zero (by rw [list_size, ByteArray.size_extract]; omega)) ?_
    have h := dig_l1 (Sha.stateN p m) (Sha.stateN_eight p m).len 8 0 rfl
    exact h
  | succ d ih =>
    intro m hm
    have hs : (p.extract (64 * m) p.size).size = p.size - 64 * m := by rw [ByteArray.size_extract]; omega
    refine Ev.step (fun k => by rw [impl_Digest.l0]) ?_
    refine ev_neg (fun h => by have := congrArg List.length h; rw [list_size, hs] at this; simp at this; omega) ?_
    refine ev_pos (by decide) (ev_pos (by rw [hs]; omega) ?_)
    have e1 : (p.extract (64 * m) p.size).extract 0 64 = p.extract (64 * m) (64 * m + 64) := by
      rw [ByteArray.extract_extract]
      congr 1
      omega
    have e2 : (p.extract (64 * m) p.size).extract 64 (p.extract (64 * m) p.size).size = p.extract (64 * (m + 1)) p.size := by
      rw [hs, ByteArray.extract_extract]
      congr 1
      omega
    rw [e1, e2]
    refine Ev.bind (sb_ev (Sha.stateN_eight p m) _ (by rw [ByteArray.size_extract]; omega)) ?_
    exact ih (m + 1) (by omega)
theorem impl_dig (t : ByteArray) (h : t.size ≤ 1099511627776) : Ev (fun k => impl_Digest.f k t) (Sha.digV t) := by
  simp only [impl_Digest.f]
  have hst : Ev (fun _ : Nat => impl_ShaStart.f) Sha.FIRST := Ev.now _
  have hpd : Ev (fun _ : Nat => impl_PadText.f t) (Sha.padV t) := by simp only [impl_PadText.f]; exact ev_pos h (Ev.now _)
  refine Ev.bind hst (Ev.bind hpd ?_)
  have hp := Sha.padV_size t
  have h0 := dig_l0 (Sha.padV t) ((Sha.padV t).size / 64) (by omega) ((Sha.padV t).size / 64) 0 (by omega)
  rw [show (Sha.padV t).extract (64 * 0) (Sha.padV t).size = Sha.padV t from ByteArray.extract_zero_size] at h0
  exact h0
theorem digV_size (t : ByteArray) : (Sha.digV t).size = 32 := by
  unfold Sha.digV
  rw [strOfNums_size, Sha.outB_len, (Sha.stateN_eight _ _).len]

theorem spec_dig (t : ByteArray) (h : t.size ≤ 1099511627776) : Ev (fun _ : Nat => spec_Digest.f t) (Sha.digV t) := by
  simp only [spec_Digest.f]; exact ev_pos h (Ev.now _)

def cutV (t : ByteArray) (a : Int) : ByteArray := if 1 ≤ a ∧ a ≤ 32 then (Sha.digV t).extract 0 a.toNat else ⟨#[]⟩
theorem impl_cut (t : ByteArray) (a : Int) (h : t.size ≤ 1099511627776) : Ev (fun k => impl_CutDigest.f k t a) (cutV t a) := by
  simp only [impl_CutDigest.f]
  have hd := digV_size t
  unfold cutV
  by_cases h1 : 1 ≤ a ∧ a ≤ 32
  · rw [if_pos h1]
    have hw : Ev (fun _ : Nat => impl_within.f a 1 32) true := by
      simp only [impl_within.f]
      refine ev_pos h1.1 ?_
      rw [decide_eq_true h1.2]
      exact Ev.now _
    exact Ev.bind hw (ev_pos rfl (Ev.bind (impl_dig t h) (ev_pos (by omega) (ev_pos (by rw [hd]; omega) (Ev.now _)))))
  · rw [if_neg h1]
    have hw : Ev (fun _ : Nat => impl_within.f a 1 32) false := by
      simp only [impl_within.f]
      by_cases h2 : 1 ≤ a
      · refine ev_pos h2 ?_
        rw [decide_eq_false (by omega)]
        exact Ev.now _
      · exact ev_neg h2 (Ev.now _)
    exact Ev.bind hw (ev_neg (by decide) (Ev.now _))

theorem toList_size (s : ByteArray) : s.toList.length = s.size := by rw [ByteArray.toList_eq, Array.length_toList]; rfl
theorem extract_toList (s : ByteArray) (i j : Nat) : (s.extract i j).toList = (s.toList.drop i).take (j - i) := by
  rw [ByteArray.toList_eq, ByteArray.toList_eq]; simp [ByteArray.data_extract, List.extract_eq_take_drop]
theorem append_toList (s t : ByteArray) : (s ++ t).toList = s.toList ++ t.toList := by
  rw [ByteArray.toList_eq, ByteArray.toList_eq, ByteArray.toList_eq]; simp [ByteArray.data_append]
theorem nums_toList (l : List Int) : (strOfNums l).toList = l.map fun n => UInt8.ofNat n.toNat := by rw [ByteArray.toList_eq, strOfNums_data]

def bN (s : ByteArray) : List Nat := s.data.toList.map UInt8.toNat
theorem bN_len (s : ByteArray) : (bN s).length = s.size := by rw [bN, List.length_map, Array.length_toList]; rfl
theorem bN_lt (s : ByteArray) : ∀ b ∈ bN s, b < 256 := by
  intro b hb
  obtain ⟨c, _, rfl⟩ := List.mem_map.1 hb
  exact c.toNat_lt
theorem bt_bN (s : ByteArray) (i : Nat) : bt s i = ((bN s).getD i 0 : Nat) := by
  unfold bt bN
  split
  · rename_i h
    have h' : i < s.data.toList.length := by rw [Array.length_toList]; exact h
    simp [List.getD_eq_getElem?_getD, List.getElem?_eq_getElem h']
    rfl
  · rename_i h
    have h' : s.data.toList.length ≤ i := by rw [Array.length_toList]; simpa using h
    simp [List.getD_eq_getElem?_getD, List.getElem?_eq_none h']
theorem bN_toList (s : ByteArray) : s.toList = (bN s).map UInt8.ofNat := by
  rw [ByteArray.toList_eq, bN, List.map_map]
  symm
  exact (List.map_congr_left (fun b _ => by simp)).trans (List.map_id _)
theorem drop_get (l : List Nat) (i : Nat) (pre : List Nat) (c : Nat) (rest : List Nat) (h : l.drop i = pre ++ c :: rest) : l.getD (i + pre.length) 0 = c := by
  have h2 : (l.drop i)[pre.length]? = some c := by rw [h, List.getElem?_append_right (Nat.le_refl _)]; simp
  rw [List.getElem?_drop] at h2
  rw [List.getD_eq_getElem?_getD, h2]; rfl

def digV (x : Nat) : Int := if x < 10 then 48 + (x : Int) else 87 + (x : Int)

theorem fig_bt (x : Nat) (h : x < 16) : bt (⟨#[48, 49, 50, 51, 52, 53, 54, 55, 56, 57, 97, 98, 99, 100, 101, 102]⟩ : ByteArray) (x : Int) = digV x :=
  (show ∀ k : Fin 16, bt (⟨#[48, 49, 50, 51, 52, 53, 54, 55, 56, 57, 97, 98, 99, 100, 101, 102]⟩ : ByteArray) (((k : Fin 16) : Nat) : Int) = digV k by decide +kernel) ⟨x, h⟩
def hexL (l : List Nat) : List Int := l.flatMap fun b => [digV (b / 16), digV (b % 16)]
theorem hexL_len (l : List Nat) : (hexL l).length = 2 * l.length := by
  unfold hexL
  induction l with
  | nil => rfl
  | cons b l ih => simp only [List.flatMap_cons, List.length_append, ih, List.length_cons, List.length_nil]; omega
theorem impl_hex (s : ByteArray) (hs : s.size ≤ 20000) : ∀ (d i : Nat), d + i = s.size → ∀ acc : List Int, acc.length ≤ 2 * i → Ev (fun k => impl_Hex.l0 k s acc (i : Int)) (strOfNums (acc ++ hexL ((bN s).drop i)), true) := by
  intro d
  induction d with
  | zero =>
    intro i hi acc ha
    refine Ev.step (fun k => by rw [impl_Hex.l0]) ?_
    refine ev_neg (by omega) ?_
    rw [List.drop_of_length_le (by rw [bN_len]; omega)]
    simp only [hexL, List.flatMap_nil, List.append_nil]
    exact Ev.now _
  | succ d ih =>
    intro i hi acc ha
    refine Ev.step (fun k => by rw [impl_Hex.l0]) ?_
    have hl : i < (bN s).length := by rw [bN_len]; omega
    obtain ⟨b, hb, hdr⟩ : ∃ b, (bN s).getD i 0 = b ∧ (bN s).drop i = b :: (bN s).drop (i + 1) := by
      refine ⟨(bN s)[i], ?_, List.drop_eq_getElem_cons hl⟩
      rw [List.getD_eq_getElem?_getD, List.getElem?_eq_getElem hl]; rfl
    have hb2 : b < 256 := bN_lt s b (List.mem_of_mem_drop (i := i) (by rw [hdr]; simp))
    have ba : bt s (i : Int) = (b : Int) := by rw [bt_bN, hb]
    have e1 : wrap64 ((i : Int) + 1) = ((i + 1 : Nat) : Int) := by rw [w64 (by omega) (by omega)]; omega
    have e2 : Int.tdiv (b : Int) 16 % 256 = ((b / 16 : Nat) : Int) := by rw [tdiv_pos' (by omega)]; omega
    have e3 : Int.tmod (b : Int) 16 = ((b % 16 : Nat) : Int) := by rw [tmod_pos' (by omega)]; omega
    rw [ba, e1, e2, e3, fig_bt _ (by omega), fig_bt _ (by omega)]
    refine ev_pos (by omega) (ev_pos (by omega) (ev_pos (by omega) (ev_pos (by omega) (ev_pos (by omega) (ev_pos (by omega) ?_)))))
    refine Ev.bind (g := fun _ => some [digV (b / 16), digV (b % 16)]) (Ev.now _) (ev_pos (by simp; omega) ?_)
    have := ih (i + 1) (by omega) (acc ++ [digV (b / 16), digV (b % 16)]) (by simp; omega)
    rw [hdr]
    rw [List.append_assoc] at this
    exact this
def hexV2 (s : ByteArray) : ByteArray × Bool := if (s.size : Int) > 20000 then (⟨#[]⟩, false) else (strOfNums (hexL (bN s)), true)
theorem impl_hex_ev (s : ByteArray) : Ev (fun k => impl_Hex.f k s) (hexV2 s) := by
  simp only [impl_Hex.f]
  unfold hexV2
  by_cases hb : (s.size : Int) > 20000
  · rw [if_pos hb]; exact ev_pos hb (Ev.now _)
  · have := impl_hex s (by omega) s.size 0 (by omega) [] (by simp)
    refine ev_neg hb ?_
    rw [if_neg hb]
    exact this

theorem impl_dhex (t : ByteArray) (h : t.size ≤ 1099511627776) : Ev (fun k => impl_DigestHex.f k t) (strOfNums (hexL (bN (Sha.digV t)))) := by
  simp only [impl_DigestHex.f]
  have e := impl_hex_ev (Sha.digV t)
  unfold hexV2 at e
  rw [if_neg (by rw [digV_size]; decide)] at e
  exact Ev.bind (impl_dig t h) (Ev.bind e (Ev.now _))

theorem bytesOf_bN (s : ByteArray) : bytesOf s = (bN s).map fun (b : Nat) => (b : Int) := by
  unfold bytesOf bN
  rw [List.map_map]
  rfl
theorem bN_nums (L : List Nat) (h : ∀ b ∈ L, b < 256) : bN (strOfNums (L.map fun (b : Nat) => (b : Int))) = L := by
  unfold bN
  rw [strOfNums_data, List.map_map, List.map_map]
  refine (List.map_congr_left (fun b hb => ?_)).trans (List.map_id _)
  show (UInt8.ofNat ((b : Int)).toNat).toNat = b
  rw [Int.toNat_natCast, UInt8.toNat_ofNat']
  exact Nat.mod_eq_of_lt (h b hb)
theorem map_u8_inj : ∀ (l m : List Nat), (∀ b ∈ l, b < 256) → (∀ b ∈ m, b < 256) → l.map UInt8.ofNat = m.map UInt8.ofNat → l = m
  | [], [], _, _, _ => rfl
  | [], _ :: _, _, _, h => by simp at h
  | _ :: _, [], _, _, h => by simp at h
  | a :: l, b :: m, hl, hm, h => by
    rw [List.map_cons, List.map_cons, List.cons.injEq] at h
    have e := congrArg UInt8.toNat h.1
    rw [UInt8.toNat_ofNat', UInt8.toNat_ofNat', Nat.mod_eq_of_lt (hl a (by simp)), Nat.mod_eq_of_lt (hm b (by simp))] at e
    rw [e, map_u8_inj l m (fun c hc => hl c (List.mem_cons_of_mem _ hc)) (fun c hc => hm c (List.mem_cons_of_mem _ hc)) h.2]
theorem bN_toList' (s t : ByteArray) : s.toList = t.toList ↔ bN s = bN t := by
  constructor
  · intro h
    rw [bN_toList, bN_toList] at h
    exact map_u8_inj _ _ (bN_lt s) (bN_lt t) h
  · intro h
    rw [bN_toList, bN_toList, h]
theorem xor8 (a y : Nat) (ha : a < 256) (hy : y < 256) (h0 : 0 < y) : ∃ x : Nat, Go.bits .xor .u8 (a : Int) (y : Int) = (x : Int) ∧ x < 256 ∧ x ≠ a := by
  have e : Go.bits .xor .u8 (a : Int) (y : Int) = IntKind.u8.wrap ((BitVec.ofInt 8 (a : Int) ^^^ BitVec.ofInt 8 (y : Int)).toNat : Int) := rfl
  have h8 : (BitVec.ofInt 8 (a : Int) ^^^ BitVec.ofInt 8 (y : Int)).toNat = a ^^^ y := by
    rw [BitVec.toNat_xor, BitVec.toNat_ofInt, BitVec.toNat_ofInt]
    congr 1 <;> omega
  have hlt : a ^^^ y < 256 := Nat.xor_lt_two_pow (n := 8) ha hy
  refine ⟨a ^^^ y, ?_, hlt, ?_⟩
  · rw [e, h8, IntKind.wrap_u8]; omega
  · intro h
    have h2 : a ^^^ (a ^^^ y) = a ^^^ a := by rw [h]
    rw [← Nat.xor_assoc, Nat.xor_self, Nat.zero_xor] at h2
    omega
theorem turn_bN (t : ByteArray) (i y : Int) (hi : i.toNat < t.size) (hy0 : 0 ≤ y) (hy : y < 10000) : ∃ x : Nat, x < 256 ∧ x ≠ (bN t).getD i.toNat 0 ∧ bN (Sha.turnV t i y) = (bN t).set i.toNat x := by
  unfold Sha.turnV
  have hm : 0 ≤ Int.tmod y 255 ∧ Int.tmod y 255 < 255 := by rw [tmod_pos' hy0]; omega
  rw [w64 (by omega) (by omega)]
  obtain ⟨z, hz⟩ : ∃ z : Nat, (1 + Int.tmod y 255) % 256 = (z : Int) := ⟨((1 + Int.tmod y 255) % 256).toNat, by omega⟩
  have hlen : i.toNat < (bN t).length := by rw [bN_len]; exact hi
  have eb : (bytesOf t)[i.toNat]?.getD 0 = (((bN t).getD i.toNat 0 : Nat) : Int) := by
    rw [bytesOf_bN, List.getElem?_map, List.getElem?_eq_getElem hlen, List.getD_eq_getElem?_getD, List.getElem?_eq_getElem hlen]
    rfl
  have hb : (bN t).getD i.toNat 0 < 256 := bN_lt t _ (by rw [List.getD_eq_getElem?_getD, List.getElem?_eq_getElem hlen]; exact List.getElem_mem hlen)
  obtain ⟨x, ex, hx, hne⟩ := xor8 ((bN t).getD i.toNat 0) z hb (by omega) (by omega)
  refine ⟨x, hx, hne, ?_⟩
  rw [hz, eb, ex, bytesOf_bN]
  have e : ((bN t).map fun (b : Nat) => (b : Int)).set i.toNat (x : Int) = ((bN t).set i.toNat x).map fun (b : Nat) => (b : Int) := by rw [List.map_set]
  rw [e, bN_nums]
  intro b hb
  rcases List.mem_or_eq_of_mem_set hb with h | h
  · exact bN_lt t b h
  · rw [h]; exact hx

theorem bytes_back (t : ByteArray) : (bytesOf t).map (fun n => UInt8.ofNat n.toNat) = t.toList := by
  unfold bytesOf
  rw [List.map_map, ByteArray.toList_eq]
  refine (List.map_congr_left (fun b _ => ?_)).trans (List.map_id _)
  show UInt8.ofNat ((b.toNat : Int)).toNat = b
  rw [Int.toNat_natCast]
  exact UInt8.ofNat_toNat
theorem pad_begins (t : ByteArray) : ((Sha.padV t).extract 0 t.size).toList = t.toList := by
  rw [extract_toList, List.drop_zero, Nat.sub_zero]
  unfold Sha.padV Sha.padL Sha.padB
  rw [nums_toList, List.append_assoc, List.map_append, bytes_back, List.take_left' (toList_size t)]

theorem and255 (x : Int) : 0 ≤ Go.bits .and .i64 x 255 ∧ Go.bits .and .i64 x 255 ≤ 255 := by
  have h : (BitVec.ofInt 64 x &&& BitVec.ofInt 64 255).toNat ≤ 255 := by
    rw [BitVec.toNat_and]
    exact Nat.le_trans Nat.and_le_right (by decide)
  have e : Go.bits .and .i64 x 255 = IntKind.i64.wrap ((BitVec.ofInt 64 x &&& BitVec.ofInt 64 255).toNat : Int) := rfl
  rw [e, IntKind.wrap_i64]
  omega
/-- The cursor's place lies in its bytes. -/
def In (l : List Int) (i : Int) : Prop := 0 ≤ i ∧ i ≤ l.length
theorem byte_ok (l : List Int) (i h : Int) (hl : l.length ≤ 1048576) (hi : In l i) : ∃ b i' h', spec_l01Byte.f l i h = some (b, i', h') ∧ In l i' ∧ 0 ≤ b ∧ b ≤ 255 := by
  unfold spec_l01Byte.f
  obtain ⟨h0, h1⟩ := hi
  by_cases hc : i < (l.length : Int)
  · rw [if_pos hc, if_pos h0]
    have e : wrap64 (i + 1) = i + 1 := w64 (by omega) (by omega)
    exact ⟨_, _, _, rfl, by rw [e]; exact ⟨by omega, by omega⟩, (and255 _).1, (and255 _).2⟩
  · rw [if_neg hc]
    exact ⟨_, _, _, rfl, ⟨h0, h1⟩, (and255 _).1, (and255 _).2⟩
theorem below_ok (l : List Int) (i h n : Int) (hl : l.length ≤ 1048576) (hi : In l i) : ∃ b i' h', spec_l01Below.f l i h n = some (b, i', h') ∧ In l i' ∧ (n ≤ 0 → b = 0) ∧ (0 < n → 0 ≤ b ∧ b < n) := by
  unfold spec_l01Below.f
  by_cases h0 : n ≤ 0
  · rw [if_pos h0]
    exact ⟨_, _, _, rfl, hi, fun _ => rfl, fun h => by omega⟩
  rw [if_neg h0]
  by_cases h1 : n ≤ 256
  · rw [if_pos h1]
    obtain ⟨b, i', h', e, hi', hb0, hb1⟩ := byte_ok l i h hl hi
    rw [e, Option.bind_some, if_neg (by omega)]
    refine ⟨_, _, _, rfl, hi', fun h => absurd h h0, fun _ => ?_⟩
    show 0 ≤ Int.tmod b n ∧ Int.tmod b n < n
    rw [tmod_pos' hb0]
    exact ⟨Int.emod_nonneg _ (by omega), Int.emod_lt_of_pos _ (by omega)⟩
  · rw [if_neg h1]
    obtain ⟨b1, i1, h1', e1, hi1, p1, q1⟩ := byte_ok l i h hl hi
    obtain ⟨b2, i2, h2', e2, hi2, p2, q2⟩ := byte_ok l i1 h1' hl hi1
    obtain ⟨b3, i3, h3', e3, hi3, p3, q3⟩ := byte_ok l i2 h2' hl hi2
    obtain ⟨b4, i4, h4', e4, hi4, p4, q4⟩ := byte_ok l i3 h3' hl hi3
    simp only [e1, e2, e3, e4, Option.bind_some]
    rw [if_neg (by omega)]
    refine ⟨_, _, _, rfl, hi4, fun h => absurd h h0, fun _ => ?_⟩
    have w1 : wrap64 (b1 * 16777216) = b1 * 16777216 := w64 (by omega) (by omega)
    have w2 : wrap64 (b2 * 65536) = b2 * 65536 := w64 (by omega) (by omega)
    have w3 : wrap64 (b3 * 256) = b3 * 256 := w64 (by omega) (by omega)
    rw [w1, w2, w3, w64 (n := b1 * 16777216 + b2 * 65536) (by omega) (by omega), w64 (n := b1 * 16777216 + b2 * 65536 + b3 * 256) (by omega) (by omega), w64 (n := b1 * 16777216 + b2 * 65536 + b3 * 256 + b4) (by omega) (by omega), tmod_pos' (by omega)]
    exact ⟨Int.emod_nonneg _ (by omega), Int.emod_lt_of_pos _ (by omega)⟩
theorem new_loop (l : List Int) (hl : l.length ≤ 1048576) : ∀ (d i : Nat), i + d = l.length → ∀ h : Int, ∃ h', Ev (fun k => spec_l01New.l0 k l h (i : Int)) (l, 0, h') := by
  intro d
  induction d with
  | zero =>
    intro i hi h
    exact ⟨h, Ev.step (fun k => by rw [spec_l01New.l0]) (ev_neg (by omega) (Ev.now _))⟩
  | succ d ih =>
    intro i hi h
    by_cases hc : (i : Int) < 4000
    · obtain ⟨h', e⟩ := ih (i + 1) (by omega) (Go.bits .and .i64 (wrap64 ((wrap64 ((wrap64 (h * 131)) + (wrap64 (rd l i)))) + 7)) 1073741823)
      refine ⟨h', Ev.step (fun k => by rw [spec_l01New.l0]) (ev_pos (by omega) (ev_pos hc (ev_pos (by omega) ?_)))⟩
      rw [show wrap64 ((i : Int) + 1) = ((i + 1 : Nat) : Int) by rw [w64 (by omega) (by omega)]; omega]
      exact e
    · exact ⟨h, Ev.step (fun k => by rw [spec_l01New.l0]) (ev_pos (by omega) (ev_neg hc (Ev.now _)))⟩
theorem new_ok (l : List Int) (hl : l.length ≤ 1048576) : ∃ h', Ev (fun k => spec_l01New.f k l) (l, 0, h') := by
  simp only [spec_l01New.f]
  exact new_loop l hl l.length 0 (by omega) _
theorem in_zero (l : List Int) : In l 0 := ⟨by omega, by omega⟩

theorem text_loop (l : List Int) (hl : l.length ≤ 1048576) : ∀ (d : Nat) (n : Int) (acc : List Int) (j i h : Int), In l i → 0 ≤ j → n ≤ 5000 → (n - j).toNat = d → acc.length ≤ 5000 → (acc.length : Int) = j → ∃ r i' h', Ev (fun k => spec_l01Text.l0 k n acc j l i h) (r, i', h') ∧ In l i' ∧ r.size ≤ 5000 := by
  intro d
  induction d with
  | zero =>
    intro n acc j i h hi hj hn hd ha hz
    exact ⟨_, _, _, Ev.step (fun k => by rw [spec_l01Text.l0]) (ev_neg (by omega) (Ev.now _)), hi, by rw [strOfNums_size]; exact ha⟩
  | succ d ih =>
    intro n acc j i h hi hj hn hd ha hz
    obtain ⟨b, i1, h1, e1, hi1, _, _⟩ := byte_ok l i h hl hi
    have ew : wrap64 (j + 1) = j + 1 := w64 (by omega) (by omega)
    obtain ⟨r, i', h', e, hi', hr⟩ := ih n (acc ++ [b % 256]) (j + 1) i1 h1 hi1 (by omega) hn (by omega) (by rw [List.length_append]; show acc.length + 1 ≤ 5000; omega) (by rw [List.length_append]; show ((acc.length + 1 : Nat) : Int) = j + 1; omega)
    refine ⟨r, i', h', Ev.step (fun k => by rw [spec_l01Text.l0]) (ev_pos (by omega) (Ev.bind (g := fun _ => spec_l01Byte.f l i h) (by rw [e1]; exact Ev.now _) ?_)), hi', hr⟩
    rw [ew]
    have hal : acc.length < 140737488355328 := by omega
    exact ev_pos hal e
theorem text_ok (l : List Int) (hl : l.length ≤ 1048576) (i h n : Int) (hi : In l i) (hn : n ≤ 5000) : ∃ r i' h', Ev (fun k => spec_l01Text.f k l i h n) (r, i', h') ∧ In l i' ∧ r.size ≤ 5000 := by
  simp only [spec_l01Text.f]
  obtain ⟨r, i', h', e, hi', hr⟩ := text_loop l hl (n - 0).toNat n [] 0 i h hi (by omega) hn rfl (by simp) rfl
  exact ⟨r, i', h', ev_neg (by omega) (Ev.step (fun k => by rw [spec_l01Text.j0]) e), hi', hr⟩

theorem pick_in (l : List Int) (i h : Int) (p : List Int) (hl : l.length ≤ 1048576) (hi : In l i) (h0 : 0 < p.length) (hp : p.length ≤ 1000) : ∃ b i' h', spec_l01PickInt.f l i h p = some (b, i', h') ∧ In l i' ∧ b ∈ p := by
  unfold spec_l01PickInt.f
  obtain ⟨b, i1, h1, e1, hi1, _, hb⟩ := below_ok l i h (p.length : Int) hl hi
  have hb := hb (by omega)
  rw [e1, Option.bind_some, if_pos hb.1, if_pos hb.2]
  refine ⟨_, _, _, rfl, hi1, ?_⟩
  unfold rd
  rw [List.getD_eq_getElem?_getD, List.getElem?_eq_getElem (by omega)]
  exact List.getElem_mem _
theorem some_ok (l : List Int) (hl : l.length ≤ 1048576) (i h : Int) (hi : In l i) : ∃ r i' h', Ev (fun k => spec_l03Some.f k l i h) (r, i', h') ∧ In l i' ∧ r.size ≤ 5000 := by
  simp only [spec_l03Some.f]
  obtain ⟨b, i1, h1, e1, hi1, hb⟩ := pick_in l i h [0, 1, 3, 9, 54, 55, 56, 63, 64, 65, 119, 120, 200] hl hi (by decide) (by decide)
  have hb2 : b ≤ 5000 := by
    simp only [List.mem_cons, List.not_mem_nil, or_false] at hb
    omega
  obtain ⟨r, i2, h2, e2, hi2, hr⟩ := text_ok l hl i1 h1 b hi1 hb2
  exact ⟨r, i2, h2, Ev.bind (g := fun _ => spec_l01PickInt.f l i h [0, 1, 3, 9, 54, 55, 56, 63, 64, 65, 119, 120, 200]) (by rw [e1]; exact Ev.now _) (Ev.bind e2 (Ev.now _)), hi2, hr⟩
theorem textof_ok (l : List Int) (hl : l.length ≤ 1048576) : ∃ r, Ev (fun k => spec_DrawTextOf.f k l) r ∧ r.size ≤ 5000 := by
  simp only [spec_DrawTextOf.f]
  obtain ⟨h0, e0⟩ := new_ok l hl
  obtain ⟨r, i2, h2, e2, _, hr⟩ := some_ok l hl 0 h0 (in_zero l)
  exact ⟨r, Ev.bind e0 (Ev.bind e2 (Ev.now _)), hr⟩

theorem places_loop (l : List Int) (hl : l.length ≤ 1048576) : ∀ (d : Nat) (acc : List Int) (j i h : Int), In l i → 0 ≤ j → (12 - j).toNat = d → j ≤ 12 → (acc.length : Int) = j → (∀ x ∈ acc, 0 ≤ x ∧ x < 10000) → ∃ r, Ev (fun k => spec_DrawPlaces.l0 k acc j l i h) r ∧ r.length = 12 ∧ ∀ x ∈ r, 0 ≤ x ∧ x < 10000 := by
  intro d
  induction d with
  | zero =>
    intro acc j i h hi hj hd hj2 hz ha
    exact ⟨acc, Ev.step (fun k => by rw [spec_DrawPlaces.l0]) (ev_neg (by omega) (Ev.now _)), by omega, ha⟩
  | succ d ih =>
    intro acc j i h hi hj hd hj2 hz ha
    obtain ⟨b, i1, h1, e1, hi1, _, hb⟩ := below_ok l i h 10000 hl hi
    have ew : wrap64 (j + 1) = j + 1 := w64 (by omega) (by omega)
    obtain ⟨r, e, hr, hx⟩ := ih (acc ++ [b]) (j + 1) i1 h1 hi1 (by omega) (by omega) (by omega) (by rw [List.length_append]; show ((acc.length + 1 : Nat) : Int) = j + 1; omega) (fun x hx => by
      rcases List.mem_append.1 hx with hx | hx
      · exact ha x hx
      · obtain rfl := List.mem_singleton.1 hx
        exact hb (by omega))
    refine ⟨r, Ev.step (fun k => by rw [spec_DrawPlaces.l0]) (ev_pos (by omega) (Ev.bind (g := fun _ => spec_l01Below.f l i h 10000) (by rw [e1]; exact Ev.now _) ?_)), hr, hx⟩
    rw [ew]
    have hal : acc.length < 17592186044416 := by omega
    exact ev_pos hal e
theorem places_ok (l : List Int) (hl : l.length ≤ 1048576) : ∃ r, Ev (fun k => spec_DrawPlaces.f k l) r ∧ r.length = 12 ∧ ∀ x ∈ r, 0 ≤ x ∧ x < 10000 := by
  simp only [spec_DrawPlaces.f]
  obtain ⟨h0, e0⟩ := new_ok l hl
  obtain ⟨b1, i1, h1, e1, hi1, _, _⟩ := byte_ok l 0 h0 hl (in_zero l)
  obtain ⟨r, e, hr⟩ := places_loop l hl 12 [] 0 i1 h1 hi1 (by omega) (by omega) (by omega) rfl (by simp)
  exact ⟨r, Ev.bind e0 (Ev.bind (g := fun _ => spec_l01Byte.f l 0 h0) (by rw [e1]; exact Ev.now _) e), hr⟩

theorem turnV_size (s : ByteArray) (i y : Int) : (Sha.turnV s i y).size = s.size := by
  unfold Sha.turnV
  rw [strOfNums_size, List.length_set, bytesOf_length]
theorem pads_differ (s : ByteArray) (i y : Int) (hi : i.toNat < s.size) (hy0 : 0 ≤ y) (hy : y < 10000) : ((Sha.padV s).toList != (Sha.padV (Sha.turnV s i y)).toList) = true := by
  rw [bne_iff_ne]
  intro h
  have h1 := pad_begins s
  have h2 := pad_begins (Sha.turnV s i y)
  rw [turnV_size, extract_toList, ← h, ← extract_toList, h1] at h2
  obtain ⟨x, _, hne, hv⟩ := turn_bN s i y hi hy0 hy
  rw [bN_toList', hv] at h2
  have hl : i.toNat < (bN s).length := by rw [bN_len]; exact hi
  have h3 := congrArg (fun q : List Nat => q.getD i.toNat 0) h2
  have h4 : ((bN s).set i.toNat x).getD i.toNat 0 = x := by rw [List.getD_eq_getElem?_getD, List.getElem?_set_self hl]; rfl
  exact hne (h4.symm.trans h3.symm)
theorem FnDigestTurned : laws_FnDigestTurned.Pure := by
  intro l _ _ _
  refine Ev.rounds (g := fun k => laws_FnDigestTurned.f k l) ?_
  simp only [laws_FnDigestTurned.f, laws_big.f]
  refine Ev.bind (g := fun _ => some (decide ((l.length : Int) > 1048576))) (Ev.now _) ?_
  by_cases hb : (l.length : Int) > 1048576
  · exact ev_pos (decide_eq_true hb) (Ev.now _)
  refine ev_neg (by simpa using hb) ?_
  obtain ⟨t, et, ht⟩ := textof_ok l (by omega)
  obtain ⟨p, ep, hp, hpx⟩ := places_ok l (by omega)
  have hr : ∀ n : Nat, n < 12 → 0 ≤ rd p (n : Int) ∧ rd p (n : Int) < 10000 := fun n hn => by
    unfold rd
    rw [Int.toNat_natCast, List.getD_eq_getElem?_getD, List.getElem?_eq_getElem (by omega)]
    exact hpx _ (List.getElem_mem _)
  have r0 : 0 ≤ rd p 0 ∧ rd p 0 < 10000 := hr 0 (by omega)
  have r1 : 0 ≤ rd p 1 ∧ rd p 1 < 10000 := hr 1 (by omega)
  have r2 : 0 ≤ rd p 2 ∧ rd p 2 < 10000 := hr 2 (by omega)
  obtain ⟨s, hs⟩ : ∃ s, t ++ (⟨#[120]⟩ : ByteArray) = s := ⟨_, rfl⟩
  have hz : s.size = t.size + 1 := by rw [← hs, ByteArray.size_append]; rfl
  refine Ev.bind et (ev_pos (by omega) (Ev.bind ep ?_))
  rw [hs]
  have hi0 : 0 ≤ rd p 0 % (s.size : Int) ∧ rd p 0 % (s.size : Int) < (s.size : Int) := ⟨Int.emod_nonneg _ (by omega), Int.emod_lt_of_pos _ (by omega)⟩
  obtain ⟨u, hu⟩ : ∃ u, Sha.turnV s (rd p 0 % (s.size : Int)) (rd p 1) = u := ⟨_, rfl⟩
  have eu : Ev (fun _ : Nat => laws_turned.f s p) u := by
    simp only [laws_turned.f]
    refine ev_pos ⟨by omega, by omega, by omega, r0.1, by omega, r1.1, by omega⟩ ?_
    rw [hu]
    exact Ev.now _
  have huz : u.size = s.size := by rw [← hu]; exact turnV_size _ _ _
  have hne := pads_differ s (rd p 0 % (s.size : Int)) (rd p 1) (by omega) r1.1 r1.2
  rw [hu] at hne
  have d1 := impl_dig s (by omega)
  have d2 := spec_dig s (by omega)
  have d3 := impl_dig u (by omega)
  have d4 := spec_dig u (by omega)
  have hdz := digV_size s
  have hw : wrap64 (1 + Int.tmod (rd p 2) 32) = 1 + rd p 2 % 32 := by rw [tmod_pos' r2.1, w64 (by omega) (by omega)]
  have c1 := impl_cut s (1 + rd p 2 % 32) (by omega)
  have c2 := impl_cut s 0 (by omega)
  have c3 := impl_cut s 33 (by omega)
  unfold cutV at c1 c2 c3
  rw [if_pos (by omega)] at c1
  rw [if_neg (by decide)] at c2 c3
  have hx := impl_dhex u (by omega)
  have hxz : (strOfNums (hexL (bN (Sha.digV u)))).size = 64 := by rw [strOfNums_size, hexL_len, bN_len, digV_size]
  have p1 : Ev (fun _ : Nat => impl_PadText.f s) (Sha.padV s) := by simp only [impl_PadText.f]; exact ev_pos (by omega) (Ev.now _)
  have p2 : Ev (fun _ : Nat => impl_PadText.f u) (Sha.padV u) := by simp only [impl_PadText.f]; exact ev_pos (by omega) (Ev.now _)
  have he : (⟨#[]⟩ : ByteArray).toList = ([] : List UInt8) := by rw [ByteArray.toList_eq]
  rw [hw]
  refine Ev.bind eu (ev_pos (by omega) (Ev.bind d1 (Ev.bind d2 (ev_pos rfl (Ev.bind d3 (Ev.bind d4 (ev_pos rfl (Ev.bind c1 (Ev.bind d1 (ev_pos (by omega) (ev_pos (by omega) (ev_pos rfl (Ev.bind c2 (ev_pos he (Ev.bind c3 (ev_pos he (Ev.bind hx (ev_pos (by omega) (Ev.bind p1 (Ev.bind p2 ?_))))))))))))))))))))
  rw [hne]
  exact Ev.now _

end Go.Proofs.YtekplhhkbeemnaaDoor.Pure

namespace Go.Proofs.YtekplhhkbeemnaaDoor.PrintWords
open Go.ChangeShapes Go.WideShapes
/-- The words' own, under the name by which the printed row calls it. -/
theorem sized_ints {H : Type} {enc : TypeId × Value → H} {P : Program} {W : World} {base : Nat} {spare : Nat → Bool} {held : Bool} {t e : TypeId} {k : IntKind} {a : Option Addr} {len cap : Nat} {d : DataW H} {ps : List MemPlace} {ts : List TypeId} {ds : List (DataW H)} {j : Nat}
    (hsz : (DataW.weightsEach P ts ds).all (· ≤ reachBytes) = true) (ht : ts[j]? = some t) (hd : ds[j]? = some d) (hu : P.underlying t = some (.slice e)) (he : P.underlying e = some (.int k)) (hc : P.cellsOf e = 1) {B : Nat} (hB : P.bytesOf e = B)
    (h : DataW.Trod enc P W base spare held t (.slice a len cap) d ps) : len * B ≤ 140737488351232 :=
  Go.Proofs.YtekplhhkbeemnaaDoorW.PrintWords.sized_ints hsz ht hd hu he hc hB h
end Go.Proofs.YtekplhhkbeemnaaDoor.PrintWords
