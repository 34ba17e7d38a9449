/- The law FnExactDigestHex answers true for every argument: the program's DigestHex and the reference's come to the same answer. -/
import Derived.Test.YtekplhhkbeemnaaDoorGFnExactDigestHexx2
set_option linter.unusedVariables false
set_option linter.unusedSimpArgs false
namespace Go.Proofs.YtekplhhkbeemnaaDoor.Pure
open Go.RowKit Go.Proofs.YtekplhhkbeemnaaDoor.GFnExactDigestHex Go.Proofs.YtekplhhkbeemnaaDoorW.PrintWords Go.Proofs.YtekplhhkbeemnaaDoorW.PrintLast

theorem w64 {n : Int} (h0 : -9223372036854775808 ≤ n) (h1 : n ≤ 9223372036854775807) : wrap64 n = n := by unfold wrap64; omega
theorem ev_pos {α : Type} {c : Prop} [Decidable c] {f g : Nat → Option α} {r : α} (h : c) (k : Ev f r) : Ev (fun n => if c then f n else g n) r := by
  simpa only [if_pos h] using k
theorem ev_neg {α : Type} {c : Prop} [Decidable c] {f g : Nat → Option α} {r : α} (h : ¬ c) (k : Ev g r) : Ev (fun n => if c then f n else g n) r := by
  simpa only [if_neg h] using k
theorem tdivN (n m : Nat) : Int.tdiv (n : Int) (m : Int) = ((n / m : Nat) : Int) := rfl
theorem tmodN (n m : Nat) : Int.tmod (n : Int) (m : Int) = ((n % m : Nat) : Int) := rfl
theorem tdiv_pos' {n m : Int} (h : 0 ≤ n) : Int.tdiv n m = n / m := Int.tdiv_eq_ediv_of_nonneg h
theorem tmod_pos' {n m : Int} (h : 0 ≤ n) : Int.tmod n m = n % m := Int.tmod_eq_emod_of_nonneg h
theorem bt_rng (s : ByteArray) (i : Int) : 0 ≤ bt s i ∧ bt s i ≤ 255 := bt_range s i
theorem bt_bytes (s : ByteArray) (i : Nat) : bt s i = (bytesOf s).getD i 0 := (rd_bytesOf s i).symm
theorem drop_bytes (s : ByteArray) (i : Nat) (h : i < s.size) : (bytesOf s).drop i = bt s i :: (bytesOf s).drop (i + 1) := by
  have h' : i < (bytesOf s).length := by rw [bytesOf_length]; exact h
  rw [List.drop_eq_getElem_cons h', bt_bytes, List.getD_eq_getElem?_getD, List.getElem?_eq_getElem h']
  rfl

theorem shaB_yes {l : List Int} (h : Sha.Eight l) (s : ByteArray) (hs : s.size = 64) : Sha.shaB l s = Sha.blkV l s Sha.KEYS :=
  if_pos ⟨h.len, hs, Sha.inR_of (fun m _ => h.get m)⟩
theorem sb_ev {l : List Int} (h : Sha.Eight l) (s : ByteArray) (hs : s.size = 64) : Ev (fun _ : Nat => impl_ShaBlock.f l s) (Sha.blkV l s Sha.KEYS) := by
  simp only [impl_ShaBlock.f]
  refine ev_pos (by rw [h.len]; decide) ?_
  rw [shaB_yes h s hs]
  exact Ev.now _
theorem outB_snoc : ∀ (l : List Int) (x : Int), Sha.outB (l ++ [x]) = Sha.outB l ++ [x / 16777216 % 256, x / 65536 % 256, x / 256 % 256, x % 256]
  | [], _ => rfl
  | y :: l, x => by simp only [List.cons_append, Sha.outB, outB_snoc l x]
theorem dig_l1 (h : List Int) (hl : h.length = 8) : ∀ (d i : Nat), i + d = 8 → Ev (fun k => impl_Digest.l1 k (Sha.outB (h.take i)) h (h.length : Int) (i : Int)) (strOfNums (Sha.outB h)) := by
  intro d
  induction d with
  | zero =>
    intro i hi
    refine Ev.step (fun k => by rw [impl_Digest.l1]) ?_
    refine ev_neg (by omega) ?_
    rw [List.take_of_length_le (by omega)]
    exact Ev.now _
  | succ d ih =>
    intro i hi
    refine Ev.step (fun k => by rw [impl_Digest.l1]) ?_
    refine ev_pos (by omega) (ev_pos (by omega) (ev_pos (by omega) ?_))
    refine Ev.bind (Ev.now _) ?_
    refine ev_pos (by have := Sha.outB_len (h.take i); rw [List.length_take] at this; simp only [List.length_cons, List.length_nil]; omega) ?_
    have hr : rd h (i : Int) = h[i] := by simp [rd, List.getD_eq_getElem?_getD, List.getElem?_eq_getElem (show i < h.length by omega)]
    rw [hr, ← outB_snoc, ← List.take_succ_eq_append_getElem, show wrap64 ((i : Int) + 1) = ((i + 1 : Nat) : Int) by rw [w64 (by omega) (by omega)]; omega]
    exact ih (i + 1) (by omega)
theorem list_size (s : ByteArray) : s.toList.length = s.size := by rw [ByteArray.toList_eq, Array.length_toList]; rfl
theorem dig_l0 (p : ByteArray) (M : Nat) (hp : p.size = 64 * M) : ∀ (d m : Nat), m + d = M → Ev (fun k => impl_Digest.l0 k (Sha.stateN p m) (p.extract (64 * m) p.size)) (strOfNums (Sha.outB (Sha.stateN p M))) := by
  intro d
  induction d with
  | zero =>
    intro m hm
    obtain rfl : m = M := by omega
    refine Ev.step (fun k => by rw [impl_Digest.l0]) ?_
    refine ev_pos (List.eq_nil_of_length_eq_zero (by rw [list_size, ByteArray.size_extract]; omega)) ?_
    have h := dig_l1 (Sha.stateN p m) (Sha.stateN_eight p m).len 8 0 rfl
    exact h
  | succ d ih =>
    intro m hm
    have hs : (p.extract (64 * m) p.size).size = p.size - 64 * m := by rw [ByteArray.size_extract]; omega
    refine Ev.step (fun k => by rw [impl_Digest.l0]) ?_
    refine ev_neg (fun h => by have := congrArg List.length h; rw [list_size, hs] at this; simp at this; omega) ?_
    refine ev_pos (by decide) (ev_pos (by rw [hs]; omega) ?_)
    have e1 : (p.extract (64 * m) p.size).extract 0 64 = p.extract (64 * m) (64 * m + 64) := by
      rw [ByteArray.extract_extract]
      congr 1
      omega
    have e2 : (p.extract (64 * m) p.size).extract 64 (p.extract (64 * m) p.size).size = p.extract (64 * (m + 1)) p.size := by
      rw [hs, ByteArray.extract_extract]
      congr 1
      omega
    rw [e1, e2]
    refine Ev.bind (sb_ev (Sha.stateN_eight p m) _ (by rw [ByteArray.size_extract]; omega)) ?_
    exact ih (m + 1) (by omega)
theorem impl_dig (t : ByteArray) (h : t.size ≤ 1099511627776) : Ev (fun k => impl_Digest.f k t) (Sha.digV t) := by
  simp only [impl_Digest.f]
  have hst : Ev (fun _ : Nat => impl_ShaStart.f) Sha.FIRST := Ev.now _
  have hpd : Ev (fun _ : Nat => impl_PadText.f t) (Sha.padV t) := by simp only [impl_PadText.f]; exact ev_pos h (Ev.now _)
  refine Ev.bind hst (Ev.bind hpd ?_)
  have hp := Sha.padV_size t
  have h0 := dig_l0 (Sha.padV t) ((Sha.padV t).size / 64) (by omega) ((Sha.padV t).size / 64) 0 (by omega)
  rw [show (Sha.padV t).extract (64 * 0) (Sha.padV t).size = Sha.padV t from ByteArray.extract_zero_size] at h0
  exact h0
theorem digV_size (t : ByteArray) : (Sha.digV t).size = 32 := by
  unfold Sha.digV
  rw [strOfNums_size, Sha.outB_len, (Sha.stateN_eight _ _).len]

theorem spec_dig (t : ByteArray) (h : t.size ≤ 1099511627776) : Ev (fun _ : Nat => spec_Digest.f t) (Sha.digV t) := by
  simp only [spec_Digest.f]; exact ev_pos h (Ev.now _)

def bN (s : ByteArray) : List Nat := s.data.toList.map UInt8.toNat
theorem bN_len (s : ByteArray) : (bN s).length = s.size := by rw [bN, List.length_map, Array.length_toList]; rfl
theorem bN_lt (s : ByteArray) : ∀ b ∈ bN s, b < 256 := by
  intro b hb
  obtain ⟨c, _, rfl⟩ := List.mem_map.1 hb
  exact c.toNat_lt
theorem bt_bN (s : ByteArray) (i : Nat) : bt s i = ((bN s).getD i 0 : Nat) := by
  unfold bt bN
  split
  · rename_i h
    have h' : i < s.data.toList.length := by rw [Array.length_toList]; exact h
    simp [List.getD_eq_getElem?_getD, List.getElem?_eq_getElem h']
    rfl
  · rename_i h
    have h' : s.data.toList.length ≤ i := by rw [Array.length_toList]; simpa using h
    simp [List.getD_eq_getElem?_getD, List.getElem?_eq_none h']
theorem bN_toList (s : ByteArray) : s.toList = (bN s).map UInt8.ofNat := by
  rw [ByteArray.toList_eq, bN, List.map_map]
  symm
  exact (List.map_congr_left (fun b _ => by simp)).trans (List.map_id _)
theorem drop_get (l : List Nat) (i : Nat) (pre : List Nat) (c : Nat) (rest : List Nat) (h : l.drop i = pre ++ c :: rest) : l.getD (i + pre.length) 0 = c := by
  have h2 : (l.drop i)[pre.length]? = some c := by rw [h, List.getElem?_append_right (Nat.le_refl _)]; simp
  rw [List.getElem?_drop] at h2
  rw [List.getD_eq_getElem?_getD, h2]; rfl

def digV (x : Nat) : Int := if x < 10 then 48 + (x : Int) else 87 + (x : Int)
theorem fig_ev (x : Nat) (h : x < 16) : spec_l01Figure.f (x : Int) = some (digV x) := by
  unfold spec_l01Figure.f digV
  by_cases h1 : x < 10
  · rw [if_pos (by omega), if_pos h1, w64 (by omega) (by omega)]
    congr 1
    omega
  · rw [if_neg (by omega), if_neg h1, w64 (n := 97 + (x : Int)) (by omega) (by omega), w64 (by omega) (by omega)]
    congr 1
    omega

theorem fig_bt (x : Nat) (h : x < 16) : bt (⟨#[48, 49, 50, 51, 52, 53, 54, 55, 56, 57, 97, 98, 99, 100, 101, 102]⟩ : ByteArray) (x : Int) = digV x :=
  (show ∀ k : Fin 16, bt (⟨#[48, 49, 50, 51, 52, 53, 54, 55, 56, 57, 97, 98, 99, 100, 101, 102]⟩ : ByteArray) (((k : Fin 16) : Nat) : Int) = digV k by decide +kernel) ⟨x, h⟩
def hexL (l : List Nat) : List Int := l.flatMap fun b => [digV (b / 16), digV (b % 16)]
theorem hexL_len (l : List Nat) : (hexL l).length = 2 * l.length := by
  unfold hexL
  induction l with
  | nil => rfl
  | cons b l ih => simp only [List.flatMap_cons, List.length_append, ih, List.length_cons, List.length_nil]; omega
theorem impl_hex (s : ByteArray) (hs : s.size ≤ 20000) : ∀ (d i : Nat), d + i = s.size → ∀ acc : List Int, acc.length ≤ 2 * i → Ev (fun k => impl_Hex.l0 k s acc (i : Int)) (strOfNums (acc ++ hexL ((bN s).drop i)), true) := by
  intro d
  induction d with
  | zero =>
    intro i hi acc ha
    refine Ev.step (fun k => by rw [impl_Hex.l0]) ?_
    refine ev_neg (by omega) ?_
    rw [List.drop_of_length_le (by rw [bN_len]; omega)]
    simp only [hexL, List.flatMap_nil, List.append_nil]
    exact Ev.now _
  | succ d ih =>
    intro i hi acc ha
    refine Ev.step (fun k => by rw [impl_Hex.l0]) ?_
    have hl : i < (bN s).length := by rw [bN_len]; omega
    obtain ⟨b, hb, hdr⟩ : ∃ b, (bN s).getD i 0 = b ∧ (bN s).drop i = b :: (bN s).drop (i + 1) := by
      refine ⟨(bN s)[i], ?_, List.drop_eq_getElem_cons hl⟩
      rw [List.getD_eq_getElem?_getD, List.getElem?_eq_getElem hl]; rfl
    have hb2 : b < 256 := bN_lt s b (List.mem_of_mem_drop (i := i) (by rw [hdr]; simp))
    have ba : bt s (i : Int) = (b : Int) := by rw [bt_bN, hb]
    have e1 : wrap64 ((i : Int) + 1) = ((i + 1 : Nat) : Int) := by rw [w64 (by omega) (by omega)]; omega
    have e2 : Int.tdiv (b : Int) 16 % 256 = ((b / 16 : Nat) : Int) := by rw [tdiv_pos' (by omega)]; omega
    have e3 : Int.tmod (b : Int) 16 = ((b % 16 : Nat) : Int) := by rw [tmod_pos' (by omega)]; omega
    rw [ba, e1, e2, e3, fig_bt _ (by omega), fig_bt _ (by omega)]
    refine ev_pos (by omega) (ev_pos (by omega) (ev_pos (by omega) (ev_pos (by omega) (ev_pos (by omega) (ev_pos (by omega) ?_)))))
    refine Ev.bind (g := fun _ => some [digV (b / 16), digV (b % 16)]) (Ev.now _) (ev_pos (by simp; omega) ?_)
    have := ih (i + 1) (by omega) (acc ++ [digV (b / 16), digV (b % 16)]) (by simp; omega)
    rw [hdr]
    rw [List.append_assoc] at this
    exact this
def hexV2 (s : ByteArray) : ByteArray × Bool := if (s.size : Int) > 20000 then (⟨#[]⟩, false) else (strOfNums (hexL (bN s)), true)
theorem impl_hex_ev (s : ByteArray) : Ev (fun k => impl_Hex.f k s) (hexV2 s) := by
  simp only [impl_Hex.f]
  unfold hexV2
  by_cases hb : (s.size : Int) > 20000
  · rw [if_pos hb]; exact ev_pos hb (Ev.now _)
  · have := impl_hex s (by omega) s.size 0 (by omega) [] (by simp)
    refine ev_neg hb ?_
    rw [if_neg hb]
    exact this

theorem spec_hex (s : ByteArray) (hs : s.size ≤ 20000) : ∀ (d i : Nat), d + i = s.size → ∀ acc : List Int, acc.length ≤ 2 * i → Ev (fun k => spec_Hex.l0 k s acc (i : Int)) (strOfNums (acc ++ hexL ((bN s).drop i)), true) := by
  intro d
  induction d with
  | zero =>
    intro i hi acc ha
    refine Ev.step (fun k => by rw [spec_Hex.l0]) ?_
    refine ev_neg (by omega) ?_
    rw [List.drop_of_length_le (by rw [bN_len]; omega)]
    simp only [hexL, List.flatMap_nil, List.append_nil]
    exact Ev.now _
  | succ d ih =>
    intro i hi acc ha
    refine Ev.step (fun k => by rw [spec_Hex.l0]) ?_
    have hl : i < (bN s).length := by rw [bN_len]; omega
    obtain ⟨b, hb, hdr⟩ : ∃ b, (bN s).getD i 0 = b ∧ (bN s).drop i = b :: (bN s).drop (i + 1) := by
      refine ⟨(bN s)[i], ?_, List.drop_eq_getElem_cons hl⟩
      rw [List.getD_eq_getElem?_getD, List.getElem?_eq_getElem hl]; rfl
    have hb2 : b < 256 := bN_lt s b (List.mem_of_mem_drop (i := i) (by rw [hdr]; simp))
    have ba : bt s (i : Int) = (b : Int) := by rw [bt_bN, hb]
    have e0 : wrap64 (b : Int) = (b : Int) := w64 (by omega) (by omega)
    have e1 : wrap64 ((i : Int) + 1) = ((i + 1 : Nat) : Int) := by rw [w64 (by omega) (by omega)]; omega
    have e2 : wrap64 (Int.tdiv (b : Int) 16) = ((b / 16 : Nat) : Int) := by rw [tdiv_pos' (by omega), w64 (by omega) (by omega)]; omega
    have e3 : Int.tmod (b : Int) 16 = ((b % 16 : Nat) : Int) := by rw [tmod_pos' (by omega)]; omega
    rw [ba, e0, e1, e2, e3, fig_ev _ (by omega), fig_ev _ (by omega)]
    refine ev_pos (by omega) (ev_pos (by omega) (Ev.bind (g := fun _ => some (digV (b / 16))) (Ev.now _) (Ev.bind (g := fun _ => some (digV (b % 16))) (Ev.now _) ?_)))
    refine Ev.bind (g := fun _ => some [digV (b / 16), digV (b % 16)]) (Ev.now _) (ev_pos (by simp; omega) ?_)
    have := ih (i + 1) (by omega) (acc ++ [digV (b / 16), digV (b % 16)]) (by simp; omega)
    rw [hdr]
    rw [List.append_assoc] at this
    exact this
theorem spec_hex_ev (s : ByteArray) : Ev (fun k => spec_Hex.f k s) (hexV2 s) := by
  simp only [spec_Hex.f]
  unfold hexV2
  by_cases hb : (s.size : Int) > 20000
  · rw [if_pos hb]; exact ev_pos hb (Ev.now _)
  · have := spec_hex s (by omega) s.size 0 (by omega) [] (by simp)
    refine ev_neg hb ?_
    rw [if_neg hb]
    exact this

theorem impl_dhex (t : ByteArray) (h : t.size ≤ 1099511627776) : Ev (fun k => impl_DigestHex.f k t) (strOfNums (hexL (bN (Sha.digV t)))) := by
  simp only [impl_DigestHex.f]
  have e := impl_hex_ev (Sha.digV t)
  unfold hexV2 at e
  rw [if_neg (by rw [digV_size]; decide)] at e
  exact Ev.bind (impl_dig t h) (Ev.bind e (Ev.now _))

theorem spec_dhex (t : ByteArray) (h : t.size ≤ 1099511627776) : Ev (fun k => spec_DigestHex.f k t) (strOfNums (hexL (bN (Sha.digV t)))) := by
  simp only [spec_DigestHex.f]
  have e := spec_hex_ev (Sha.digV t)
  unfold hexV2 at e
  rw [if_neg (by rw [digV_size]; decide)] at e
  exact Ev.bind (spec_dig t h) (Ev.bind e (Ev.now _))
theorem FnExactDigestHex : laws_FnExactDigestHex.Pure := by
  intro a0 _
  refine Ev.rounds (g := fun k => laws_FnExactDigestHex.f k a0) ?_
  simp only [laws_FnExactDigestHex.f]
  by_cases hb : (a0.size : Int) > 1048576
  · exact ev_pos hb (Ev.now _)
  refine ev_neg hb (Ev.bind (spec_dhex a0 (by omega)) (Ev.bind (impl_dhex a0 (by omega)) (ev_pos rfl (Ev.now _))))

end Go.Proofs.YtekplhhkbeemnaaDoor.Pure
