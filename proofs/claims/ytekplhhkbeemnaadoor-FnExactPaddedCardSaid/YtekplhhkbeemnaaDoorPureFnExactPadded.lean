/- The law FnExactPadded answers true for every argument: the program's Padded and the reference's come to the same answer. -/
import Derived.Test.YtekplhhkbeemnaaDoorGFnExactPaddedx1
set_option linter.unusedVariables false
set_option linter.unusedSimpArgs false
namespace Go.Proofs.YtekplhhkbeemnaaDoor.Pure
open Go.RowKit Go.Proofs.YtekplhhkbeemnaaDoor.GFnExactPadded Go.Proofs.YtekplhhkbeemnaaDoorW.PrintWords Go.Proofs.YtekplhhkbeemnaaDoorW.PrintLast

theorem w64 {n : Int} (h0 : -9223372036854775808 ≤ n) (h1 : n ≤ 9223372036854775807) : wrap64 n = n := by unfold wrap64; omega
theorem ev_pos {α : Type} {c : Prop} [Decidable c] {f g : Nat → Option α} {r : α} (h : c) (k : Ev f r) : Ev (fun n => if c then f n else g n) r := by
  simpa only [if_pos h] using k
theorem ev_neg {α : Type} {c : Prop} [Decidable c] {f g : Nat → Option α} {r : α} (h : ¬ c) (k : Ev g r) : Ev (fun n => if c then f n else g n) r := by
  simpa only [if_neg h] using k
theorem tdivN (n m : Nat) : Int.tdiv (n : Int) (m : Int) = ((n / m : Nat) : Int) := rfl
theorem tmodN (n m : Nat) : Int.tmod (n : Int) (m : Int) = ((n % m : Nat) : Int) := rfl
theorem tdiv_pos' {n m : Int} (h : 0 ≤ n) : Int.tdiv n m = n / m := Int.tdiv_eq_ediv_of_nonneg h
theorem tmod_pos' {n m : Int} (h : 0 ≤ n) : Int.tmod n m = n % m := Int.tmod_eq_emod_of_nonneg h
theorem bt_rng (s : ByteArray) (i : Int) : 0 ≤ bt s i ∧ bt s i ≤ 255 := bt_range s i
theorem bt_bytes (s : ByteArray) (i : Nat) : bt s i = (bytesOf s).getD i 0 := (rd_bytesOf s i).symm
theorem drop_bytes (s : ByteArray) (i : Nat) (h : i < s.size) : (bytesOf s).drop i = bt s i :: (bytesOf s).drop (i + 1) := by
  have h' : i < (bytesOf s).length := by rw [bytesOf_length]; exact h
  rw [List.drop_eq_getElem_cons h', bt_bytes, List.getD_eq_getElem?_getD, List.getElem?_eq_getElem h']
  rfl

theorem shaB_yes {l : List Int} (h : Sha.Eight l) (s : ByteArray) (hs : s.size = 64) : Sha.shaB l s = Sha.blkV l s Sha.KEYS :=
  if_pos ⟨h.len, hs, Sha.inR_of (fun m _ => h.get m)⟩
theorem sb_ev {l : List Int} (h : Sha.Eight l) (s : ByteArray) (hs : s.size = 64) : Ev (fun _ : Nat => impl_ShaBlock.f l s) (Sha.blkV l s Sha.KEYS) := by
  simp only [impl_ShaBlock.f]
  refine ev_pos (by rw [h.len]; decide) ?_
  rw [shaB_yes h s hs]
  exact Ev.now _
theorem outB_snoc : ∀ (l : List Int) (x : Int), Sha.outB (l ++ [x]) = Sha.outB l ++ [x / 16777216 % 256, x / 65536 % 256, x / 256 % 256, x % 256]
  | [], _ => rfl
  | y :: l, x => by simp only [List.cons_append, Sha.outB, outB_snoc l x]
theorem dig_l1 (h : List Int) (hl : h.length = 8) : ∀ (d i : Nat), i + d = 8 → Ev (fun k => impl_Digest.l1 k (Sha.outB (h.take i)) h (h.length : Int) (i : Int)) (strOfNums (Sha.outB h)) := by
  intro d
  induction d with
  | zero =>
    intro i hi
    refine Ev.step (fun k => by rw [impl_Digest.l1]) ?_
    refine ev_neg (by omega) ?_
    rw [List.take_of_length_le (by omega)]
    exact Ev.now _
  | succ d ih =>
    intro i hi
    refine Ev.step (fun k => by rw [impl_Digest.l1]) ?_
    refine ev_pos (by omega) (ev_pos (by omega) (ev_pos (by omega) ?_))
    refine Ev.bind (Ev.now _) ?_
    refine ev_pos (by have := Sha.outB_len (h.take i); rw [List.length_take] at this; simp only [List.length_cons, List.length_nil]; omega) ?_
    have hr : rd h (i : Int) = h[i] := by simp [rd, List.getD_eq_getElem?_getD, List.getElem?_eq_getElem (show i < h.length by omega)]
    rw [hr, ← outB_snoc, ← List.take_succ_eq_append_getElem, show wrap64 ((i : Int) + 1) = ((i + 1 : Nat) : Int) by rw [w64 (by omega) (by omega)]; omega]
    exact ih (i + 1) (by omega)
theorem list_size (s : ByteArray) : s.toList.length = s.size := by rw [ByteArray.toList_eq, Array.length_toList]; rfl
theorem dig_l0 (p : ByteArray) (M : Nat) (hp : p.size = 64 * M) : ∀ (d m : Nat), m + d = M → Ev (fun k => impl_Digest.l0 k (Sha.stateN p m) (p.extract (64 * m) p.size)) (strOfNums (Sha.outB (Sha.stateN p M))) := by
  intro d
  induction d with
  | zero =>
    intro m hm
    obtain rfl : m = M := by omega
    refine Ev.step (fun k => by rw [impl_Digest.l0]) ?_
    refine ev_pos (List.eq_nil_of_length_eq_zero (by rw [list_size, ByteArray.size_extract]; omega)) ?_
    have h := dig_l1 (Sha.stateN p m) (Sha.stateN_eight p m).len 8 0 rfl
    exact h
  | succ d ih =>
    intro m hm
    have hs : (p.extract (64 * m) p.size).size = p.size - 64 * m := by rw [ByteArray.size_extract]; omega
    refine Ev.step (fun k => by rw [impl_Digest.l0]) ?_
    refine ev_neg (fun h => by have := congrArg List.length h; rw [list_size, hs] at this; simp at this; omega) ?_
    refine ev_pos (by decide) (ev_pos (by rw [hs]; omega) ?_)
    have e1 : (p.extract (64 * m) p.size).extract 0 64 = p.extract (64 * m) (64 * m + 64) := by
      rw [ByteArray.extract_extract]
      congr 1
      omega
    have e2 : (p.extract (64 * m) p.size).extract 64 (p.extract (64 * m) p.size).size = p.extract (64 * (m + 1)) p.size := by
      rw [hs, ByteArray.extract_extract]
      congr 1
      omega
    rw [e1, e2]
    refine Ev.bind (sb_ev (Sha.stateN_eight p m) _ (by rw [ByteArray.size_extract]; omega)) ?_
    exact ih (m + 1) (by omega)
theorem impl_dig (t : ByteArray) (h : t.size ≤ 1099511627776) : Ev (fun k => impl_Digest.f k t) (Sha.digV t) := by
  simp only [impl_Digest.f]
  have hst : Ev (fun _ : Nat => impl_ShaStart.f) Sha.FIRST := Ev.now _
  have hpd : Ev (fun _ : Nat => impl_PadText.f t) (Sha.padV t) := by simp only [impl_PadText.f]; exact ev_pos h (Ev.now _)
  refine Ev.bind hst (Ev.bind hpd ?_)
  have hp := Sha.padV_size t
  have h0 := dig_l0 (Sha.padV t) ((Sha.padV t).size / 64) (by omega) ((Sha.padV t).size / 64) 0 (by omega)
  rw [show (Sha.padV t).extract (64 * 0) (Sha.padV t).size = Sha.padV t from ByteArray.extract_zero_size] at h0
  exact h0
theorem digV_size (t : ByteArray) : (Sha.digV t).size = 32 := by
  unfold Sha.digV
  rw [strOfNums_size, Sha.outB_len, (Sha.stateN_eight _ _).len]

theorem spec_dig (t : ByteArray) (h : t.size ≤ 1099511627776) : Ev (fun _ : Nat => spec_Digest.f t) (Sha.digV t) := by
  simp only [spec_Digest.f]; exact ev_pos h (Ev.now _)

def cutV (t : ByteArray) (a : Int) : ByteArray := if 1 ≤ a ∧ a ≤ 32 then (Sha.digV t).extract 0 a.toNat else ⟨#[]⟩
theorem impl_cut (t : ByteArray) (a : Int) (h : t.size ≤ 1099511627776) : Ev (fun k => impl_CutDigest.f k t a) (cutV t a) := by
  simp only [impl_CutDigest.f]
  have hd := digV_size t
  unfold cutV
  by_cases h1 : 1 ≤ a ∧ a ≤ 32
  · rw [if_pos h1]
    have hw : Ev (fun _ : Nat => impl_within.f a 1 32) true := by
      simp only [impl_within.f]
      refine ev_pos h1.1 ?_
      rw [decide_eq_true h1.2]
      exact Ev.now _
    exact Ev.bind hw (ev_pos rfl (Ev.bind (impl_dig t h) (ev_pos (by omega) (ev_pos (by rw [hd]; omega) (Ev.now _)))))
  · rw [if_neg h1]
    have hw : Ev (fun _ : Nat => impl_within.f a 1 32) false := by
      simp only [impl_within.f]
      by_cases h2 : 1 ≤ a
      · refine ev_pos h2 ?_
        rw [decide_eq_false (by omega)]
        exact Ev.now _
      · exact ev_neg h2 (Ev.now _)
    exact Ev.bind hw (ev_neg (by decide) (Ev.now _))

theorem rep6 : strings_Repeat.f (⟨#[255]⟩ : ByteArray) 6 = some ⟨#[255, 255, 255, 255, 255, 255]⟩ := by kernel_rfl
theorem join9 : ((⟨#[0, 1]⟩ : ByteArray) ++ (⟨#[255, 255, 255, 255, 255, 255]⟩ : ByteArray)) ++ (⟨#[0]⟩ : ByteArray) = ⟨#[0, 1, 255, 255, 255, 255, 255, 255, 0]⟩ := by kernel_rfl
theorem FnExactPadded : laws_FnExactPadded.Pure := by
  intro a0 _
  refine Ev.rounds (g := fun k => laws_FnExactPadded.f k a0) ?_
  simp only [laws_FnExactPadded.f]
  by_cases hb : (a0.size : Int) > 1048576
  · exact ev_pos hb (Ev.now _)
  refine ev_neg hb ?_
  have hd := digV_size a0
  have hx : ((Sha.digV a0).extract 0 6).size = 6 := by rw [ByteArray.size_extract]; omega
  have hs : Ev (fun _ : Nat => spec_Padded.f a0) ((⟨#[0, 1, 255, 255, 255, 255, 255, 255, 0]⟩ : ByteArray) ++ (Sha.digV a0).extract 0 6) := by
    simp only [spec_Padded.f]
    exact Ev.bind (spec_dig a0 (by omega)) (ev_pos (by decide) (ev_pos (by omega) (ev_pos (by omega) (Ev.now _))))
  have hi : Ev (fun k => impl_Padded.f k a0) ((⟨#[0, 1, 255, 255, 255, 255, 255, 255, 0]⟩ : ByteArray) ++ (Sha.digV a0).extract 0 6) := by
    simp only [impl_Padded.f]
    have ec := impl_cut a0 6 (by omega)
    unfold cutV at ec
    rw [if_pos (by decide)] at ec
    refine Ev.bind (g := fun _ => strings_Repeat.f (⟨#[255]⟩ : ByteArray) 6) (a := ⟨#[255, 255, 255, 255, 255, 255]⟩) (by rw [rep6]; exact Ev.now _) (ev_pos (by decide) (ev_pos (by decide) (Ev.bind ec (ev_pos ?_ ?_))))
    · rw [join9]
      show (9 : Nat) + ((Sha.digV a0).extract 0 6).size ≤ _
      omega
    · rw [join9]
      exact Ev.now _
  exact Ev.bind hs (Ev.bind hi (ev_pos rfl (Ev.now _)))

end Go.Proofs.YtekplhhkbeemnaaDoor.Pure
