/- The law FnExactShaBlock answers true for every argument: the program's ShaBlock and the reference's come to the same answer. -/
import Derived.Test.YtekplhhkbeemnaaDoorGFnExactShaBlockx1
import Derived.Test.YtekplhhkbeemnaaDoorWSized
set_option linter.unusedVariables false
set_option linter.unusedSimpArgs false
namespace Go.Proofs.YtekplhhkbeemnaaDoor.Pure
open Go.RowKit Go.Proofs.YtekplhhkbeemnaaDoor.GFnExactShaBlock Go.Proofs.YtekplhhkbeemnaaDoorW.PrintWords Go.Proofs.YtekplhhkbeemnaaDoorW.PrintLast

theorem w64 {n : Int} (h0 : -9223372036854775808 ≤ n) (h1 : n ≤ 9223372036854775807) : wrap64 n = n := by unfold wrap64; omega
theorem ev_pos {α : Type} {c : Prop} [Decidable c] {f g : Nat → Option α} {r : α} (h : c) (k : Ev f r) : Ev (fun n => if c then f n else g n) r := by
  simpa only [if_pos h] using k
theorem ev_neg {α : Type} {c : Prop} [Decidable c] {f g : Nat → Option α} {r : α} (h : ¬ c) (k : Ev g r) : Ev (fun n => if c then f n else g n) r := by
  simpa only [if_neg h] using k
theorem tdivN (n m : Nat) : Int.tdiv (n : Int) (m : Int) = ((n / m : Nat) : Int) := rfl
theorem tmodN (n m : Nat) : Int.tmod (n : Int) (m : Int) = ((n % m : Nat) : Int) := rfl
theorem tdiv_pos' {n m : Int} (h : 0 ≤ n) : Int.tdiv n m = n / m := Int.tdiv_eq_ediv_of_nonneg h
theorem tmod_pos' {n m : Int} (h : 0 ≤ n) : Int.tmod n m = n % m := Int.tmod_eq_emod_of_nonneg h
theorem bt_rng (s : ByteArray) (i : Int) : 0 ≤ bt s i ∧ bt s i ≤ 255 := bt_range s i
theorem bt_bytes (s : ByteArray) (i : Nat) : bt s i = (bytesOf s).getD i 0 := (rd_bytesOf s i).symm
theorem drop_bytes (s : ByteArray) (i : Nat) (h : i < s.size) : (bytesOf s).drop i = bt s i :: (bytesOf s).drop (i + 1) := by
  have h' : i < (bytesOf s).length := by rw [bytesOf_length]; exact h
  rw [List.drop_eq_getElem_cons h', bt_bytes, List.getD_eq_getElem?_getD, List.getElem?_eq_getElem h']
  rfl

theorem set_snoc (l : List Int) (i : Nat) (t : Int) (tl : List Int) (h : i < l.length) : (l.take i ++ t :: tl).set i (rd l i) = l.take (i + 1) ++ tl := by
  have hl : (l.take i).length = i := by rw [List.length_take]; omega
  have hr : rd l i = l[i] := by simp [rd, List.getD_eq_getElem?_getD, List.getElem?_eq_getElem h]
  rw [List.set_append_right _ _ (by omega), hl, Nat.sub_self, List.set_cons_zero, hr, List.take_succ_eq_append_getElem h, List.append_assoc]
  rfl
theorem toint_loop (l : List Int) (hl : l.length ≤ 1048576) : ∀ (d i : Nat) (tl : List Int), tl.length = d → i + d = l.length → Ev (fun k => laws_toIntS.l0 k l (l.take i ++ tl) (i : Int)) l := by
  intro d
  induction d with
  | zero =>
    intro i tl ht hi
    obtain rfl : tl = [] := List.eq_nil_of_length_eq_zero ht
    refine Ev.step (fun k => by rw [laws_toIntS.l0]) ?_
    refine ev_neg (by omega) ?_
    rw [List.append_nil, List.take_of_length_le (by omega)]
    exact Ev.now _
  | succ d ih =>
    intro i tl ht hi
    obtain ⟨t, tl, rfl⟩ : ∃ t tl', tl = t :: tl' := by cases tl with | nil => simp at ht | cons t tl => exact ⟨t, tl, rfl⟩
    refine Ev.step (fun k => by rw [laws_toIntS.l0]) ?_
    refine ev_pos (by omega) (ev_pos (by omega) (ev_pos ?_ ?_))
    · simp at ht; simp [List.length_take]; omega
    · rw [show wrap64 ((i : Int) + 1) = ((i + 1 : Nat) : Int) by rw [w64 (by omega) (by omega)]; omega, Int.toNat_natCast, set_snoc l i t tl (by omega)]
      exact ih (i + 1) tl (by simpa using ht) (by omega)
theorem toint (l : List Int) (hl : l.length ≤ 1048576) : Ev (fun k => laws_toIntS.f k l) l := by
  simp only [laws_toIntS.f]
  refine ev_pos (by omega) (ev_pos (by omega) ?_)
  have := toint_loop l hl l.length 0 (List.replicate l.length 0) (by simp) (by omega)
  simpa using this

theorem eqint_loop (l : List Int) (hl : l.length ≤ 1048576) : ∀ (d i : Nat), i + d = l.length → Ev (fun k => laws_eqIntS.l0 k l l (i : Int)) true := by
  intro d
  induction d with
  | zero =>
    intro i hi
    refine Ev.step (fun k => by rw [laws_eqIntS.l0]) ?_
    exact ev_neg (by omega) (Ev.now _)
  | succ d ih =>
    intro i hi
    refine Ev.step (fun k => by rw [laws_eqIntS.l0]) ?_
    refine ev_pos (by omega) (ev_pos (by omega) (ev_pos (by omega) (ev_pos rfl ?_)))
    rw [show wrap64 ((i : Int) + 1) = ((i + 1 : Nat) : Int) by rw [w64 (by omega) (by omega)]; omega]
    exact ih (i + 1) (by omega)
theorem eqint (l : List Int) (hl : l.length ≤ 1048576) : Ev (fun k => laws_eqIntS.f k l l) true := by
  simp only [laws_eqIntS.f]
  refine ev_pos trivial ?_
  exact eqint_loop l hl l.length 0 (by omega)

def runI : Int → Nat → List Int
  | _, 0 => []
  | a, n + 1 => a :: runI (a + 1) n
theorem runI_len : ∀ (n : Nat) (a : Int), (runI a n).length = n
  | 0, _ => rfl
  | n + 1, a => by simp [runI, runI_len n]
theorem runI_snoc : ∀ (n : Nat) (a : Int), runI a (n + 1) = runI a n ++ [a + n]
  | 0, a => by simp [runI]
  | n + 1, a => by
    rw [runI, runI_snoc n (a + 1), runI]
    simp; omega
theorem runI_get : ∀ (n : Nat) (a : Int) (i : Nat), i < n → (runI a n).getD i 0 = a + i
  | 0, _, _, h => by omega
  | n + 1, a, 0, _ => by simp [runI]
  | n + 1, a, i + 1, h => by
    rw [runI, List.getD_cons_succ, runI_get n (a + 1) i (by omega)]
    omega
theorem mark_loop (l : List Int) (a : Int) (ha : 0 ≤ a) (hl : a + l.length ≤ 9223372036854775806) : ∀ (d i : Nat), i + d = l.length →
    Ev (fun k => laws_markIntS.l0 k (runI a i ++ l.drop i) (a + i) (i : Int)) (a + l.length, runI a l.length) := by
  intro d
  induction d with
  | zero =>
    intro i hi
    refine Ev.step (fun k => by rw [laws_markIntS.l0]) ?_
    obtain rfl : i = l.length := by omega
    refine ev_neg ?_ ?_
    · simp [runI_len]
    · simp; exact Ev.now _
  | succ d ih =>
    intro i hi
    refine Ev.step (fun k => by rw [laws_markIntS.l0]) ?_
    refine ev_pos ?_ (ev_pos (by omega) ?_)
    · simp [runI_len]; omega
    · rw [show wrap64 ((i : Int) + 1) = ((i + 1 : Nat) : Int) by rw [w64 (by omega) (by omega)]; omega,
        show wrap64 (a + i + 1) = a + ((i + 1 : Nat) : Int) by rw [w64 (by omega) (by omega)]; omega, Int.toNat_natCast,
        List.set_append_right _ _ (by rw [runI_len]; omega), runI_len, Nat.sub_self, List.drop_eq_getElem_cons (show i < l.length by omega), List.set_cons_zero]
      have := ih (i + 1) (by omega)
      rw [runI_snoc, List.append_assoc] at this
      exact this
theorem mark (l : List Int) (a : Int) (ha : 0 ≤ a) (hl : a + l.length ≤ 9223372036854775806) : Ev (fun k => laws_markIntS.f k l a) (a + l.length, runI a l.length) := by
  simp only [laws_markIntS.f]
  have := mark_loop l a ha hl l.length 0 (by omega)
  simpa [runI] using this
theorem held_loop (n : Nat) (a : Int) (ha : 0 ≤ a) (hl : a + n ≤ 9223372036854775806) : ∀ (d i : Nat), i + d = n →
    Ev (fun k => laws_heldIntS.l0 k (runI a n) (a + i) (i : Int)) (a + n) := by
  intro d
  induction d with
  | zero =>
    intro i hi
    refine Ev.step (fun k => by rw [laws_heldIntS.l0]) ?_
    obtain rfl : i = n := by omega
    refine ev_neg ?_ (Ev.now _)
    simp [runI_len]
  | succ d ih =>
    intro i hi
    refine Ev.step (fun k => by rw [laws_heldIntS.l0]) ?_
    refine ev_pos ?_ (ev_pos (by omega) (ev_pos ?_ ?_))
    · simp [runI_len]; omega
    · unfold rd; rw [Int.toNat_natCast, runI_get n a i (by omega)]
    · rw [show wrap64 ((i : Int) + 1) = ((i + 1 : Nat) : Int) by rw [w64 (by omega) (by omega)]; omega,
        show wrap64 (a + i + 1) = a + ((i + 1 : Nat) : Int) by rw [w64 (by omega) (by omega)]; omega]
      exact ih (i + 1) (by omega)
theorem held (n : Nat) (a : Int) (ha : 0 ≤ a) (hl : a + n ≤ 9223372036854775806) : Ev (fun k => laws_heldIntS.f k (runI a n) a) (a + n) := by
  simp only [laws_heldIntS.f]
  have := held_loop n a ha hl n 0 (by omega)
  simpa using this

theorem spec_sb (l : List Int) (s : ByteArray) (h : l.length ≤ 1048576) : Ev (fun _ : Nat => spec_ShaBlock.f l s) (Sha.shaB l s) := by
  simp only [spec_ShaBlock.f]; exact ev_pos (by omega) (Ev.now _)
theorem impl_sb (l : List Int) (s : ByteArray) (h : l.length ≤ 1048576) : Ev (fun _ : Nat => impl_ShaBlock.f l s) (Sha.shaB l s) := by
  simp only [impl_ShaBlock.f]; exact ev_pos (by omega) (Ev.now _)
theorem shaB_len (l : List Int) (s : ByteArray) : (Sha.shaB l s).length = l.length := by
  unfold Sha.shaB
  split
  · rename_i h
    rw [Sha.blkV, Sha.plusN_len]
  · rfl
theorem FnExactShaBlock : laws_FnExactShaBlock.Pure := by
  intro l0 a1 _ _ _ _
  refine Ev.rounds (g := fun k => laws_FnExactShaBlock.f k l0 a1) ?_
  simp only [laws_FnExactShaBlock.f]
  by_cases h0 : (l0.length : Int) > 1048576
  · exact ev_pos h0 (Ev.now _)
  refine ev_neg h0 ?_
  by_cases h1 : (a1.size : Int) > 1048576
  · exact ev_pos h1 (Ev.now _)
  refine ev_neg h1 ?_
  have hl : l0.length ≤ 1048576 := by omega
  have hs := shaB_len l0 a1
  obtain ⟨R, hR⟩ : ∃ R, Sha.shaB l0 a1 = R := ⟨_, rfl⟩
  have hsp := spec_sb l0 a1 hl
  have him := impl_sb l0 a1 hl
  rw [hR] at hsp him hs
  refine Ev.bind (toint l0 hl) (Ev.bind hsp (Ev.bind (toint l0 hl) (Ev.bind him (Ev.bind (eqint R (by omega)) (ev_pos rfl (Ev.bind (toint l0 hl) (Ev.bind (eqint l0 hl) (ev_pos rfl (Ev.bind (mark l0 1 (by omega) (by omega)) (ev_neg (by omega) (Ev.bind (eqint R (by omega)) ?_)))))))))))
  refine Ev.step (fun k => by rw [laws_FnExactShaBlock.j0]) ?_
  refine ev_neg (by decide) ?_
  refine Ev.bind (mark R 1 (by omega) (by omega)) (Ev.bind (held R.length 1 (by omega) (by omega)) (ev_neg (by omega) (ev_pos rfl ?_)))
  refine Ev.bind (toint l0 hl) (Ev.bind him (Ev.bind (eqint R (by omega)) (ev_pos rfl (Ev.bind (held R.length 1 (by omega) (by omega)) (ev_neg (by omega) (ev_pos rfl (Ev.now _)))))))

end Go.Proofs.YtekplhhkbeemnaaDoor.Pure

namespace Go.Proofs.YtekplhhkbeemnaaDoor.PrintWords
open Go.ChangeShapes Go.WideShapes
/-- The words' own, under the name by which the printed row calls it. -/
theorem sized_ints {H : Type} {enc : TypeId × Value → H} {P : Program} {W : World} {base : Nat} {spare : Nat → Bool} {held : Bool} {t e : TypeId} {k : IntKind} {a : Option Addr} {len cap : Nat} {d : DataW H} {ps : List MemPlace} {ts : List TypeId} {ds : List (DataW H)} {j : Nat}
    (hsz : (DataW.weightsEach P ts ds).all (· ≤ reachBytes) = true) (ht : ts[j]? = some t) (hd : ds[j]? = some d) (hu : P.underlying t = some (.slice e)) (he : P.underlying e = some (.int k)) (hc : P.cellsOf e = 1) {B : Nat} (hB : P.bytesOf e = B)
    (h : DataW.Trod enc P W base spare held t (.slice a len cap) d ps) : len * B ≤ 140737488351232 :=
  Go.Proofs.YtekplhhkbeemnaaDoorW.PrintWords.sized_ints hsz ht hd hu he hc hB h
end Go.Proofs.YtekplhhkbeemnaaDoor.PrintWords
