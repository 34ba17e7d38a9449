/- The law FnExactPoliciesOk answers true for every argument: the program's PoliciesOk and the reference's come to the same answer. -/
import Derived.Test.YtjbpollbjkkniaaPFnExactPoliciesOkx1
import Derived.Test.YtjbpollbjkkniaaWSized
set_option linter.unusedVariables false
set_option linter.unusedSimpArgs false
namespace Go.Proofs.Ytjbpollbjkkniaa.Pure
open Go.RowKit Go.Proofs.Ytjbpollbjkkniaa.PFnExactPoliciesOk Go.Proofs.YtjbpollbjkkniaaW.PrintWords Go.Proofs.YtjbpollbjkkniaaW.PrintLast

theorem w64 {n : Int} (h0 : -9223372036854775808 ≤ n) (h1 : n ≤ 9223372036854775807) : wrap64 n = n := by unfold wrap64; omega
theorem ev_pos {α : Type} {c : Prop} [Decidable c] {f g : Nat → Option α} {r : α} (h : c) (k : Ev f r) : Ev (fun n => if c then f n else g n) r := by
  simpa only [if_pos h] using k
theorem ev_neg {α : Type} {c : Prop} [Decidable c] {f g : Nat → Option α} {r : α} (h : ¬ c) (k : Ev g r) : Ev (fun n => if c then f n else g n) r := by
  simpa only [if_neg h] using k
theorem tdivN (n m : Nat) : Int.tdiv (n : Int) (m : Int) = ((n / m : Nat) : Int) := rfl
theorem tmodN (n m : Nat) : Int.tmod (n : Int) (m : Int) = ((n % m : Nat) : Int) := rfl
theorem tdiv_pos' {n m : Int} (h : 0 ≤ n) : Int.tdiv n m = n / m := Int.tdiv_eq_ediv_of_nonneg h
theorem tmod_pos' {n m : Int} (h : 0 ≤ n) : Int.tmod n m = n % m := Int.tmod_eq_emod_of_nonneg h
theorem bt_rng (s : ByteArray) (i : Int) : 0 ≤ bt s i ∧ bt s i ≤ 255 := bt_range s i
theorem bt_bytes (s : ByteArray) (i : Nat) : bt s i = (bytesOf s).getD i 0 := (rd_bytesOf s i).symm
theorem drop_bytes (s : ByteArray) (i : Nat) (h : i < s.size) : (bytesOf s).drop i = bt s i :: (bytesOf s).drop (i + 1) := by
  have h' : i < (bytesOf s).length := by rw [bytesOf_length]; exact h
  rw [List.drop_eq_getElem_cons h', bt_bytes, List.getD_eq_getElem?_getD, List.getElem?_eq_getElem h']
  rfl

theorem set_snoc (l : List Int) (i : Nat) (t : Int) (tl : List Int) (h : i < l.length) : (l.take i ++ t :: tl).set i (rd l i) = l.take (i + 1) ++ tl := by
  have hl : (l.take i).length = i := by rw [List.length_take]; omega
  have hr : rd l i = l[i] := by simp [rd, List.getD_eq_getElem?_getD, List.getElem?_eq_getElem h]
  rw [List.set_append_right _ _ (by omega), hl, Nat.sub_self, List.set_cons_zero, hr, List.take_succ_eq_append_getElem h, List.append_assoc]
  rfl
theorem toint_loop (l : List Int) (hl : l.length ≤ 1048576) : ∀ (d i : Nat) (tl : List Int), tl.length = d → i + d = l.length → Ev (fun k => laws_toIntS.l0 k l (l.take i ++ tl) (i : Int)) l := by
  intro d
  induction d with
  | zero =>
    intro i tl ht hi
    obtain rfl : tl = [] := List.eq_nil_of_length_eq_zero ht
    refine Ev.step (fun k => by rw [laws_toIntS.l0]) ?_
    refine ev_neg (by omega) ?_
    rw [List.append_nil, List.take_of_length_le (by omega)]
    exact Ev.now _
  | succ d ih =>
    intro i tl ht hi
    obtain ⟨t, tl, rfl⟩ : ∃ t tl', tl = t :: tl' := by cases tl with | nil => simp at ht | cons t tl => exact ⟨t, tl, rfl⟩
    refine Ev.step (fun k => by rw [laws_toIntS.l0]) ?_
    refine ev_pos (by omega) (ev_pos (by omega) (ev_pos ?_ ?_))
    · simp at ht; simp [List.length_take]; omega
    · rw [show wrap64 ((i : Int) + 1) = ((i + 1 : Nat) : Int) by rw [w64 (by omega) (by omega)]; omega, Int.toNat_natCast, set_snoc l i t tl (by omega)]
      exact ih (i + 1) tl (by simpa using ht) (by omega)
theorem toint (l : List Int) (hl : l.length ≤ 1048576) : Ev (fun k => laws_toIntS.f k l) l := by
  simp only [laws_toIntS.f]
  refine ev_pos (by omega) (ev_pos (by omega) ?_)
  have := toint_loop l hl l.length 0 (List.replicate l.length 0) (by simp) (by omega)
  simpa using this

theorem eqint_loop (l : List Int) (hl : l.length ≤ 1048576) : ∀ (d i : Nat), i + d = l.length → Ev (fun k => laws_eqIntS.l0 k l l (i : Int)) true := by
  intro d
  induction d with
  | zero =>
    intro i hi
    refine Ev.step (fun k => by rw [laws_eqIntS.l0]) ?_
    exact ev_neg (by omega) (Ev.now _)
  | succ d ih =>
    intro i hi
    refine Ev.step (fun k => by rw [laws_eqIntS.l0]) ?_
    refine ev_pos (by omega) (ev_pos (by omega) (ev_pos (by omega) (ev_pos rfl ?_)))
    rw [show wrap64 ((i : Int) + 1) = ((i + 1 : Nat) : Int) by rw [w64 (by omega) (by omega)]; omega]
    exact ih (i + 1) (by omega)
theorem eqint (l : List Int) (hl : l.length ≤ 1048576) : Ev (fun k => laws_eqIntS.f k l l) true := by
  simp only [laws_eqIntS.f]
  refine ev_pos trivial ?_
  exact eqint_loop l hl l.length 0 (by omega)

theorem ok_loop (l : List Int) (hl : l.length ≤ 1048576) : ∀ (d i : Nat), i + d = l.length → ∃ r, Ev (fun k => spec_PoliciesOk.l0 k l (i : Int)) r ∧ Ev (fun k => impl_PoliciesOk.l0 k l l (l.length : Int) (i : Int)) r := by
  intro d
  induction d with
  | zero =>
    intro i hi
    exact ⟨_, Ev.step (fun k => by rw [spec_PoliciesOk.l0]) (ev_neg (by omega) (Ev.now _)), Ev.step (fun k => by rw [impl_PoliciesOk.l0]) (ev_neg (by omega) (Ev.now _))⟩
  | succ d ih =>
    intro i hi
    obtain ⟨r, h1, h2⟩ := ih (i + 1) (by omega)
    have e : wrap64 ((i : Int) + 1) = ((i + 1 : Nat) : Int) := by rw [w64 (by omega) (by omega)]; omega
    have e' : wrap64 ((i : Int) - 1) = (i : Int) - 1 := w64 (by omega) (by omega)
    obtain ⟨b, hb1, hb2⟩ : ∃ b, spec_l01In.f (rd l i) 0 99 = some b ∧ impl_within.f (rd l i) 0 99 = some b := by
      unfold spec_l01In.f impl_within.f
      split
      · exact ⟨_, rfl, rfl⟩
      · exact ⟨_, rfl, rfl⟩
    suffices h : ∃ q, Ev (fun k => if b = true then (if (i : Int) > 0 then (if 0 ≤ (wrap64 ((i : Int) - 1)) then (if (wrap64 ((i : Int) - 1)) < (l.length : Int) then (if (rd l (wrap64 ((i : Int) - 1))) ≥ (rd l i) then (some false) else (spec_PoliciesOk.l0 k l (wrap64 ((i : Int) + 1)))) else (none)) else (none)) else (spec_PoliciesOk.l0 k l (wrap64 ((i : Int) + 1)))) else (some false)) q ∧ Ev (fun k => if b = true then (if (i : Int) > 0 then (if 0 ≤ (wrap64 ((i : Int) - 1)) then (if (wrap64 ((i : Int) - 1)) < (l.length : Int) then (if (rd l (wrap64 ((i : Int) - 1))) ≥ (rd l i) then (some false) else (impl_PoliciesOk.l0 k l l (l.length : Int) (wrap64 ((i : Int) + 1)))) else (none)) else (none)) else (impl_PoliciesOk.l0 k l l (l.length : Int) (wrap64 ((i : Int) + 1)))) else (some false)) q by
      obtain ⟨q, g1, g2⟩ := h
      refine ⟨q, Ev.step (fun k => by rw [spec_PoliciesOk.l0]) (ev_pos (by omega) (ev_pos (by omega) ?_)), Ev.step (fun k => by rw [impl_PoliciesOk.l0]) (ev_pos (by omega) (ev_pos (by omega) (ev_pos (by omega) ?_)))⟩
      · rw [hb1]; exact g1
      · rw [hb2]; exact g2
    rw [e, e']
    cases b
    · exact ⟨_, ev_neg (by simp) (Ev.now _), ev_neg (by simp) (Ev.now _)⟩
    · by_cases g0 : (i : Int) > 0
      · by_cases g1 : rd l ((i : Int) - 1) ≥ rd l i
        · exact ⟨_, ev_pos rfl (ev_pos g0 (ev_pos (by omega) (ev_pos (by omega) (ev_pos g1 (Ev.now _))))), ev_pos rfl (ev_pos g0 (ev_pos (by omega) (ev_pos (by omega) (ev_pos g1 (Ev.now _)))))⟩
        · exact ⟨_, ev_pos rfl (ev_pos g0 (ev_pos (by omega) (ev_pos (by omega) (ev_neg g1 h1)))), ev_pos rfl (ev_pos g0 (ev_pos (by omega) (ev_pos (by omega) (ev_neg g1 h2))))⟩
      · exact ⟨_, ev_pos rfl (ev_neg g0 h1), ev_pos rfl (ev_neg g0 h2)⟩
theorem FnExactPoliciesOk : laws_FnExactPoliciesOk.Pure := by
  intro l _ _ _
  refine Ev.rounds (g := fun k => laws_FnExactPoliciesOk.f k l) ?_
  simp only [laws_FnExactPoliciesOk.f]
  by_cases hb : (l.length : Int) > 1048576
  · exact ev_pos hb (Ev.now _)
  · obtain ⟨r, h1, h2⟩ := ok_loop l (by omega) l.length 0 (by omega)
    have ht := toint l (by omega)
    refine ev_neg hb (Ev.bind ht (Ev.bind h1 (Ev.bind ht (Ev.bind h2 (ev_neg (by simp) (Ev.bind ht (Ev.bind (eqint l (by omega)) (ev_pos rfl (Ev.now _)))))))))

end Go.Proofs.Ytjbpollbjkkniaa.Pure

namespace Go.Proofs.Ytjbpollbjkkniaa.PrintWords
open Go.ChangeShapes Go.WideShapes
/-- The words' own, under the name by which the printed row calls it. -/
theorem sized_ints {H : Type} {enc : TypeId × Value → H} {P : Program} {W : World} {base : Nat} {spare : Nat → Bool} {held : Bool} {t e : TypeId} {k : IntKind} {a : Option Addr} {len cap : Nat} {d : DataW H} {ps : List MemPlace} {ts : List TypeId} {ds : List (DataW H)} {j : Nat}
    (hsz : (DataW.weightsEach P ts ds).all (· ≤ reachBytes) = true) (ht : ts[j]? = some t) (hd : ds[j]? = some d) (hu : P.underlying t = some (.slice e)) (he : P.underlying e = some (.int k)) (hc : P.cellsOf e = 1) {B : Nat} (hB : P.bytesOf e = B)
    (h : DataW.Trod enc P W base spare held t (.slice a len cap) d ps) : len * B ≤ 140737488351232 :=
  Go.Proofs.YtjbpollbjkkniaaW.PrintWords.sized_ints hsz ht hd hu he hc hB h
end Go.Proofs.Ytjbpollbjkkniaa.PrintWords
