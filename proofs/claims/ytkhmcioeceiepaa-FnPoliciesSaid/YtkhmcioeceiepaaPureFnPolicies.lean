/- The law FnPolicies answers true for every input: of rules just those stay that are told all the way. -/
import Derived.Test.YtkhmcioeceiepaaGFnPoliciesx2
import Derived.Test.YtkhmcioeceiepaaWSized
set_option linter.unusedVariables false
set_option linter.unusedSimpArgs false
namespace Go.Proofs.Ytkhmcioeceiepaa.Pure
open Go.RowKit Go.Proofs.Ytkhmcioeceiepaa.GFnPolicies Go.Proofs.YtkhmcioeceiepaaW.PrintWords Go.Proofs.YtkhmcioeceiepaaW.PrintLast

theorem w64 {n : Int} (h0 : -9223372036854775808 ≤ n) (h1 : n ≤ 9223372036854775807) : wrap64 n = n := by unfold wrap64; omega
theorem ev_pos {α : Type} {c : Prop} [Decidable c] {f g : Nat → Option α} {r : α} (h : c) (k : Ev f r) : Ev (fun n => if c then f n else g n) r := by
  simpa only [if_pos h] using k
theorem ev_neg {α : Type} {c : Prop} [Decidable c] {f g : Nat → Option α} {r : α} (h : ¬ c) (k : Ev g r) : Ev (fun n => if c then f n else g n) r := by
  simpa only [if_neg h] using k
theorem tdivN (n m : Nat) : Int.tdiv (n : Int) (m : Int) = ((n / m : Nat) : Int) := rfl
theorem tmodN (n m : Nat) : Int.tmod (n : Int) (m : Int) = ((n % m : Nat) : Int) := rfl
theorem tdiv_pos' {n m : Int} (h : 0 ≤ n) : Int.tdiv n m = n / m := Int.tdiv_eq_ediv_of_nonneg h
theorem tmod_pos' {n m : Int} (h : 0 ≤ n) : Int.tmod n m = n % m := Int.tmod_eq_emod_of_nonneg h
theorem bt_rng (s : ByteArray) (i : Int) : 0 ≤ bt s i ∧ bt s i ≤ 255 := bt_range s i
theorem bt_bytes (s : ByteArray) (i : Nat) : bt s i = (bytesOf s).getD i 0 := (rd_bytesOf s i).symm
theorem drop_bytes (s : ByteArray) (i : Nat) (h : i < s.size) : (bytesOf s).drop i = bt s i :: (bytesOf s).drop (i + 1) := by
  have h' : i < (bytesOf s).length := by rw [bytesOf_length]; exact h
  rw [List.drop_eq_getElem_cons h', bt_bytes, List.getD_eq_getElem?_getD, List.getElem?_eq_getElem h']
  rfl

theorem and255 (x : Int) : 0 ≤ Go.bits .and .i64 x 255 ∧ Go.bits .and .i64 x 255 ≤ 255 := by
  have h : (BitVec.ofInt 64 x &&& BitVec.ofInt 64 255).toNat ≤ 255 := by
    rw [BitVec.toNat_and]
    exact Nat.le_trans Nat.and_le_right (by decide)
  have e : Go.bits .and .i64 x 255 = IntKind.i64.wrap ((BitVec.ofInt 64 x &&& BitVec.ofInt 64 255).toNat : Int) := rfl
  rw [e, IntKind.wrap_i64]
  omega
/-- The cursor's place lies in its bytes. -/
def In (l : List Int) (i : Int) : Prop := 0 ≤ i ∧ i ≤ l.length
theorem byte_ok (l : List Int) (i h : Int) (hl : l.length ≤ 1048576) (hi : In l i) : ∃ b i' h', spec_l01Byte.f l i h = some (b, i', h') ∧ In l i' ∧ 0 ≤ b ∧ b ≤ 255 := by
  unfold spec_l01Byte.f
  obtain ⟨h0, h1⟩ := hi
  by_cases hc : i < (l.length : Int)
  · rw [if_pos hc, if_pos h0]
    have e : wrap64 (i + 1) = i + 1 := w64 (by omega) (by omega)
    exact ⟨_, _, _, rfl, by rw [e]; exact ⟨by omega, by omega⟩, (and255 _).1, (and255 _).2⟩
  · rw [if_neg hc]
    exact ⟨_, _, _, rfl, ⟨h0, h1⟩, (and255 _).1, (and255 _).2⟩
theorem below_ok (l : List Int) (i h n : Int) (hl : l.length ≤ 1048576) (hi : In l i) : ∃ b i' h', spec_l01Below.f l i h n = some (b, i', h') ∧ In l i' ∧ (n ≤ 0 → b = 0) ∧ (0 < n → 0 ≤ b ∧ b < n) := by
  unfold spec_l01Below.f
  by_cases h0 : n ≤ 0
  · rw [if_pos h0]
    exact ⟨_, _, _, rfl, hi, fun _ => rfl, fun h => by omega⟩
  rw [if_neg h0]
  by_cases h1 : n ≤ 256
  · rw [if_pos h1]
    obtain ⟨b, i', h', e, hi', hb0, hb1⟩ := byte_ok l i h hl hi
    rw [e, Option.bind_some, if_neg (by omega)]
    refine ⟨_, _, _, rfl, hi', fun h => absurd h h0, fun _ => ?_⟩
    show 0 ≤ Int.tmod b n ∧ Int.tmod b n < n
    rw [tmod_pos' hb0]
    exact ⟨Int.emod_nonneg _ (by omega), Int.emod_lt_of_pos _ (by omega)⟩
  · rw [if_neg h1]
    obtain ⟨b1, i1, h1', e1, hi1, p1, q1⟩ := byte_ok l i h hl hi
    obtain ⟨b2, i2, h2', e2, hi2, p2, q2⟩ := byte_ok l i1 h1' hl hi1
    obtain ⟨b3, i3, h3', e3, hi3, p3, q3⟩ := byte_ok l i2 h2' hl hi2
    obtain ⟨b4, i4, h4', e4, hi4, p4, q4⟩ := byte_ok l i3 h3' hl hi3
    simp only [e1, e2, e3, e4, Option.bind_some]
    rw [if_neg (by omega)]
    refine ⟨_, _, _, rfl, hi4, fun h => absurd h h0, fun _ => ?_⟩
    have w1 : wrap64 (b1 * 16777216) = b1 * 16777216 := w64 (by omega) (by omega)
    have w2 : wrap64 (b2 * 65536) = b2 * 65536 := w64 (by omega) (by omega)
    have w3 : wrap64 (b3 * 256) = b3 * 256 := w64 (by omega) (by omega)
    rw [w1, w2, w3, w64 (n := b1 * 16777216 + b2 * 65536) (by omega) (by omega), w64 (n := b1 * 16777216 + b2 * 65536 + b3 * 256) (by omega) (by omega), w64 (n := b1 * 16777216 + b2 * 65536 + b3 * 256 + b4) (by omega) (by omega), tmod_pos' (by omega)]
    exact ⟨Int.emod_nonneg _ (by omega), Int.emod_lt_of_pos _ (by omega)⟩
theorem new_loop (l : List Int) (hl : l.length ≤ 1048576) : ∀ (d i : Nat), i + d = l.length → ∀ h : Int, ∃ h', Ev (fun k => spec_l01New.l0 k l h (i : Int)) (l, 0, h') := by
  intro d
  induction d with
  | zero =>
    intro i hi h
    exact ⟨h, Ev.step (fun k => by rw [spec_l01New.l0]) (ev_neg (by omega) (Ev.now _))⟩
  | succ d ih =>
    intro i hi h
    by_cases hc : (i : Int) < 4000
    · obtain ⟨h', e⟩ := ih (i + 1) (by omega) (Go.bits .and .i64 (wrap64 ((wrap64 ((wrap64 (h * 131)) + (wrap64 (rd l i)))) + 7)) 1073741823)
      refine ⟨h', Ev.step (fun k => by rw [spec_l01New.l0]) (ev_pos (by omega) (ev_pos hc (ev_pos (by omega) ?_)))⟩
      rw [show wrap64 ((i : Int) + 1) = ((i + 1 : Nat) : Int) by rw [w64 (by omega) (by omega)]; omega]
      exact e
    · exact ⟨h, Ev.step (fun k => by rw [spec_l01New.l0]) (ev_pos (by omega) (ev_neg hc (Ev.now _)))⟩
theorem new_ok (l : List Int) (hl : l.length ≤ 1048576) : ∃ h', Ev (fun k => spec_l01New.f k l) (l, 0, h') := by
  simp only [spec_l01New.f]
  exact new_loop l hl l.length 0 (by omega) _
theorem in_zero (l : List Int) : In l 0 := ⟨by omega, by omega⟩

theorem in_loop (l : List Int) (a : Int) (hl : l.length ≤ 1048576) : ∀ (d i : Nat), i + d = l.length → Ev (fun k => spec_l08In.l0 k l a (i : Int)) (decide (a ∈ l.drop i)) := by
  intro d
  induction d with
  | zero =>
    intro i hi
    refine Ev.step (fun k => by rw [spec_l08In.l0]) (ev_neg (by omega) ?_)
    rw [List.drop_of_length_le (by omega)]
    exact Ev.now _
  | succ d ih =>
    intro i hi
    have hil : i < l.length := by omega
    have hrd : rd l (i : Int) = l[i] := by simp [rd, List.getD_eq_getElem?_getD, List.getElem?_eq_getElem hil]
    have hdr : l.drop i = l[i] :: l.drop (i + 1) := List.drop_eq_getElem_cons hil
    refine Ev.step (fun k => by rw [spec_l08In.l0]) (ev_pos (by omega) (ev_pos (by omega) ?_))
    rw [hrd, show wrap64 ((i : Int) + 1) = ((i + 1 : Nat) : Int) by rw [w64 (by omega) (by omega)]; omega]
    by_cases hx : l[i] = a
    · refine ev_pos hx ?_
      rw [hdr, decide_eq_true (by rw [hx]; exact List.mem_cons_self)]
      exact Ev.now _
    · refine ev_neg hx ?_
      rw [hdr, show decide (a ∈ l[i] :: l.drop (i + 1)) = decide (a ∈ l.drop (i + 1)) by
        rw [decide_eq_decide, List.mem_cons]; exact ⟨fun h => h.resolve_left (fun e => hx e.symm), Or.inr⟩]
      exact ih (i + 1) (by omega)
theorem in_ev (l : List Int) (a : Int) (hl : l.length ≤ 1048576) : Ev (fun k => spec_l08In.f k l a) (decide (a ∈ l)) := by
  have := in_loop l a hl l.length 0 (by omega)
  rw [List.drop_zero] at this
  exact this
/-- What JoinPolicies answers. -/
def joinV (l0 : List Int) (a1 : Bool) (l2 : List Int) : List Int × Bool := if decide (0 ∈ l2) = true then (l0, a1) else if a1 = true then (l2, false) else (l2.filter fun x => decide (x ∈ l0), a1)
theorem join_loop (l0 : List Int) (a1 : Bool) (l2 : List Int) (h0 : l0.length ≤ 1048576) (h2 : l2.length ≤ 1048576) : ∀ (d i : Nat), i + d = l2.length → ∀ acc : List Int, acc.length ≤ i →
    Ev (fun k => spec_JoinPolicies.l0 k l0 a1 l2 acc (i : Int)) (acc ++ (l2.drop i).filter (fun x => a1 || decide (x ∈ l0)), false) := by
  intro d
  induction d with
  | zero =>
    intro i hi acc ha
    refine Ev.step (fun k => by rw [spec_JoinPolicies.l0]) (ev_neg (by omega) ?_)
    rw [List.drop_of_length_le (by omega), List.filter_nil, List.append_nil]
    exact Ev.now _
  | succ d ih =>
    intro i hi acc ha
    have hil : i < l2.length := by omega
    have hrd : rd l2 (i : Int) = l2[i] := by simp [rd, List.getD_eq_getElem?_getD, List.getElem?_eq_getElem hil]
    have hdr : l2.drop i = l2[i] :: l2.drop (i + 1) := List.drop_eq_getElem_cons hil
    refine Ev.step (fun k => by rw [spec_JoinPolicies.l0]) (ev_pos (by omega) ?_)
    rw [hrd, show wrap64 ((i : Int) + 1) = ((i + 1 : Nat) : Int) by rw [w64 (by omega) (by omega)]; omega, hdr]
    have i1 := ih (i + 1) (by omega) (acc ++ [l2[i]]) (by simp; omega)
    rw [List.append_assoc] at i1
    cases a1 with
    | true =>
      refine ev_pos rfl (ev_pos (by omega) (ev_pos (by omega) ?_))
      rw [List.filter_cons_of_pos (by simp)]
      exact i1
    | false =>
      refine ev_neg Bool.false_ne_true (ev_pos (by omega) (Ev.bind (in_ev l0 l2[i] h0) ?_))
      by_cases hx : l2[i] ∈ l0
      · rw [decide_eq_true hx]
        refine ev_pos rfl (ev_pos (by omega) ?_)
        rw [List.filter_cons_of_pos (by simpa using hx)]
        exact i1
      · rw [decide_eq_false hx]
        refine ev_neg Bool.false_ne_true ?_
        rw [List.filter_cons_of_neg (by simpa using hx)]
        exact ih (i + 1) (by omega) acc (by omega)
theorem spec_join (l0 : List Int) (a1 : Bool) (l2 : List Int) (h0 : l0.length ≤ 1048576) (h2 : l2.length ≤ 1048576) : Ev (fun k => spec_JoinPolicies.f k l0 a1 l2) (joinV l0 a1 l2) := by
  simp only [spec_JoinPolicies.f]
  refine Ev.bind (g := fun _ => some ([] : List Int)) (Ev.now _) (Ev.bind (in_ev l2 0 h2) ?_)
  unfold joinV
  by_cases hz : (0 : Int) ∈ l2
  · rw [decide_eq_true hz]
    exact ev_pos rfl (ev_pos (by simp; omega) (Ev.now _))
  · rw [decide_eq_false hz]
    refine ev_neg Bool.false_ne_true ?_
    have := join_loop l0 a1 l2 h0 h2 l2.length 0 (by omega) [] (by simp)
    rw [List.drop_zero, List.nil_append] at this
    cases a1 with
    | true =>
      have e : (l2.filter fun x => true || decide (x ∈ l0)) = l2 := by simp
      rw [e] at this
      exact this
    | false =>
      have e : (l2.filter fun x => false || decide (x ∈ l0)) = l2.filter fun x => decide (x ∈ l0) := by simp
      rw [e] at this
      exact this
theorem impl_join (l0 : List Int) (a1 : Bool) (l2 : List Int) (h0 : l0.length ≤ 1048576) (h2 : l2.length ≤ 1048576) : impl_JoinPolicies.f l0 a1 l2 = some (joinV l0 a1 l2) := by
  unfold impl_JoinPolicies.f joinV
  rw [if_pos (by omega), if_pos (by omega)]
theorem join_len (l0 : List Int) (a1 : Bool) (l2 : List Int) (h0 : l0.length ≤ 1048576) (h2 : l2.length ≤ 1048576) : (joinV l0 a1 l2).1.length ≤ 1048576 := by
  unfold joinV
  split
  · exact h0
  · split
    · exact h2
    · exact Nat.le_trans (List.length_filter_le _ _) h2

def pols : List (List Int) := [[0], [1, 2], [2], [0, 5], []]
theorem pol_ok (l : List Int) (i h : Int) (hl : l.length ≤ 1048576) (hi : In l i) : ∃ p i' h', spec_l08Policies.f l i h = some (p, i', h') ∧ In l i' ∧ p ∈ pols := by
  unfold spec_l08Policies.f
  obtain ⟨b, i', h', e, hi', _, hb⟩ := below_ok l i h 5 hl hi
  rw [e, Option.bind_some]
  show ∃ p i'' h'', (if b = 0 then some ([0], i', h') else if b = 1 then some ([1, 2], i', h') else if b = 2 then some ([2], i', h') else if b = 3 then some ([0, 5], i', h') else some ([], i', h')) = some (p, i'', h'') ∧ In l i'' ∧ p ∈ pols
  by_cases h0 : b = 0
  · rw [if_pos h0]; exact ⟨_, _, _, rfl, hi', by decide⟩
  rw [if_neg h0]
  by_cases h1 : b = 1
  · rw [if_pos h1]; exact ⟨_, _, _, rfl, hi', by decide⟩
  rw [if_neg h1]
  by_cases h2 : b = 2
  · rw [if_pos h2]; exact ⟨_, _, _, rfl, hi', by decide⟩
  rw [if_neg h2]
  by_cases h3 : b = 3
  · rw [if_pos h3]; exact ⟨_, _, _, rfl, hi', by decide⟩
  rw [if_neg h3]; exact ⟨_, _, _, rfl, hi', by decide⟩
theorem draw_join (l : List Int) (hl : l.length ≤ 1048576) : ∃ n a c, n ∈ pols ∧ c ∈ pols ∧ Ev (fun k => spec_DrawJoinPolicies.f k l) (n, a, c) := by
  simp only [spec_DrawJoinPolicies.f, spec_l01Once.f]
  obtain ⟨h0, e0⟩ := new_ok l hl
  obtain ⟨b1, i1, h1, e1, hi1, _, _⟩ := below_ok l 0 h0 2 hl (in_zero l)
  obtain ⟨p, i2, h2, e2, hi2, hp⟩ := pol_ok l i1 h1 hl hi1
  obtain ⟨c, i3, h3, e3, hi3, hc⟩ := pol_ok l i2 h2 hl hi2
  refine ⟨p, b1 == 0, c, hp, hc, Ev.bind e0 ?_⟩
  simp only [e1, Option.bind_some, e2, e3]
  exact Ev.now _
theorem same_ev (l : List Int) (hl : l.length ≤ 1048576) : Ev (fun k => laws_sameInts.f k l l) true := by
  have key : ∀ (d i : Nat), i + d = l.length → Ev (fun k => laws_sameInts.l0 k l l (i : Int)) true := by
    intro d
    induction d with
    | zero =>
      intro i hi
      exact Ev.step (fun k => by rw [laws_sameInts.l0]) (ev_neg (by omega) (Ev.now _))
    | succ d ih =>
      intro i hi
      refine Ev.step (fun k => by rw [laws_sameInts.l0]) (ev_pos (by omega) (ev_pos (by omega) (ev_pos (by omega) (ev_pos rfl ?_))))
      rw [show wrap64 ((i : Int) + 1) = ((i + 1 : Nat) : Int) by rw [w64 (by omega) (by omega)]; omega]
      exact ih (i + 1) (by omega)
  simp only [laws_sameInts.f]
  exact ev_pos trivial (key l.length 0 (by omega))
theorem pols_len (p : List Int) (h : p ∈ pols) : p.length ≤ 2 := (show ∀ q ∈ pols, q.length ≤ 2 by decide) p h
theorem join_again (n c : List Int) (a : Bool) (hn : n ∈ pols) (hc : c ∈ pols) : joinV (joinV n a c).1 (joinV n a c).2 c = joinV n a c :=
  (show ∀ n ∈ pols, ∀ c ∈ pols, ∀ a : Bool, joinV (joinV n a c).1 (joinV n a c).2 c = joinV n a c by decide) n hn c hc a
theorem join_zero (n : List Int) (a : Bool) : joinV n a [0] = (n, a) := by
  unfold joinV
  rw [if_pos (by decide)]
theorem join_short (n c : List Int) (hn : n ∈ pols) (hc : c ∈ pols) : (joinV n false c).1.length ≤ n.length :=
  (show ∀ n ∈ pols, ∀ c ∈ pols, (joinV n false c).1.length ≤ n.length by decide) n hn c hc
theorem FnPolicies : laws_FnPolicies.Pure := by
  intro l _ _ _
  refine Ev.rounds (g := fun k => laws_FnPolicies.f k l) ?_
  simp only [laws_FnPolicies.f, laws_big.f]
  refine Ev.bind (g := fun _ => some (decide ((l.length : Int) > 1048576))) (Ev.now _) ?_
  by_cases hb : (l.length : Int) > 1048576
  · exact ev_pos (decide_eq_true hb) (Ev.now _)
  refine ev_neg (by simpa using hb) ?_
  obtain ⟨n, a, c, hn, hc, e⟩ := draw_join l (by omega)
  have ln := pols_len n hn
  have lc := pols_len c hc
  have hj := join_len n a c (by omega) (by omega)
  have i1 : Ev (fun _ => impl_JoinPolicies.f n a c) (joinV n a c) := by rw [impl_join n a c (by omega) (by omega)]; exact Ev.now _
  have i2 : Ev (fun _ => impl_JoinPolicies.f n a [0]) (n, a) := by rw [impl_join n a [0] (by omega) (by simp), join_zero]; exact Ev.now _
  have i3 : Ev (fun _ => impl_JoinPolicies.f (joinV n a c).1 (joinV n a c).2 c) (joinV n a c) := by rw [impl_join _ _ c hj (by omega), join_again n c a hn hc]; exact Ev.now _
  refine Ev.bind e (Ev.bind i1 (Ev.bind (spec_join n a c (by omega) (by omega)) (Ev.bind i2 (Ev.bind i3 (Ev.bind (same_ev _ hj) (ev_pos rfl ?_))))))
  refine ev_pos (by simp) (Ev.bind (same_ev n (by omega)) (ev_pos rfl (ev_pos (by simp) (Ev.bind (same_ev _ hj) (ev_pos rfl (ev_pos (by simp) ?_))))))
  cases a with
  | true => exact ev_pos rfl (Ev.now _)
  | false =>
    have := join_short n c hn hc
    exact ev_neg Bool.false_ne_true (ev_pos (by show ((joinV n false c).1.length : Int) ≤ (n.length : Int); omega) (Ev.now _))

end Go.Proofs.Ytkhmcioeceiepaa.Pure

namespace Go.Proofs.Ytkhmcioeceiepaa.PrintWords
open Go.ChangeShapes Go.WideShapes
/-- The words' own, under the name by which the printed row calls it. -/
theorem sized_ints {H : Type} {enc : TypeId × Value → H} {P : Program} {W : World} {base : Nat} {spare : Nat → Bool} {held : Bool} {t e : TypeId} {k : IntKind} {a : Option Addr} {len cap : Nat} {d : DataW H} {ps : List MemPlace} {ts : List TypeId} {ds : List (DataW H)} {j : Nat}
    (hsz : (DataW.weightsEach P ts ds).all (· ≤ reachBytes) = true) (ht : ts[j]? = some t) (hd : ds[j]? = some d) (hu : P.underlying t = some (.slice e)) (he : P.underlying e = some (.int k)) (hc : P.cellsOf e = 1) {B : Nat} (hB : P.bytesOf e = B)
    (h : DataW.Trod enc P W base spare held t (.slice a len cap) d ps) : len * B ≤ 140737488351232 :=
  Go.Proofs.YtkhmcioeceiepaaW.PrintWords.sized_ints hsz ht hd hu he hc hB h
end Go.Proofs.Ytkhmcioeceiepaa.PrintWords
