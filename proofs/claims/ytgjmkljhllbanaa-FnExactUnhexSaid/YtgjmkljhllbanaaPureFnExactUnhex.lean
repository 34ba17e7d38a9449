/- The law FnExactUnhex answers true for every argument: the program's Unhex and the reference's come to the same answer. -/
import Derived.Test.YtgjmkljhllbanaaGFnExactUnhexx1
set_option linter.unusedVariables false
set_option linter.unusedSimpArgs false
namespace Go.Proofs.Ytgjmkljhllbanaa.Pure
open Go.RowKit Go.Proofs.Ytgjmkljhllbanaa.GFnExactUnhex Go.Proofs.YtgjmkljhllbanaaW.PrintWords Go.Proofs.YtgjmkljhllbanaaW.PrintLast

theorem w64 {n : Int} (h0 : -9223372036854775808 ≤ n) (h1 : n ≤ 9223372036854775807) : wrap64 n = n := by unfold wrap64; omega
theorem ev_pos {α : Type} {c : Prop} [Decidable c] {f g : Nat → Option α} {r : α} (h : c) (k : Ev f r) : Ev (fun n => if c then f n else g n) r := by
  simpa only [if_pos h] using k
theorem ev_neg {α : Type} {c : Prop} [Decidable c] {f g : Nat → Option α} {r : α} (h : ¬ c) (k : Ev g r) : Ev (fun n => if c then f n else g n) r := by
  simpa only [if_neg h] using k
theorem tdivN (n m : Nat) : Int.tdiv (n : Int) (m : Int) = ((n / m : Nat) : Int) := rfl
theorem tmodN (n m : Nat) : Int.tmod (n : Int) (m : Int) = ((n % m : Nat) : Int) := rfl
theorem tdiv_pos' {n m : Int} (h : 0 ≤ n) : Int.tdiv n m = n / m := Int.tdiv_eq_ediv_of_nonneg h
theorem tmod_pos' {n m : Int} (h : 0 ≤ n) : Int.tmod n m = n % m := Int.tmod_eq_emod_of_nonneg h
theorem bt_rng (s : ByteArray) (i : Int) : 0 ≤ bt s i ∧ bt s i ≤ 255 := bt_range s i
theorem bt_bytes (s : ByteArray) (i : Nat) : bt s i = (bytesOf s).getD i 0 := (rd_bytesOf s i).symm
theorem drop_bytes (s : ByteArray) (i : Nat) (h : i < s.size) : (bytesOf s).drop i = bt s i :: (bytesOf s).drop (i + 1) := by
  have h' : i < (bytesOf s).length := by rw [bytesOf_length]; exact h
  rw [List.drop_eq_getElem_cons h', bt_bytes, List.getD_eq_getElem?_getD, List.getElem?_eq_getElem h']
  rfl

def bN (s : ByteArray) : List Nat := s.data.toList.map UInt8.toNat
theorem bN_len (s : ByteArray) : (bN s).length = s.size := by rw [bN, List.length_map, Array.length_toList]; rfl
theorem bN_lt (s : ByteArray) : ∀ b ∈ bN s, b < 256 := by
  intro b hb
  obtain ⟨c, _, rfl⟩ := List.mem_map.1 hb
  exact c.toNat_lt
theorem bt_bN (s : ByteArray) (i : Nat) : bt s i = ((bN s).getD i 0 : Nat) := by
  unfold bt bN
  split
  · rename_i h
    have h' : i < s.data.toList.length := by rw [Array.length_toList]; exact h
    simp [List.getD_eq_getElem?_getD, List.getElem?_eq_getElem h']
    rfl
  · rename_i h
    have h' : s.data.toList.length ≤ i := by rw [Array.length_toList]; simpa using h
    simp [List.getD_eq_getElem?_getD, List.getElem?_eq_none h']
theorem bN_toList (s : ByteArray) : s.toList = (bN s).map UInt8.ofNat := by
  rw [ByteArray.toList_eq, bN, List.map_map]
  symm
  exact (List.map_congr_left (fun b _ => by simp)).trans (List.map_id _)
theorem drop_get (l : List Nat) (i : Nat) (pre : List Nat) (c : Nat) (rest : List Nat) (h : l.drop i = pre ++ c :: rest) : l.getD (i + pre.length) 0 = c := by
  have h2 : (l.drop i)[pre.length]? = some c := by rw [h, List.getElem?_append_right (Nat.le_refl _)]; simp
  rw [List.getElem?_drop] at h2
  rw [List.getD_eq_getElem?_getD, h2]; rfl

def hexV (n : Nat) : Int := if 48 ≤ n ∧ n ≤ 57 then (n : Int) - 48 else if 97 ≤ n ∧ n ≤ 102 then (n : Int) - 87 else -1
def figs : List UInt8 := [48, 49, 50, 51, 52, 53, 54, 55, 56, 57, 97, 98, 99, 100, 101, 102]
theorem index_hex (n : Nat) (h : n < 256) : Lib.indexByte figs n.toUInt8 = hexV n :=
  (show ∀ k : Fin 256, Lib.indexByte figs (k : Nat).toUInt8 = hexV k by decide +kernel) ⟨n, h⟩
theorem index_ev (n : Nat) (h : n < 256) : strings_IndexByte.f (⟨#[48, 49, 50, 51, 52, 53, 54, 55, 56, 57, 97, 98, 99, 100, 101, 102]⟩ : ByteArray) (n : Int) = some (hexV n) := by
  unfold strings_IndexByte.f
  rw [Int.toNat_natCast]
  exact congrArg some (index_hex n h)
theorem hexV_rng (n : Nat) : -1 ≤ hexV n ∧ hexV n ≤ 15 := by
  unfold hexV
  split
  · omega
  · split <;> omega
theorem value_ev (n : Nat) (h : n < 256) : Ev (fun k => spec_l01Value.f k (n : Int)) (hexV n) := by
  simp only [spec_l01Value.f]
  have e0 : wrap64 (n : Int) = (n : Int) := w64 (by omega) (by omega)
  have no : ¬ (48 ≤ n ∧ n ≤ 57) → Ev (fun k => spec_l01Value.j0 k (n : Int) false) (hexV n) := by
    intro hn
    refine Ev.step (fun k => by rw [spec_l01Value.j0]) ?_
    refine ev_neg Bool.false_ne_true ?_
    unfold hexV
    rw [if_neg hn, e0]
    by_cases h1 : 97 ≤ n
    · refine ev_pos (by omega) ?_
      by_cases h2 : n ≤ 102
      · refine ev_pos (by omega) ?_
        rw [if_pos ⟨h1, h2⟩, w64 (n := (n : Int) - 97) (by omega) (by omega), w64 (by omega) (by omega)]
        rw [show (n : Int) - 97 + 10 = (n : Int) - 87 by omega]
        exact Ev.now _
      · refine ev_neg (by omega) ?_
        rw [if_neg (fun h => h2 h.2)]
        exact Ev.now _
    · refine ev_neg (by omega) ?_
      rw [if_neg (fun h => h1 h.1)]
      exact Ev.now _
  by_cases h1 : 48 ≤ n
  · refine ev_pos (by omega) ?_
    by_cases h2 : n ≤ 57
    · rw [show decide ((n : Int) ≤ 57) = true by simp; omega]
      refine Ev.step (fun k => by rw [spec_l01Value.j0]) ?_
      refine ev_pos rfl ?_
      unfold hexV
      rw [if_pos ⟨h1, h2⟩, e0, w64 (by omega) (by omega)]
      exact Ev.now _
    · rw [show decide ((n : Int) ≤ 57) = false by simp; omega]
      exact no (fun h => h2 h.2)
  · exact ev_neg (by omega) (no (fun h => h1 h.1))
def unhexL : List Nat → Option (List Int)
  | a :: b :: r => if hexV a < 0 ∨ hexV b < 0 then none else (unhexL r).map ((((16 * hexV a + hexV b) % 256)) :: ·)
  | _ => some []
def unE (acc : List Int) : Option (List Int) → ByteArray × Bool
  | none => (⟨#[]⟩, false)
  | some l => (strOfNums (acc ++ l), true)
theorem getD_two (l : List Nat) (i a b : Nat) (r : List Nat) (h : l.drop i = a :: b :: r) : l.getD i 0 = a ∧ l.getD (i + 1) 0 = b ∧ l.drop (i + 2) = r ∧ i + 2 ≤ l.length := by
  have h0 : (l.drop i)[0]? = some a := by rw [h]; rfl
  have h1 : (l.drop i)[1]? = some b := by rw [h]; rfl
  have h2 : (l.drop i).drop 2 = r := by rw [h]; rfl
  have h3 := congrArg List.length h
  rw [List.getElem?_drop] at h0 h1
  rw [List.drop_drop] at h2
  simp only [List.length_drop, List.length_cons] at h3
  refine ⟨by rw [List.getD_eq_getElem?_getD, show l[i]? = some a from h0]; rfl, by rw [List.getD_eq_getElem?_getD, h1]; rfl, h2, by omega⟩
theorem unE_cons (acc : List Int) (x : Int) (o : Option (List Int)) : unE acc (o.map (x :: ·)) = unE (acc ++ [x]) o := by
  cases o with
  | none => rfl
  | some l => simp [unE]
theorem both_un (s : ByteArray) (hs : s.size ≤ 40000) (he : s.size % 2 = 0) : ∀ (d i : Nat), 2 * d + i = s.size → ∀ (acc : List Int) (hf : Int), acc.length ≤ i →
    Ev (fun k => spec_Unhex.l0 k s acc (i : Int)) (unE acc (unhexL ((bN s).drop i))) ∧ Ev (fun k => impl_Unhex.l0 k s acc hf (i : Int)) (unE acc (unhexL ((bN s).drop i))) := by
  intro d
  induction d with
  | zero =>
    intro i hi acc hf ha
    rw [List.drop_of_length_le (by rw [bN_len]; omega)]
    refine ⟨Ev.step (fun k => by rw [spec_Unhex.l0]) (ev_neg (by omega) ?_), Ev.step (fun k => by rw [impl_Unhex.l0]) (ev_neg (by omega) ?_)⟩
    · simp only [unhexL, unE, List.append_nil]; exact Ev.now _
    · simp only [unhexL, unE, List.append_nil]; exact Ev.now _
  | succ d ih =>
    intro i hi acc hf ha
    obtain ⟨a, b, r, hr⟩ : ∃ a b r, (bN s).drop i = a :: b :: r := by
      have hl : ((bN s).drop i).length = 2 * d + 2 := by rw [List.length_drop, bN_len]; omega
      match hx : (bN s).drop i, hl with
      | a :: b :: r, _ => exact ⟨a, b, r, rfl⟩
    obtain ⟨ga, gb, gr, gl⟩ := getD_two _ _ _ _ _ hr
    have ha2 : a < 256 := bN_lt s a (List.mem_of_mem_drop (i := i) (by rw [hr]; simp))
    have hb2 : b < 256 := bN_lt s b (List.mem_of_mem_drop (i := i) (by rw [hr]; simp))
    have ba : bt s (i : Int) = (a : Int) := by rw [bt_bN, ga]
    have bb : bt s ((i + 1 : Nat) : Int) = (b : Int) := by rw [bt_bN, gb]
    have e1 : wrap64 ((i : Int) + 1) = ((i + 1 : Nat) : Int) := by rw [w64 (by omega) (by omega)]; omega
    have e2 : wrap64 ((i : Int) + 2) = ((i + 2 : Nat) : Int) := by rw [w64 (by omega) (by omega)]; omega
    have e3 : wrap64 (((i + 1 : Nat) : Int) + 1) = ((i + 2 : Nat) : Int) := by rw [w64 (by omega) (by omega)]; omega
    have qa := hexV_rng a
    have qb := hexV_rng b
    have e4 : 0 ≤ hexV a → 0 ≤ hexV b → wrap64 (wrap64 (16 * hexV a) + hexV b) % 256 = (16 * hexV a + hexV b) % 256 := by
      intro _ _
      rw [w64 (n := 16 * hexV a) (by omega) (by omega), w64 (by omega) (by omega)]
    have p1 : i % 2 = 0 := by omega
    have t1 : Int.tmod (i : Int) 2 = 0 := by rw [tmod_pos' (by omega)]; omega
    have t2 : Int.tmod ((i + 1 : Nat) : Int) 2 = 1 := by rw [tmod_pos' (by omega)]; omega
    have hval : unhexL (a :: b :: r) = if hexV a < 0 ∨ hexV b < 0 then none else (unhexL r).map ((((16 * hexV a + hexV b) % 256)) :: ·) := by rw [unhexL]
    have ih2 := fun hf2 => ih (i + 2) (by omega) (acc ++ [(16 * hexV a + hexV b) % 256]) hf2 (by simp; omega)
    rw [gr] at ih2
    rw [hr]
    constructor
    · refine Ev.step (fun k => by rw [spec_Unhex.l0]) ?_
      rw [ba, e1, bb, e2]
      refine ev_pos (by omega) (ev_pos (by omega) (Ev.bind (value_ev a ha2) (ev_pos (by omega) (ev_pos (by omega) (Ev.bind (value_ev b hb2) ?_)))))
      by_cases h1 : hexV a < 0
      · refine ev_pos h1 ?_
        rw [hval, if_pos (.inl h1)]
        exact Ev.now _
      refine ev_neg h1 ?_
      by_cases h2 : hexV b < 0
      · refine ev_pos h2 ?_
        rw [hval, if_pos (.inr h2)]
        exact Ev.now _
      refine ev_neg h2 (ev_pos (by omega) ?_)
      rw [hval, if_neg (by omega), unE_cons, e4 (by omega) (by omega)]
      exact (ih2 hf).1
    · refine Ev.step (fun k => by rw [impl_Unhex.l0]) ?_
      rw [ba, index_ev a ha2, t1, e1]
      refine ev_pos (by omega) (ev_pos (by omega) (Ev.bind (g := fun _ => some (hexV a)) (Ev.now _) ?_))
      by_cases h1 : hexV a < 0
      · refine ev_pos h1 ?_
        rw [hval, if_pos (.inl h1)]
        exact Ev.now _
      refine ev_neg h1 (ev_neg (by omega) ?_)
      refine Ev.step (fun k => by rw [impl_Unhex.l0]) ?_
      rw [bb, index_ev b hb2, t2, e3]
      refine ev_pos (by omega) (ev_pos (by omega) (Ev.bind (g := fun _ => some (hexV b)) (Ev.now _) ?_))
      by_cases h2 : hexV b < 0
      · refine ev_pos h2 ?_
        rw [hval, if_pos (.inr h2)]
        exact Ev.now _
      refine ev_neg h2 (ev_pos rfl (ev_pos (by omega) ?_))
      rw [hval, if_neg (by omega), unE_cons, e4 (by omega) (by omega)]
      exact (ih2 (hexV b)).2
theorem FnExactUnhex : laws_FnExactUnhex.Pure := by
  intro s h1
  refine Ev.rounds (g := fun k => laws_FnExactUnhex.f k s) ?_
  simp only [laws_FnExactUnhex.f]
  by_cases hb : (s.size : Int) > 1048576
  · exact ev_pos hb (Ev.now _)
  refine ev_neg hb ?_
  suffices h : ∃ r, Ev (fun k => spec_Unhex.f k s) r ∧ Ev (fun k => impl_Unhex.f k s) r by
    obtain ⟨r, e1, e2⟩ := h
    refine Ev.bind e1 (Ev.bind e2 ?_)
    simp
    exact Ev.now _
  have st : Ev (fun k => spec_Unhex.j0 k s true) ((⟨#[]⟩ : ByteArray), false) := Ev.step (fun k => by rw [spec_Unhex.j0]) (ev_pos rfl (Ev.now _))
  have it : Ev (fun k => impl_Unhex.j0 k s true) ((⟨#[]⟩ : ByteArray), false) := Ev.step (fun k => by rw [impl_Unhex.j0]) (ev_pos rfl (Ev.now _))
  simp only [spec_Unhex.f, impl_Unhex.f]
  by_cases h2 : s.size % 2 = 0
  · rw [show (((s.size : Int) % 2) != 0) = false by simp; omega]
    by_cases h3 : s.size ≤ 40000
    · rw [show decide ((s.size : Int) > 40000) = false by simp; omega]
      have := both_un s h3 h2 (s.size / 2) 0 (by omega) [] 0 (by simp)
      have t1 : Ev (fun k => spec_Unhex.l0 k s [] 0) (unE [] (unhexL ((bN s).drop 0))) := this.1
      have t2 : Ev (fun k => impl_Unhex.l0 k s [] 0 0) (unE [] (unhexL ((bN s).drop 0))) := this.2
      exact ⟨_, ev_neg (by omega) (Ev.step (fun k => by rw [spec_Unhex.j0]) (ev_neg Bool.false_ne_true t1)), ev_neg (by omega) (Ev.step (fun k => by rw [impl_Unhex.j0]) (ev_neg Bool.false_ne_true t2))⟩
    · rw [show decide ((s.size : Int) > 40000) = true by simp; omega]
      exact ⟨_, ev_pos (by omega) st, ev_neg (by omega) it⟩
  · rw [show (((s.size : Int) % 2) != 0) = true by simp; omega]
    refine ⟨((⟨#[]⟩ : ByteArray), false), ?_, ev_pos (by omega) it⟩
    by_cases h3 : (s.size : Int) > 40000
    · exact ev_pos h3 st
    · exact ev_neg h3 st

end Go.Proofs.Ytgjmkljhllbanaa.Pure
