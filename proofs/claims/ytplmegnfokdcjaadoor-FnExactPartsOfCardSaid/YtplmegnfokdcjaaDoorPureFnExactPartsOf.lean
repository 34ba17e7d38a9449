/- The law FnExactPartsOf answers true for every argument: the program's PartsOf and the reference's come to the same answer. -/
import Derived.Test.YtplmegnfokdcjaaDoorGFnExactPartsOfx2
set_option linter.unusedVariables false
set_option linter.unusedSimpArgs false
namespace Go.Proofs.YtplmegnfokdcjaaDoor.Pure
open Go.RowKit Go.Proofs.YtplmegnfokdcjaaDoor.GFnExactPartsOf Go.Proofs.YtplmegnfokdcjaaDoorW.PrintWords Go.Proofs.YtplmegnfokdcjaaDoorW.PrintLast

theorem w64 {n : Int} (h0 : -9223372036854775808 ≤ n) (h1 : n ≤ 9223372036854775807) : wrap64 n = n := by unfold wrap64; omega
theorem ev_pos {α : Type} {c : Prop} [Decidable c] {f g : Nat → Option α} {r : α} (h : c) (k : Ev f r) : Ev (fun n => if c then f n else g n) r := by
  simpa only [if_pos h] using k
theorem ev_neg {α : Type} {c : Prop} [Decidable c] {f g : Nat → Option α} {r : α} (h : ¬ c) (k : Ev g r) : Ev (fun n => if c then f n else g n) r := by
  simpa only [if_neg h] using k
theorem tdivN (n m : Nat) : Int.tdiv (n : Int) (m : Int) = ((n / m : Nat) : Int) := rfl
theorem tmodN (n m : Nat) : Int.tmod (n : Int) (m : Int) = ((n % m : Nat) : Int) := rfl
theorem tdiv_pos' {n m : Int} (h : 0 ≤ n) : Int.tdiv n m = n / m := Int.tdiv_eq_ediv_of_nonneg h
theorem tmod_pos' {n m : Int} (h : 0 ≤ n) : Int.tmod n m = n % m := Int.tmod_eq_emod_of_nonneg h
theorem bt_rng (s : ByteArray) (i : Int) : 0 ≤ bt s i ∧ bt s i ≤ 255 := bt_range s i
theorem bt_bytes (s : ByteArray) (i : Nat) : bt s i = (bytesOf s).getD i 0 := (rd_bytesOf s i).symm
theorem drop_bytes (s : ByteArray) (i : Nat) (h : i < s.size) : (bytesOf s).drop i = bt s i :: (bytesOf s).drop (i + 1) := by
  have h' : i < (bytesOf s).length := by rw [bytesOf_length]; exact h
  rw [List.drop_eq_getElem_cons h', bt_bytes, List.getD_eq_getElem?_getD, List.getElem?_eq_getElem h']
  rfl

theorem toList_size (s : ByteArray) : s.toList.length = s.size := by rw [ByteArray.toList_eq, Array.length_toList]; rfl
theorem extract_toList (s : ByteArray) (i j : Nat) : (s.extract i j).toList = (s.toList.drop i).take (j - i) := by
  rw [ByteArray.toList_eq, ByteArray.toList_eq]; simp [ByteArray.data_extract, List.extract_eq_take_drop]
theorem append_toList (s t : ByteArray) : (s ++ t).toList = s.toList ++ t.toList := by
  rw [ByteArray.toList_eq, ByteArray.toList_eq, ByteArray.toList_eq]; simp [ByteArray.data_append]
theorem nums_toList (l : List Int) : (strOfNums l).toList = l.map fun n => UInt8.ofNat n.toNat := by rw [ByteArray.toList_eq, strOfNums_data]

theorem ev_ite {α : Type} {c : Prop} [Decidable c] (a b : α) : Ev (fun _ => if c then some a else some b) (if c then a else b) := by
  by_cases h : c
  · simp only [if_pos h]; exact Ev.now _
  · simp only [if_neg h]; exact Ev.now _
def mkB (l : List UInt8) : ByteArray := ⟨l.toArray⟩
def okB (c : UInt8) : Bool := decide (32 ≤ c.toNat ∧ c.toNat ≤ 126)
/-- What PartsOf answers. -/
def partsV (s : ByteArray) : List ByteArray × Bool :=
  if (s.size : Int) > 600 then ([], false) else if s.data.toList.all okB = true then (if ((Sha.fieldsV s).length : Int) > 10 then ([], false) else (Sha.fieldsV s, true)) else ([], false)
theorem ext_mk (s : ByteArray) (b i : Nat) (hb : i ≤ s.size) : s.extract b i = mkB ((s.data.toList.take i).drop b) := by
  have h := extract_toList s b i
  rw [ByteArray.toList_eq, ByteArray.toList_eq] at h
  apply ByteArray.ext
  apply Array.toList_inj.1
  rw [h]
  show _ = (s.data.toList.take i).drop b
  rw [List.drop_take]
theorem bt_get (s : ByteArray) (i : Nat) (h : i < s.data.toList.length) : bt s (i : Int) = ((s.data.toList[i]'h).toNat : Int) := by
  have h' : i < s.size := by rw [Array.length_toList] at h; exact h
  unfold bt
  rw [dif_pos (show (i : Int).toNat < s.size by omega)]
  simp
  rfl
theorem okB_iff (c : UInt8) : okB c = true ↔ 32 ≤ c.toNat ∧ c.toNat ≤ 126 := by unfold okB; exact decide_eq_true_iff
theorem sp_iff (c : UInt8) (h : okB c = true) : Lib.isSp c = true ↔ c.toNat = 32 := by
  have h1 := (okB_iff c).1 h
  unfold Lib.isSp
  simp only [Bool.or_eq_true, beq_iff_eq]
  constructor
  · rintro (((((h | h) | h) | h) | h) | h) <;> subst h <;> simp at h1 ⊢
  · intro h
    right
    exact UInt8.toNat_inj.1 h
theorem all_not (l : List UInt8) (c : UInt8) (hc : c ∈ l) (h : ¬ okB c = true) : ¬ l.all okB = true := fun ha => h (List.all_eq_true.1 ha c hc)
theorem fields_ok (s : ByteArray) (h1 : s.size ≤ 600) (h2 : s.data.toList.all okB = true) : strings_Fields.f s = some (Sha.fieldsV s) := by
  unfold strings_Fields.f
  refine if_pos ⟨by omega, List.all_eq_true.2 fun c hc => decide_eq_true ?_⟩
  have := (okB_iff c).1 (List.all_eq_true.1 h2 c hc)
  omega
theorem impl_parts_loop (s : ByteArray) (h1 : s.size ≤ 600) : ∀ (d i : Nat), i + d = s.size → (s.data.toList.take i).all okB = true → Ev (fun k => impl_PartsOf.l0 k s (i : Int)) (partsV s) := by
  have hL : s.data.toList.length = s.size := Array.length_toList
  have hs : ¬ (s.size : Int) > 600 := by omega
  intro d
  induction d with
  | zero =>
    intro i hi ha
    rw [List.take_of_length_le (by omega)] at ha
    have h0 : ¬ (i : Int) < (s.size : Int) := by omega
    unfold partsV
    rw [if_neg hs, if_pos ha]
    refine Ev.step (fun k => by rw [impl_PartsOf.l0]) (ev_neg h0 (Ev.bind (g := fun _ => strings_Fields.f s) (by rw [fields_ok s h1 ha]; exact Ev.now _) ?_))
    exact ev_ite _ _
  | succ d ih =>
    intro i hi ha
    have hil : i < s.data.toList.length := by omega
    have h0 : (i : Int) < (s.size : Int) := by omega
    have h00 : 0 ≤ (i : Int) := by omega
    have hb := bt_get s i hil
    obtain ⟨c, hc⟩ : ∃ c, s.data.toList[i]'hil = c := ⟨_, rfl⟩
    rw [hc] at hb
    have hmem : c ∈ s.data.toList := by rw [← hc]; exact List.getElem_mem hil
    have hw : wrap64 (bt s (i : Int)) = bt s (i : Int) := by have := bt_rng s (i : Int); exact w64 (by omega) (by omega)
    have hw2 : wrap64 ((i : Int) + 1) = ((i + 1 : Nat) : Int) := by rw [w64 (by omega) (by omega)]; omega
    refine Ev.step (fun k => by rw [impl_PartsOf.l0]) (ev_pos h0 (ev_pos h00 ?_))
    by_cases ho : okB c = true
    · have e : impl_within.f (wrap64 (bt s (i : Int))) 32 126 = some true := by
        have := (okB_iff c).1 ho
        unfold impl_within.f
        rw [hw, if_pos (by omega), decide_eq_true (by omega)]
      refine Ev.bind (g := fun _ => impl_within.f (wrap64 (bt s (i : Int))) 32 126) (by rw [e]; exact Ev.now _) (ev_pos rfl ?_)
      rw [hw2]
      refine ih (i + 1) (by omega) ?_
      rw [List.take_succ_eq_append_getElem hil, hc, List.all_append, ha]
      simp [ho]
    · have e : impl_within.f (wrap64 (bt s (i : Int))) 32 126 = some false := by
        have hn : ¬ (32 ≤ c.toNat ∧ c.toNat ≤ 126) := fun h => ho ((okB_iff c).2 h)
        unfold impl_within.f
        rw [hw]
        by_cases h32 : bt s (i : Int) ≥ 32
        · rw [if_pos h32, decide_eq_false (by omega)]
        · rw [if_neg h32]
      unfold partsV
      rw [if_neg hs, if_neg (all_not _ c hmem ho)]
      exact Ev.bind (g := fun _ => impl_within.f (wrap64 (bt s (i : Int))) 32 126) (by rw [e]; exact Ev.now _) (ev_neg Bool.false_ne_true (Ev.now _))
theorem impl_parts (s : ByteArray) : Ev (fun k => impl_PartsOf.f k s) (partsV s) := by
  simp only [impl_PartsOf.f]
  by_cases h : (s.size : Int) > 600
  · unfold partsV
    rw [if_pos h]
    exact ev_pos h (Ev.now _)
  · exact ev_neg h (impl_parts_loop s (by omega) s.size 0 (by omega) (by simp))
theorem spec_parts_end (s : ByteArray) (h1 : s.size ≤ 600) (ha : s.data.toList.all okB = true) (b : Int) : Ev (fun k => spec_PartsOf.l0 k s (Sha.fieldsV s) b ((s.size + 1 : Nat) : Int)) (partsV s) := by
  have hs : ¬ (s.size : Int) > 600 := by omega
  have h0 : ¬ ((s.size + 1 : Nat) : Int) ≤ (s.size : Int) := by omega
  unfold partsV
  rw [if_neg hs, if_pos ha]
  refine Ev.step (fun k => by rw [spec_PartsOf.l0]) (ev_neg h0 ?_)
  exact ev_ite _ _
theorem spec_parts_loop (s : ByteArray) (h1 : s.size ≤ 600) : ∀ (d i : Nat), i + d = s.size → (s.data.toList.take i).all okB = true → ∀ (b : Nat) (out : List ByteArray), b ≤ i → out.length ≤ i →
    out ++ (Lib.fieldsGo ((s.data.toList.take i).drop b) (s.data.toList.drop i)).map mkB = Sha.fieldsV s → Ev (fun k => spec_PartsOf.l0 k s out (b : Int) (i : Int)) (partsV s) := by
  have hL : s.data.toList.length = s.size := Array.length_toList
  have hs : ¬ (s.size : Int) > 600 := by omega
  intro d
  induction d with
  | zero =>
    intro i hi ha b out hb ho he
    have hi' : i = s.size := by omega
    rw [List.drop_of_length_le (l := s.data.toList) (by omega), Lib.fieldsGo] at he
    have hT : (s.data.toList.take i) = s.data.toList := List.take_of_length_le (by omega)
    have h0 : (i : Int) ≤ (s.size : Int) := by omega
    have h00 : ¬ (i : Int) < (s.size : Int) := by omega
    have hw2 : wrap64 ((i : Int) + 1) = ((s.size + 1 : Nat) : Int) := by rw [w64 (by omega) (by omega)]; omega
    have hAll : s.data.toList.all okB = true := by rw [hT] at ha; exact ha
    refine Ev.step (fun k => by rw [spec_PartsOf.l0]) (ev_pos h0 (ev_neg h00 ?_))
    refine Ev.step (fun k => by rw [spec_PartsOf.j1]) (ev_neg Bool.false_ne_true (ev_neg h00 ?_))
    refine Ev.step (fun k => by rw [spec_PartsOf.j2]) (ev_neg Bool.false_ne_true ?_)
    by_cases hbi : (b : Int) < (i : Int)
    · have p1 : 0 ≤ (b : Int) := by omega
      have p2 : (b : Int) ≤ (i : Int) := by omega
      have p3 : out.length < 8796093022208 := by omega
      refine ev_pos hbi (ev_pos p1 (ev_pos p2 (ev_pos h0 (ev_pos p3 ?_))))
      rw [hw2, Int.toNat_natCast, Int.toNat_natCast, ext_mk s b i (by omega)]
      have hne : ((s.data.toList.take i).drop b).isEmpty = false := by
        rw [← Bool.not_eq_true, List.isEmpty_iff]
        intro h
        have := congrArg List.length h
        rw [List.length_drop, List.length_take] at this
        simp at this
        omega
      rw [hne] at he
      have he' : out ++ [mkB ((s.data.toList.take i).drop b)] = Sha.fieldsV s := by simpa using he
      rw [he']
      exact spec_parts_end s h1 hAll _
    · refine ev_neg hbi ?_
      have hem : (s.data.toList.take i).drop b = [] := List.drop_of_length_le (by rw [List.length_take]; omega)
      rw [hem] at he
      have he' : out = Sha.fieldsV s := by simpa using he
      rw [hw2, he']
      exact spec_parts_end s h1 hAll _
  | succ d ih =>
    intro i hi ha b out hb ho he
    have hil : i < s.data.toList.length := by omega
    have h0 : (i : Int) ≤ (s.size : Int) := by omega
    have h00 : (i : Int) < (s.size : Int) := by omega
    have hz : 0 ≤ (i : Int) := by omega
    have hb' := bt_get s i hil
    obtain ⟨c, hc⟩ : ∃ c, s.data.toList[i]'hil = c := ⟨_, rfl⟩
    rw [hc] at hb'
    have hmem : c ∈ s.data.toList := by rw [← hc]; exact List.getElem_mem hil
    have hw2 : wrap64 ((i : Int) + 1) = ((i + 1 : Nat) : Int) := by rw [w64 (by omega) (by omega)]; omega
    have bad : ¬ okB c = true → Ev (fun k => spec_PartsOf.j1 k s out (b : Int) (i : Int) true) (partsV s) := fun h => by
      unfold partsV
      rw [if_neg hs, if_neg (all_not _ c hmem h)]
      exact Ev.step (fun k => by rw [spec_PartsOf.j1]) (ev_pos rfl (Ev.now _))
    refine Ev.step (fun k => by rw [spec_PartsOf.l0]) (ev_pos h0 (ev_pos h00 (ev_pos hz ?_)))
    by_cases h32 : bt s (i : Int) < 32
    · exact ev_pos h32 (bad (fun h => by have := (okB_iff c).1 h; omega))
    refine ev_neg h32 ?_
    by_cases h126 : bt s (i : Int) > 126
    · rw [decide_eq_true h126]
      exact bad (fun h => by have := (okB_iff c).1 h; omega)
    rw [decide_eq_false h126]
    have hok : okB c = true := (okB_iff c).2 (by omega)
    have ha' : (s.data.toList.take (i + 1)).all okB = true := by
      rw [List.take_succ_eq_append_getElem hil, hc, List.all_append, ha]
      simp [hok]
    have hdrop : s.data.toList.drop i = c :: s.data.toList.drop (i + 1) := by rw [List.drop_eq_getElem_cons hil, hc]
    rw [hdrop, Lib.fieldsGo] at he
    refine Ev.step (fun k => by rw [spec_PartsOf.j1]) (ev_neg Bool.false_ne_true (ev_pos h00 (ev_pos hz ?_)))
    by_cases hsp : c.toNat = 32
    · have e1 : (bt s (i : Int) != 32) = false := bne_eq_false_iff_eq.2 (by omega)
      rw [e1]
      rw [if_pos ((sp_iff c hok).2 hsp)] at he
      refine Ev.step (fun k => by rw [spec_PartsOf.j2]) (ev_neg Bool.false_ne_true ?_)
      have hnil : (s.data.toList.take (i + 1)).drop (i + 1) = [] := List.drop_of_length_le (by rw [List.length_take]; omega)
      by_cases hbi : (b : Int) < (i : Int)
      · have p1 : 0 ≤ (b : Int) := by omega
        have p2 : (b : Int) ≤ (i : Int) := by omega
        have p3 : out.length < 8796093022208 := by omega
        refine ev_pos hbi (ev_pos p1 (ev_pos p2 (ev_pos h0 (ev_pos p3 ?_))))
        rw [hw2, Int.toNat_natCast, Int.toNat_natCast, ext_mk s b i (by omega)]
        have hne : ((s.data.toList.take i).drop b).isEmpty = false := by
          rw [← Bool.not_eq_true, List.isEmpty_iff]
          intro h
          have := congrArg List.length h
          rw [List.length_drop, List.length_take] at this
          simp at this
          omega
        rw [hne] at he
        refine ih (i + 1) (by omega) ha' (i + 1) _ (Nat.le_refl _) (by rw [List.length_append]; show out.length + 1 ≤ _; omega) ?_
        rw [hnil, List.append_assoc]
        simpa using he
      · refine ev_neg hbi ?_
        have hem : (s.data.toList.take i).drop b = [] := List.drop_of_length_le (by rw [List.length_take]; omega)
        rw [hem] at he
        rw [hw2]
        refine ih (i + 1) (by omega) ha' (i + 1) out (Nat.le_refl _) (by omega) ?_
        rw [hnil]
        simpa using he
    · have e1 : (bt s (i : Int) != 32) = true := bne_iff_ne.2 (by omega)
      rw [e1]
      rw [if_neg (fun h => hsp ((sp_iff c hok).1 h))] at he
      refine Ev.step (fun k => by rw [spec_PartsOf.j2]) (ev_pos rfl ?_)
      rw [hw2]
      refine ih (i + 1) (by omega) ha' b out (by omega) (by omega) ?_
      have hcur : (s.data.toList.take (i + 1)).drop b = (s.data.toList.take i).drop b ++ [c] := by
        rw [List.take_succ_eq_append_getElem hil, hc, List.drop_append_of_le_length (by rw [List.length_take]; omega)]
      rw [hcur]
      exact he
theorem spec_parts (s : ByteArray) : Ev (fun k => spec_PartsOf.f k s) (partsV s) := by
  simp only [spec_PartsOf.f]
  refine Ev.bind (g := fun _ => some ([] : List ByteArray)) (Ev.now _) ?_
  by_cases h : (s.size : Int) > 600
  · unfold partsV
    rw [if_pos h]
    exact ev_pos h (Ev.now _)
  · refine ev_neg h (spec_parts_loop s (by omega) s.size 0 (by omega) (by simp) 0 [] (by omega) (by simp) ?_)
    simp only [List.take_zero, List.drop_nil, List.drop_zero, List.nil_append]
    rfl
theorem eqs_ev (l : List ByteArray) (hl : l.length ≤ 10) : Ev (fun k => laws_eqStringS.f k l l) true := by
  have key : ∀ (d i : Nat), i + d = l.length → Ev (fun k => laws_eqStringS.l0 k l l (i : Int)) true := by
    intro d
    induction d with
    | zero =>
      intro i hi
      have h0 : ¬ (i : Int) < (l.length : Int) := by omega
      exact Ev.step (fun k => by rw [laws_eqStringS.l0]) (ev_neg h0 (Ev.now _))
    | succ d ih =>
      intro i hi
      have h0 : (i : Int) < (l.length : Int) := by omega
      have h1 : 0 ≤ (i : Int) := by omega
      have hw : wrap64 ((i : Int) + 1) = ((i + 1 : Nat) : Int) := by rw [w64 (by omega) (by omega)]; omega
      refine Ev.step (fun k => by rw [laws_eqStringS.l0]) (ev_pos h0 (ev_pos h1 (ev_pos h0 (ev_pos rfl ?_))))
      rw [hw]
      exact ih (i + 1) (by omega)
  simp only [laws_eqStringS.f]
  exact ev_pos trivial (key l.length 0 (by omega))
def mt (x : Nat) : ByteArray := (laws_markText.f 6 (x : Int)).getD (⟨#[]⟩ : ByteArray)
theorem mt_some : ∀ x : Fin 20, (laws_markText.f 6 ((x : Nat) : Int)).isSome = true := by decide +kernel
theorem mt_ev (x : Nat) (h : x < 20) : Ev (fun k => laws_markText.f k (x : Int)) (mt x) := by
  have h1 := mt_some ⟨x, h⟩
  refine Ev.of (k := 6) (fun k => laws_markText.mono _ k) ?_
  show laws_markText.f 6 (x : Int) = some (mt x)
  unfold mt
  have h2 : (laws_markText.f 6 (x : Int)).isSome = true := h1
  obtain ⟨v, hv⟩ := Option.isSome_iff_exists.1 h2
  rw [hv]
  rfl
def mts (n : Nat) : List ByteArray := (List.range n).map fun j => mt (1 + j)
theorem mts_len (n : Nat) : (mts n).length = n := by simp [mts]
theorem mts_snoc (n : Nat) : mts (n + 1) = mts n ++ [mt (1 + n)] := by simp [mts, List.range_succ]
theorem mark_ev (l : List ByteArray) (hl : l.length ≤ 10) : Ev (fun k => laws_markStringS.f k l 1) (((1 + l.length : Nat) : Int), mts l.length) := by
  have key : ∀ (d i : Nat), i + d = l.length → Ev (fun k => laws_markStringS.l0 k (mts i ++ l.drop i) ((1 + i : Nat) : Int) (i : Int)) (((1 + l.length : Nat) : Int), mts l.length) := by
    intro d
    induction d with
    | zero =>
      intro i hi
      obtain rfl : i = l.length := by omega
      have h0 : ¬ (l.length : Int) < ((mts l.length ++ l.drop l.length).length : Int) := by simp [mts_len]
      refine Ev.step (fun k => by rw [laws_markStringS.l0]) (ev_neg h0 ?_)
      rw [List.drop_length, List.append_nil]
      exact Ev.now _
    | succ d ih =>
      intro i hi
      have h0 : (i : Int) < ((mts i ++ l.drop i).length : Int) := by rw [List.length_append, mts_len, List.length_drop]; omega
      have h1 : 0 ≤ (i : Int) := by omega
      have hw : wrap64 ((i : Int) + 1) = ((i + 1 : Nat) : Int) := by rw [w64 (by omega) (by omega)]; omega
      have hw1 : wrap64 (((1 + i : Nat) : Int) + 1) = ((1 + (i + 1) : Nat) : Int) := by rw [w64 (by omega) (by omega)]; omega
      refine Ev.step (fun k => by rw [laws_markStringS.l0]) (ev_pos h0 (Ev.bind (mt_ev (1 + i) (by omega)) (ev_pos h1 ?_)))
      have e := ih (i + 1) (by omega)
      rw [hw, hw1, Int.toNat_natCast, List.set_append_right _ _ (by rw [mts_len]; omega), mts_len, Nat.sub_self, List.drop_eq_getElem_cons (show i < l.length by omega), List.set_cons_zero]
      rw [mts_snoc, List.append_assoc] at e
      exact e
  simp only [laws_markStringS.f]
  have e := key l.length 0 (by omega)
  exact e
theorem held_ev (n : Nat) (hn : n ≤ 10) : Ev (fun k => laws_heldStringS.f k (mts n) 1) ((1 + n : Nat) : Int) := by
  have key : ∀ (d i : Nat), i + d = n → Ev (fun k => laws_heldStringS.l0 k (mts n) ((1 + i : Nat) : Int) (i : Int)) ((1 + n : Nat) : Int) := by
    intro d
    induction d with
    | zero =>
      intro i hi
      obtain rfl : i = n := by omega
      have h0 : ¬ (i : Int) < ((mts i).length : Int) := by rw [mts_len]; omega
      exact Ev.step (fun k => by rw [laws_heldStringS.l0]) (ev_neg h0 (Ev.now _))
    | succ d ih =>
      intro i hi
      have h0 : (i : Int) < ((mts n).length : Int) := by rw [mts_len]; omega
      have h1 : 0 ≤ (i : Int) := by omega
      have hw : wrap64 ((i : Int) + 1) = ((i + 1 : Nat) : Int) := by rw [w64 (by omega) (by omega)]; omega
      have hw1 : wrap64 (((1 + i : Nat) : Int) + 1) = ((1 + (i + 1) : Nat) : Int) := by rw [w64 (by omega) (by omega)]; omega
      have hr : rdOf ByteArray.empty (mts n) (i : Int) = mt (1 + i) := by
        unfold rdOf mts
        rw [Int.toNat_natCast, List.getD_eq_getElem?_getD, List.getElem?_map, List.getElem?_range (by omega)]
        rfl
      have hq : (rdOf ByteArray.empty (mts n) (i : Int)).toList = (mt (1 + i)).toList := by rw [hr]
      refine Ev.step (fun k => by rw [laws_heldStringS.l0]) (ev_pos h0 (ev_pos h1 (Ev.bind (mt_ev (1 + i) (by omega)) (ev_pos hq ?_))))
      rw [hw, hw1]
      exact ih (i + 1) (by omega)
  simp only [laws_heldStringS.f]
  exact key n 0 (by omega)
theorem parts_len (s : ByteArray) : (partsV s).1.length ≤ 10 := by
  unfold partsV
  split
  · simp
  · split
    · split
      · simp
      · rename_i h
        show (Sha.fieldsV s).length ≤ 10
        omega
    · simp
theorem FnExactPartsOf : laws_FnExactPartsOf.Pure := by
  intro s hs
  refine Ev.rounds (g := fun k => laws_FnExactPartsOf.f k s) ?_
  simp only [laws_FnExactPartsOf.f]
  by_cases hb : (s.size : Int) > 1048576
  · exact ev_pos hb (Ev.now _)
  have hl := parts_len s
  have hi := impl_parts s
  have he := eqs_ev (partsV s).1 hl
  have hh := held_ev (partsV s).1.length hl
  have hnn : ¬ ((1 + (partsV s).1.length : Nat) : Int) < 0 := by omega
  refine ev_neg hb (Ev.bind (spec_parts s) (Ev.bind hi (Ev.bind he (ev_pos rfl ?_))))
  rw [bne_self_eq_false]
  refine Ev.step (fun k => by rw [laws_FnExactPartsOf.j0]) (ev_neg Bool.false_ne_true (Ev.bind (mark_ev (partsV s).1 hl) (Ev.bind hh (ev_neg hnn (ev_pos rfl (Ev.bind hi (Ev.bind he (ev_pos rfl ?_))))))))
  rw [bne_self_eq_false]
  exact Ev.step (fun k => by rw [laws_FnExactPartsOf.j1]) (ev_neg Bool.false_ne_true (Ev.bind hh (ev_neg hnn (ev_pos rfl (Ev.now _)))))

end Go.Proofs.YtplmegnfokdcjaaDoor.Pure
