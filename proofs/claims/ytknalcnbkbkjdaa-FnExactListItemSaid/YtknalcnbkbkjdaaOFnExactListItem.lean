-- Written by a program of this session (lawrow.py): no printed text.
import Derived.Test.YtknalcnbkbkjdaaRows
import Derived.Test.YtknalcnbkbkjdaaLawL
import Derived.Deep.Strs
import Derived.OpenShut
set_option autoImplicit false
set_option maxRecDepth 100000
namespace Go.Proofs.Ytknalcnbkbkjdaa.GAFnExactListItem
open Go.ChangeShapes Go.WideShapes Go.RowKit Go.Proofs.Ytknalcnbkbkjdaa.GFnExactListItem Go.Proofs.YtknalcnbkbkjdaaW.PrintWords
/-! Trees of items, as the arguments hold them: opened out of the reader's own word. -/
/-- A right tree, by depth: every text and every row is no longer than memory allows. -/
def WF75 : Nat → S75 → Prop
  | 0, _ => False
  | n + 1, x => (Lit.int .i64 x.f0).wf = true ∧ x.f1.size ≤ maxLen ∧ x.f2.length ≤ maxLen ∧ ∀ y ∈ x.f2, WF75 n y
theorem openRow75 {H : Type} {enc : TypeId × Value → H} {W : World} {b : Nat} {sp : Nat → Bool} (n : Nat)
    (ih : ∀ cs x, DataW.trod enc Try.prog W b sp true n 75 cs = some x → ∃ t, k75.K W t cs ∧ WF75 n t) (a : Addr) (len : Nat) (hm : len ≤ maxLen) (elems : List (DataW H × List MemPlace)) (hlen : elems.length = len)
    (hel : ∀ i, i < len → (W.cells? b (a.add (i * 3)) 3).bind (DataW.trod enc Try.prog W b sp true n 75) = elems[i]?) :
    ∃ l : List S75, l.length = len ∧ k75.C W (some a) len l ∧ ∀ y ∈ l, WF75 n y := by
  have each : ∀ i, i < len → ∃ t c, k75.K W t c ∧ WF75 n t ∧ c.length = 3 ∧ ∀ j u, c[j]? = some u → W.cell? (a.add (i * 3 + j)) = some u := by
    intro i hi
    have h := hel i hi
    rw [List.getElem?_eq_getElem (by omega)] at h
    obtain ⟨cs, h1, h2⟩ := Option.bind_eq_some_iff.1 h
    obtain ⟨t, ht, hw⟩ := ih cs _ h2
    obtain ⟨_, hl, hc⟩ := World.cells?_some h1
    refine ⟨t, cs, ht, hw, hl, fun j u hu => ?_⟩
    have hj : j < 3 := by rw [← hl]; exact (List.getElem?_eq_some_iff.1 hu).1
    have := hc j hj
    rw [Deep.add_add] at this
    rw [this, hu]
  have each2 : ∀ m, m ≤ len → ∃ l : List S75, l.length = m ∧ ∀ i t, l[i]? = some t → ∃ c, k75.K W t c ∧ WF75 n t ∧ c.length = 3 ∧ ∀ j u, c[j]? = some u → W.cell? (a.add (i * 3 + j)) = some u := by
    intro m
    induction m with
    | zero => exact fun _ => ⟨[], rfl, fun i t h => by simp at h⟩
    | succ m ihm =>
      intro hm'
      obtain ⟨l, hl, hg⟩ := ihm (by omega)
      obtain ⟨t, c, h1⟩ := each m (by omega)
      refine ⟨l ++ [t], by simp [hl], fun i u hu => ?_⟩
      by_cases hi : i < l.length
      · rw [List.getElem?_append_left hi] at hu
        exact hg i u hu
      · rw [List.getElem?_append_right (by omega)] at hu
        have h0 : i - l.length = 0 := by
          rcases Nat.eq_zero_or_pos (i - l.length) with h | h
          · exact h
          · rw [List.getElem?_eq_none (show [t].length ≤ i - l.length from h)] at hu
            cases hu
        rw [h0] at hu
        have e : t = u := by simpa using hu
        subst e
        rw [show i = m by omega]
        exact ⟨c, h1⟩
  obtain ⟨l, hl, hg⟩ := each2 len (Nat.le_refl _)
  refine ⟨l, hl, ⟨hl, hm, fun _ => ⟨a, rfl, fun j p hp => ?_⟩⟩, fun y hy => ?_⟩
  · obtain ⟨c, h1, _, h3, h4⟩ := hg j p hp
    exact ⟨c, h3, h1, h4⟩
  · obtain ⟨i, hi, rfl⟩ := List.getElem_of_mem hy
    exact (hg i _ (List.getElem?_eq_getElem hi)).choose_spec.2.1
theorem wfUp75 : ∀ n x, WF75 n x → WF75 (n + 1) x
  | 0, _, h => h.elim
  | n + 1, _, ⟨h0, h1, h2, h3⟩ => ⟨h0, h1, h2, fun y hy => wfUp75 n y (h3 y hy)⟩
theorem openTree75 {H : Type} {enc : TypeId × Value → H} {W : World} {b : Nat} {sp : Nat → Bool} : ∀ (n : Nat) (cs : List Value) (x : DataW H × List MemPlace),
    DataW.trod enc Try.prog W b sp true n 75 cs = some x → ∃ t, k75.K W t cs ∧ WF75 n t := by
  intro n
  induction n using Nat.strongRecOn with
  | _ n ih =>
    intro cs x h
    obtain ⟨xs, m, rfl, rfl, hl, hlen, hf⟩ := DataW.trod_struct Try.underlying75 h
    have hc : Try.prog.cellsOf 75 = 3 := by kernel_rfl
    have hc1 : Try.prog.cellsOf 3 = 1 := by kernel_rfl
    have hc2 : Try.prog.cellsOf 9 = 1 := by kernel_rfl
    have hc3 : Try.prog.cellsOf 37 = 1 := by kernel_rfl
    rw [hc] at hl
    match xs, hlen, cs, hl with
    | [y0, y1, y2], _, [u0, u1, u2], _ =>
      have f0 : DataW.trod enc Try.prog W b sp true m 3 [u0] = some y0 := by have := hf 0 _ rfl; simpa [hc1] using this
      have f1 : DataW.trod enc Try.prog W b sp true m 9 [u1] = some y1 := by have := hf 1 _ rfl; simpa [hc2] using this
      have f2 : DataW.trod enc Try.prog W b sp true m 37 [u2] = some y2 := by have := hf 2 _ rfl; simpa [hc3] using this
      obtain ⟨q0, e0, _, w0⟩ := DataW.trod_int Try.underlying3 f0
      obtain ⟨q1, e1, _, w1⟩ := DataW.trod_string Try.underlying9 f1
      obtain rfl : u0 = .int .i64 q0 := by simpa using e0
      obtain rfl : u1 = .string q1 := by simpa using e1
      rcases DataW.trod_slice Try.underlying37 f2 with ⟨e2, _⟩ | ⟨a, len, cap, elems, rest, p, rfl, e2, _, _, hle, hcap, hel, hall, _⟩
      · obtain rfl : u2 = .slice none 0 0 := by simpa using e2
        refine ⟨⟨q0, q1, []⟩, k75_mk W ⟨q0, q1, []⟩ (A2 := none) (c2 := 0) (Nat.le_refl _) ⟨rfl, Nat.zero_le _, fun h => absurd h (Nat.lt_irrefl 0)⟩, w0, w1, Nat.zero_le _, fun y hy => by cases hy⟩
      · obtain rfl : u2 = .slice (some a) len cap := by simpa using e2
        obtain ⟨l, hll, hC, hW⟩ := openRow75 p (fun cs x h => ih p (by omega) cs x h) a len (by omega) elems hel (by rw [hc] at hall; exact hall)
        subst hll
        refine ⟨⟨q0, q1, l⟩, k75_mk W ⟨q0, q1, l⟩ (A2 := some a) (c2 := cap) hle hC, w0, w1, (by show l.length ≤ maxLen; omega), fun y hy => ?_⟩
        exact wfUp75 p _ (hW y hy)
theorem openItems75 {H : Type} {enc : TypeId × Value → H} {W : World} {b : Nat} {sp : Nat → Bool} (n : Nat) (a : Option Addr) (len cap : Nat) (x : DataW H × List MemPlace)
    (h : DataW.trod enc Try.prog W b sp true n 37 (Value.slice a len cap).cells.toList = some x) : ∃ (l : List S75) (n : Nat), len ≤ cap ∧ l.length ≤ maxLen ∧ (l.length = len ∧ k75.C W a l.length l) ∧ ∀ y ∈ l, WF75 n y := by
  have hc : Try.prog.cellsOf 75 = 3 := by kernel_rfl
  rcases DataW.trod_slice Try.underlying37 h with ⟨e2, _⟩ | ⟨a', len', cap', elems, rest, p, rfl, e2, _, _, hle, hcap, hel, hall, _⟩
  · obtain ⟨rfl, rfl, rfl⟩ : a = none ∧ len = 0 ∧ cap = 0 := by simpa [Value.cells] using e2
    exact ⟨[], 0, Nat.le_refl _, Nat.zero_le _, ⟨rfl, rfl, Nat.zero_le _, fun h => absurd h (Nat.lt_irrefl 0)⟩, fun y hy => by cases hy⟩
  · obtain ⟨rfl, rfl, rfl⟩ : a = some a' ∧ len = len' ∧ cap = cap' := by simpa [Value.cells] using e2
    obtain ⟨l, hll, hC, hW⟩ := openRow75 p (fun cs x h => openTree75 p cs x h) a' len (by omega) elems hel (by rw [hc] at hall; exact hall)
    subst hll
    exact ⟨l, p, hle, by omega, ⟨rfl, hC⟩, hW⟩
def laws_FnExactListItem.Pure : Prop := ∀ (l0 : List S75) (n0 : Nat), l0.length ≤ maxLen → (∀ y ∈ l0, WF75 n0 y) → ∃ k, laws_FnExactListItem.f k l0 = some true
end Go.Proofs.Ytknalcnbkbkjdaa.GAFnExactListItem
