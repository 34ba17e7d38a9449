/- The law FnExactTextItem answers true for every argument: the program's TextItem and the reference's come to the same answer. -/
import Derived.Test.YtgjmkljhllbanaaGFnExactTextItemx2
set_option linter.unusedVariables false
set_option linter.unusedSimpArgs false
namespace Go.Proofs.Ytgjmkljhllbanaa.Pure
open Go.RowKit Go.Proofs.Ytgjmkljhllbanaa.GFnExactTextItem Go.Proofs.YtgjmkljhllbanaaW.PrintWords Go.Proofs.YtgjmkljhllbanaaW.PrintLast

theorem w64 {n : Int} (h0 : -9223372036854775808 ≤ n) (h1 : n ≤ 9223372036854775807) : wrap64 n = n := by unfold wrap64; omega
theorem ev_pos {α : Type} {c : Prop} [Decidable c] {f g : Nat → Option α} {r : α} (h : c) (k : Ev f r) : Ev (fun n => if c then f n else g n) r := by
  simpa only [if_pos h] using k
theorem ev_neg {α : Type} {c : Prop} [Decidable c] {f g : Nat → Option α} {r : α} (h : ¬ c) (k : Ev g r) : Ev (fun n => if c then f n else g n) r := by
  simpa only [if_neg h] using k
theorem tdivN (n m : Nat) : Int.tdiv (n : Int) (m : Int) = ((n / m : Nat) : Int) := rfl
theorem tmodN (n m : Nat) : Int.tmod (n : Int) (m : Int) = ((n % m : Nat) : Int) := rfl
theorem tdiv_pos' {n m : Int} (h : 0 ≤ n) : Int.tdiv n m = n / m := Int.tdiv_eq_ediv_of_nonneg h
theorem tmod_pos' {n m : Int} (h : 0 ≤ n) : Int.tmod n m = n % m := Int.tmod_eq_emod_of_nonneg h
theorem bt_rng (s : ByteArray) (i : Int) : 0 ≤ bt s i ∧ bt s i ≤ 255 := bt_range s i
theorem bt_bytes (s : ByteArray) (i : Nat) : bt s i = (bytesOf s).getD i 0 := (rd_bytesOf s i).symm
theorem drop_bytes (s : ByteArray) (i : Nat) (h : i < s.size) : (bytesOf s).drop i = bt s i :: (bytesOf s).drop (i + 1) := by
  have h' : i < (bytesOf s).length := by rw [bytesOf_length]; exact h
  rw [List.drop_eq_getElem_cons h', bt_bytes, List.getD_eq_getElem?_getD, List.getElem?_eq_getElem h']
  rfl

theorem eq_nil_ev : Ev (fun k => laws_eqItemS.f k [] []) true := by
  refine Ev.step (fun k => by rw [laws_eqItemS.f]) ?_
  refine ev_pos rfl (Ev.step (fun k => by rw [laws_eqItemS.l0]) ?_)
  exact ev_neg (by simp) (Ev.now _)
theorem eq_item (a : Int) (b : ByteArray) : Ev (fun k => laws_eqItem.f k a b [] a b []) true := by
  simp only [laws_eqItem.f]
  refine ev_pos trivial (ev_pos trivial (Ev.bind eq_nil_ev (ev_pos rfl (Ev.now _))))
theorem held_nil_ev (n : Int) : Ev (fun k => laws_heldItemS.f k [] n) n := by
  refine Ev.step (fun k => by rw [laws_heldItemS.f]) ?_
  refine Ev.step (fun k => by rw [laws_heldItemS.l0]) ?_
  exact ev_neg (by simp) (Ev.now _)
theorem held_item (a : Int) (b : ByteArray) : Ev (fun k => laws_heldItem.f k a b [] 1) 1 := by
  simp only [laws_heldItem.f]
  exact Ev.bind (held_nil_ev 1) (ev_neg (by omega) (Ev.now _))
theorem mark_item (a : Int) (b : ByteArray) : laws_markItem.f a b [] 1 = some 1 := rfl

theorem FnExactTextItem : laws_FnExactTextItem.Pure := by
  intro s h1
  refine Ev.rounds (g := fun k => laws_FnExactTextItem.f k s) ?_
  simp only [laws_FnExactTextItem.f]
  by_cases hb : (s.size : Int) > 1048576
  · exact ev_pos hb (Ev.now _)
  refine ev_neg hb ?_
  refine Ev.bind (g := fun _ => spec_TextItem.f s) (a := (12, s, [])) (Ev.now _) (Ev.bind (g := fun _ => impl_TextItem.f s) (a := (12, s, [])) (Ev.now _) (Ev.bind (eq_item 12 s) (ev_pos rfl ?_)))
  refine Ev.bind (g := fun _ => laws_markItem.f 12 s [] 1) (a := 1) (Ev.now _) (Ev.bind (held_item 12 s) (ev_neg (by omega) (ev_pos rfl ?_)))
  exact Ev.bind (g := fun _ => impl_TextItem.f s) (a := (12, s, [])) (Ev.now _) (Ev.bind (eq_item 12 s) (ev_pos rfl (Ev.bind (held_item 12 s) (ev_neg (by omega) (ev_pos rfl (Ev.now _))))))

end Go.Proofs.Ytgjmkljhllbanaa.Pure
