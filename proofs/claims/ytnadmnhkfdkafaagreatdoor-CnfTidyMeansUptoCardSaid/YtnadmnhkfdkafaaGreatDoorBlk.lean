/- A block that is known whole; a row of rows of the call's own; a list in which a place is made free. No program in sight. -/
import Derived.Test.YtnadmnhkfdkafaaGreatDoorOwn
namespace Go.Proofs.YtnadmnhkfdkafaaGreatDoor
open Go.RowKit
set_option linter.unusedVariables false
set_option linter.unusedSimpArgs false

def Blk (w : World) (g t : Nat) (cs : Array Value) : Prop := w.heap[g]? = some (.cells cs t (0, 0))
section
variable {w w' : World} {g t B : Nat} {cs : Array Value}
theorem Blk.lt (h : Blk w g t cs) : g < w.heap.size := (Array.getElem?_eq_some_iff.1 h).1
theorem Blk.cell (h : Blk w g t cs) (i : Nat) : w.cell? ⟨g, i, none⟩ = cs[i]? := cell_of_row w g i cs t (0, 0) h
theorem Blk.frozen (h : Blk w g t cs) (i : Nat) : w.frozen? ⟨g, i, none⟩ = false := by unfold Blk at h; simp [World.frozen?, h]
theorem Blk.new (w : World) (t : Nat) (cs : Array Value) : Blk (w.alloc (.cells cs t)) w.heap.size t cs := heap_alloc_new w _
theorem Blk.alloc (h : Blk w g t cs) (o : Obj) : Blk (w.alloc o) g t cs := (Below.heap_alloc w o g h.lt).trans h
theorem Blk.drewN (h : Blk w g t cs) (q : Nat) : Blk (w.drewN q) g t cs := h
theorem Blk.set_ (h : Blk w g t cs) (i : Nat) (u : Value) : Blk (w.setCell ⟨g, i, none⟩ u) g t (cs.setIfInBounds i u) := by
  unfold Blk at h ⊢
  simp [World.setCell, Array.getElem?_modify, h]
theorem Blk.far (h : Blk w g t cs) {p : Addr} (hp : g ≠ p.block) (u : Value) : Blk (w.setCell p u) g t cs := (Below.heap_setCell w p u g hp).trans h
theorem Blk.below (h : Blk w g t cs) (hb : Below w.heap.size w w') : Blk w' g t cs := (hb.block g h.lt).trans h
theorem Blk.grown {row : Option Nat} (h : Blk w g t cs) (hb : w.grownBy w' row) (hg : some g ≠ row) : Blk w' g t cs := (hb.block g h.lt hg).trans h
/-- A row of another element type is not that block. -/
theorem Blk.ne_own (h : Blk w g t cs) {e s n : Nat} {v : Value} {xs : List Value} (ho : w.ownsRow B e s v n xs) (hne : e ≠ t) : some g ≠ v.ownBlock := by
  rcases ho.2 with ⟨rfl, _⟩ | ⟨g', cap, cur, rfl, _, hh, _⟩
  · simp [Value.ownBlock]
  · intro he
    simp [Value.ownBlock] at he
    subst he
    unfold Blk at h
    rw [h] at hh
    injection hh with hh
    injection hh with _ ht
    exact hne ht.symm
end

section
variable {w w' : World} {B B' e s n g cap : Nat} {v : Value} {xs : List Value}
theorem own_lower (h : w.ownsRow B e s v n xs) (hB : B' ≤ B) : w.ownsRow B' e s v n xs := by
  refine ⟨h.1, ?_⟩
  rcases h.2 with h2 | ⟨g, cap, cur, hv, hg, r⟩
  · exact .inl h2
  · exact .inr ⟨g, cap, cur, hv, Nat.le_trans hB hg, r⟩
theorem own_setCell_far (h : w.ownsRow B e s v n xs) {p : Addr} (hp : v.ownBlock = none ∨ v.ownBlock ≠ some p.block) (u : Value) : (w.setCell p u).ownsRow B e s v n xs :=
  h.kept (row := some p.block) ⟨rfl, rfl, rfl, by simp [World.setCell], fun k _ hk => Below.heap_setCell w p u k (fun e => hk (by rw [e]))⟩ hp
/-- .. a store into a block of another type. -/
theorem own_setCell_blk (h : w.ownsRow B e s v n xs) {t : Nat} {cs : Array Value} (hb : Blk w g t cs) (hne : e ≠ t) (i : Nat) (u : Value) : (w.setCell ⟨g, i, none⟩ u).ownsRow B e s v n xs := by
  refine own_setCell_far h ?_ u
  right
  exact fun h' => hb.ne_own h hne h'.symm
/-- .. a store into a row of another type. -/
theorem own_setCell_row (h : w.ownsRow B e s v n xs) {e' n' : Nat} {xs' : List Value} (h' : w.ownsRow B' e' 1 (.slice (some ⟨g, 0, none⟩) n' cap) n' xs') (hne : e ≠ e') (i : Nat) (u : Value) : (w.setCell ⟨g, i, none⟩ u).ownsRow B e s v n xs := by
  refine own_setCell_far h ?_ u
  rcases own_ne_type h h' hne with h1 | h1
  · exact .inl h1
  · right; simpa [Value.ownBlock] using h1
theorem Blk.set_row {t : Nat} {cs : Array Value} {b : Nat} (hb : Blk w b t cs) {e' n' : Nat} {xs' : List Value} (h' : w.ownsRow B' e' 1 (.slice (some ⟨g, 0, none⟩) n' cap) n' xs') (hne : e' ≠ t) (i : Nat) (u : Value) : Blk (w.setCell ⟨g, i, none⟩ u) b t cs := by
  refine hb.far ?_ u
  have := hb.ne_own h' hne
  simpa [Value.ownBlock] using this
/-- .. behind an append that has written a row of another type. -/
theorem own_grown_row (h : w.ownsRow B e s v n xs) {e' s' n' : Nat} {v' : Value} {xs' : List Value} (h' : w.ownsRow B' e' s' v' n' xs') (hne : e ≠ e') (hg : w.grownBy w' v'.ownBlock) : w'.ownsRow B e s v n xs :=
  h.kept hg (own_ne_type h h' hne)
theorem Blk.grown_row {t : Nat} {cs : Array Value} {b : Nat} (hb : Blk w b t cs) {e' s' n' : Nat} {v' : Value} {xs' : List Value} (h' : w.ownsRow B' e' s' v' n' xs') (hne : e' ≠ t) (hg : w.grownBy w' v'.ownBlock) : Blk w' b t cs :=
  hb.grown hg (hb.ne_own h' hne)
end

/-- A row of numbers of the call's own. -/
def OwnI (w : World) (B e : Nat) (v : Value) (xs : List Int) : Prop := w.ownsRow B e 1 v xs.length (xs.map (Value.int .i64))
theorem OwnI.ints {w : World} {B e : Nat} {v : Value} {xs : List Int} (h : OwnI w B e v xs) : IsInts w v xs := IsInts.of_own h
theorem OwnI.below {w w' : World} {B e : Nat} {v : Value} {xs : List Int} (h : OwnI w B e v xs) (hb : Below w.heap.size w w') : OwnI w' B e v xs := own_below h hb
theorem OwnI.lower {w : World} {B B' e : Nat} {v : Value} {xs : List Int} (h : OwnI w B e v xs) (hB : B' ≤ B) : OwnI w B' e v xs := own_lower h hB
theorem OwnI.nil (w : World) (B e : Nat) : OwnI w B e (.slice none 0 0) [] := World.ownsRow_nil _ _ _ _

/-! ### a place made free -/
section
variable {α : Type}
theorem shift_stepG {m : List α} {p : Nat} {a y : α} (hy : m[p]? = some y) : (m.take (p + 1) ++ a :: m.drop (p + 1)).set (p + 1) y = m.take p ++ y :: m.drop p := by
  obtain ⟨hp, rfl⟩ := List.getElem?_eq_some_iff.1 hy
  rw [List.set_append_right _ _ (by simp; omega)]
  simp only [List.length_take]
  rw [show p + 1 - min (p + 1) m.length = 0 by omega, List.set_cons_zero, List.take_add_one, List.getElem?_eq_getElem hp, List.drop_eq_getElem_cons hp]
  simp only [Option.toList_some, List.append_assoc, List.singleton_append]
theorem free_getG {m : List α} {p : Nat} {a : α} (hp : p < m.length) : (m.take (p + 1) ++ a :: m.drop (p + 1))[p]? = m[p]? := by
  rw [List.getElem?_append_left (by simp; omega), List.getElem?_take, if_pos (by omega)]
theorem free_atG {m : List α} {j : Nat} {a : α} (h : j ≤ m.length) : (m.take j ++ a :: m.drop j)[j]? = some a := by
  rw [List.getElem?_append_right (by simp; omega)]
  simp [Nat.min_eq_left h]
theorem free_setG {m : List α} {j : Nat} {a x : α} (h : j ≤ m.length) : (m.take j ++ a :: m.drop j).set j x = m.take j ++ x :: m.drop j := by
  rw [List.set_append_right _ _ (by simp <;> omega)]
  simp only [List.length_take]
  rw [show j - min j m.length = 0 by omega, List.set_cons_zero]
theorem free_lenG {m : List α} {j : Nat} {a : α} (h : j ≤ m.length) : (m.take j ++ a :: m.drop j).length = m.length + 1 := by simp <;> omega
end
theorem All2.free {α β : Type} {R : α → β → Prop} {xs : List α} {ys : List β} (h : All2 R xs ys) (j : Nat) {x : α} {y : β} (hr : R x y) : All2 R (xs.take j ++ x :: xs.drop j) (ys.take j ++ y :: ys.drop j) := by
  refine (h.take j).append (All2.cons hr ?_)
  refine ⟨by simp [h.1], fun k a b ha hb => ?_⟩
  rw [List.getElem?_drop] at ha hb
  exact h.2 _ a b ha hb

end Go.Proofs.YtnadmnhkfdkafaaGreatDoor
