/- Words for memory: a slice that reads as a list of numbers, a slice of such slices; rows of the call's own. No program in sight. -/
import Derived.WalkKit
import Derived.Lib.Hide
import Derived.WalkSpells
import Derived.WalkLawsBesides
import Derived.Deep.Draws
import Derived.Deep.AppendLies
import Derived.Maps.AppendAt
namespace Go.Proofs.YtnadmnhkfdkafaaGreatDoor
open Go.RowKit
set_option linter.unusedVariables false
set_option linter.unusedSimpArgs false

theorem ret_bool {a b : Bool} (h : a = b) : Ending.returned (.bool a) = .returned (.bool b) := by rw [h]
theorem ret_i64 {a b : Int} (h : a = b) : Ending.returned (.int .i64 a) = .returned (.int .i64 b) := by rw [h]
theorem ret_str {a b : ByteArray} (h : a = b) : Ending.returned (.string a) = .returned (.string b) := by rw [h]

/-! ### lists -/
theorem all_take_succ {α : Type} {p : α → Bool} {xs : List α} {k : Nat} {x : α} (h : xs[k]? = some x) : (xs.take (k + 1)).all p = ((xs.take k).all p && p x) := by
  rw [List.take_add_one, h]; simp
theorem all_false {α : Type} {p : α → Bool} {xs : List α} {k : Nat} {x : α} (h : xs[k]? = some x) (hp : p x = false) : xs.all p = false := by
  rw [List.all_eq_false]; exact ⟨x, List.mem_of_getElem? h, by simp [hp]⟩
theorem all_done {α : Type} {p : α → Bool} {xs : List α} {k : Nat} (h : (xs.take k).all p = true) (hk : xs.length ≤ k) : xs.all p = true := by
  rwa [List.take_of_length_le hk] at h

/-- Two lists alike in length, related place by place. -/
def All2 {α β : Type} (R : α → β → Prop) (xs : List α) (ys : List β) : Prop := xs.length = ys.length ∧ ∀ (k : Nat) x y, xs[k]? = some x → ys[k]? = some y → R x y
section
variable {α β γ : Type} {R S : α → β → Prop} {xs xs' : List α} {ys ys' : List β}
theorem All2.nil (R : α → β → Prop) : All2 R [] [] := ⟨rfl, fun k x y h => by simp at h⟩
theorem All2.imp (h : All2 R xs ys) (hS : ∀ x y, x ∈ xs → y ∈ ys → R x y → S x y) : All2 S xs ys :=
  ⟨h.1, fun k x y hx hy => hS x y (List.mem_of_getElem? hx) (List.mem_of_getElem? hy) (h.2 k x y hx hy)⟩
theorem All2.snoc {x : α} {y : β} (h : All2 R xs ys) (hr : R x y) : All2 R (xs ++ [x]) (ys ++ [y]) := by
  refine ⟨by simp [h.1], fun k a b ha hb => ?_⟩
  rcases Nat.lt_or_ge k xs.length with hk | hk
  · rw [List.getElem?_append_left hk] at ha
    rw [List.getElem?_append_left (by rw [← h.1]; exact hk)] at hb
    exact h.2 k a b ha hb
  · have hk' : ys.length ≤ k := by rw [← h.1]; exact hk
    rw [List.getElem?_append_right hk] at ha
    rw [List.getElem?_append_right hk'] at hb
    rw [h.1] at ha
    cases hj : k - ys.length with
    | zero => rw [hj] at ha hb; simp at ha hb; subst ha; subst hb; exact hr
    | succ j => rw [hj] at ha; simp at ha
theorem All2.append (h : All2 R xs ys) (h' : All2 R xs' ys') : All2 R (xs ++ xs') (ys ++ ys') := by
  refine ⟨by simp [h.1, h'.1], fun k a b ha hb => ?_⟩
  rcases Nat.lt_or_ge k xs.length with hk | hk
  · rw [List.getElem?_append_left hk] at ha
    rw [List.getElem?_append_left (by rw [← h.1]; exact hk)] at hb
    exact h.2 k a b ha hb
  · have hk' : ys.length ≤ k := by rw [← h.1]; exact hk
    rw [List.getElem?_append_right hk] at ha
    rw [List.getElem?_append_right hk'] at hb
    rw [h.1] at ha
    exact h'.2 _ a b ha hb
theorem All2.get (h : All2 R xs ys) {k : Nat} (hk : k < ys.length) : ∃ x y, xs[k]? = some x ∧ ys[k]? = some y ∧ R x y := by
  have hk' : k < xs.length := by rw [h.1]; exact hk
  exact ⟨_, _, List.getElem?_eq_getElem hk', List.getElem?_eq_getElem hk, h.2 k _ _ (List.getElem?_eq_getElem hk') (List.getElem?_eq_getElem hk)⟩
theorem All2.cons {x : α} {y : β} (hr : R x y) (h : All2 R xs ys) : All2 R (x :: xs) (y :: ys) := by
  refine ⟨by simp [h.1], fun k a b ha hb => ?_⟩
  cases k with
  | zero => simp at ha hb; subst ha; subst hb; exact hr
  | succ k => simp at ha hb; exact h.2 k a b ha hb
theorem All2.take (h : All2 R xs ys) (n : Nat) : All2 R (xs.take n) (ys.take n) := by
  refine ⟨by simp [h.1], fun k a b ha hb => ?_⟩
  rw [List.getElem?_take] at ha hb
  split at ha
  · rename_i hk
    rw [if_pos hk] at hb
    exact h.2 k a b ha hb
  · cases ha
theorem All2.set (h : All2 R xs ys) (k : Nat) {x : α} {y : β} (hr : R x y) : All2 R (xs.set k x) (ys.set k y) := by
  refine ⟨by simp [h.1], fun j a b ha hb => ?_⟩
  rw [List.getElem?_set] at ha hb
  by_cases hk : k = j
  · rw [if_pos hk] at ha hb
    split at ha
    · split at hb
      · injection ha with ha; injection hb with hb; subst ha; subst hb; exact hr
      · cases hb
    · cases ha
  · rw [if_neg hk] at ha hb
    exact h.2 j a b ha hb
end

/-! ### what reads -/
def CellsAt (w : World) (A : Option Addr) (vs : List Value) : Prop :=
  vs = [] ∨ ∃ ad, A = some ad ∧ ∀ j u, vs[j]? = some u → w.cell? (ad.add j) = some u
def IntsAt (w : World) (A : Option Addr) (xs : List Int) : Prop := CellsAt w A (xs.map (Value.int .i64))
def IsInts (w : World) (v : Value) (xs : List Int) : Prop := ∃ A c, v = .slice A xs.length c ∧ xs.length ≤ c ∧ c ≤ 9223372036854775807 ∧ IntsAt w A xs
/-- A slice of slices of numbers; the cells of its row are 'vs'. -/
def RowsAt (w : World) (A : Option Addr) (xss : List (List Int)) : Prop := ∃ vs, CellsAt w A vs ∧ All2 (IsInts w) vs xss
def IsRows (w : World) (v : Value) (xss : List (List Int)) : Prop := ∃ A c, v = .slice A xss.length c ∧ xss.length ≤ c ∧ c ≤ 9223372036854775807 ∧ RowsAt w A xss

section
variable {w w' : World} {A : Option Addr} {v : Value} {vs : List Value} {xs : List Int} {xss : List (List Int)}
theorem cell_kept {a : Addr} {u : Value} (hb : Below w.heap.size w w') (h : w.cell? a = some u) : w'.cell? a = some u :=
  (hb.cell (World.block_lt_of_cell? w a h)).trans h
theorem CellsAt.nil (w : World) (A : Option Addr) : CellsAt w A [] := .inl rfl
theorem CellsAt.get (h : CellsAt w A vs) {k : Nat} (hk : k < vs.length) : ∃ ad u, A = some ad ∧ w.cell? (ad.add k) = some u ∧ vs[k]? = some u := by
  rcases h with h | ⟨ad, e, hc⟩
  · subst h; simp at hk
  · exact ⟨ad, vs[k], e, hc k _ (List.getElem?_eq_getElem hk), List.getElem?_eq_getElem hk⟩
theorem CellsAt.below (h : CellsAt w A vs) (hb : Below w.heap.size w w') : CellsAt w' A vs := by
  rcases h with h | ⟨ad, e, hc⟩
  · exact .inl h
  · exact .inr ⟨ad, e, fun j u hu => cell_kept hb (hc j u hu)⟩
theorem IntsAt.get (h : IntsAt w A xs) {k : Nat} (hk : k < xs.length) : ∃ ad x, A = some ad ∧ w.cell? (ad.add k) = some (.int .i64 x) ∧ Hid (xs[k]? = some x) := by
  obtain ⟨ad, u, e, hc, hu⟩ := CellsAt.get h (k := k) (by simpa using hk)
  rw [List.getElem?_map, List.getElem?_eq_getElem hk] at hu
  simp at hu
  exact ⟨ad, xs[k], e, by rw [hc, ← hu], List.getElem?_eq_getElem hk⟩
theorem IntsAt.below (h : IntsAt w A xs) (hb : Below w.heap.size w w') : IntsAt w' A xs := CellsAt.below h hb
theorem IsInts.below (h : IsInts w v xs) (hb : Below w.heap.size w w') : IsInts w' v xs := by
  obtain ⟨A, c, e, h1, h2, h3⟩ := h
  exact ⟨A, c, e, h1, h2, h3.below hb⟩
theorem RowsAt.below (h : RowsAt w A xss) (hb : Below w.heap.size w w') : RowsAt w' A xss := by
  obtain ⟨vs, h1, h2⟩ := h
  exact ⟨vs, h1.below hb, h2.imp fun _ _ _ _ h => h.below hb⟩
theorem IsRows.below (h : IsRows w v xss) (hb : Below w.heap.size w w') : IsRows w' v xss := by
  obtain ⟨A, c, e, h1, h2, h3⟩ := h
  exact ⟨A, c, e, h1, h2, h3.below hb⟩
theorem RowsAt.get (h : RowsAt w A xss) {k : Nat} (hk : k < xss.length) :
    ∃ ad A1 c1 xs, A = some ad ∧ w.cell? (ad.add k) = some (.slice A1 xs.length c1) ∧ xs.length ≤ c1 ∧ c1 ≤ 9223372036854775807 ∧ Hid (xss[k]? = some xs) ∧ Hid (IntsAt w A1 xs) := by
  obtain ⟨vs, h1, h2⟩ := h
  obtain ⟨u, xs, hu, hx, A1, c1, rfl, g1, g2, g3⟩ := h2.get hk
  obtain ⟨ad, u', e, hc, hu'⟩ := h1.get (k := k) (by rw [h2.1]; exact hk)
  rw [hu] at hu'
  injection hu' with hu'
  exact ⟨ad, A1, c1, xs, e, by rw [hc, hu'], g1, g2, hx, g3⟩
theorem IsInts.nil (w : World) : IsInts w (.slice none 0 0) [] := ⟨none, 0, rfl, Nat.le_refl _, by omega, CellsAt.nil _ _⟩
theorem IsRows.nil (w : World) : IsRows w (.slice none 0 0) [] := ⟨none, 0, rfl, Nat.le_refl _, by omega, [], CellsAt.nil _ _, All2.nil _⟩
theorem IsInts.drew (h : IsInts w v xs) : IsInts w.drew v xs := h
end

/-! ### rows of the call's own -/
section
variable {w w' : World} {B : Nat} {e size n : Nat} {v : Value} {vs : List Value}
theorem CellsAt.of_own (h : w.ownsRow B e 1 v n vs) : ∃ A c, v = .slice A n c ∧ n ≤ c ∧ c ≤ 9223372036854775807 ∧ CellsAt w A vs := by
  have hl := h.1
  rcases h.2 with ⟨rfl, rfl⟩ | ⟨g, cap, cur, rfl, hg, hh, hc, hm, hs, ht⟩
  · obtain rfl : vs = [] := List.eq_nil_of_length_eq_zero (by simpa using hl)
    exact ⟨none, 0, rfl, Nat.le_refl _, by omega, CellsAt.nil _ _⟩
  · exact ⟨_, cap, rfl, hc, by simpa [maxLen] using hm, .inr ⟨_, rfl, h.cells (g := g) rfl⟩⟩
theorem IsInts.of_own {xs : List Int} (h : w.ownsRow B e 1 v xs.length (xs.map (Value.int .i64))) : IsInts w v xs := by
  obtain ⟨A, c, e, h1, h2, h3⟩ := CellsAt.of_own h
  exact ⟨A, c, e, h1, h2, h3⟩
theorem IsRows.of_own {xss : List (List Int)} (h : w.ownsRow B e 1 v vs.length vs) (h2 : All2 (IsInts w) vs xss) : IsRows w v xss := by
  obtain ⟨A, c, e, g1, g2, g3⟩ := CellsAt.of_own h
  rw [h2.1] at e g1
  exact ⟨A, c, e, g1, g2, vs, g3, h2⟩
theorem own_below {xs : List Value} (h : w.ownsRow B e size v n xs) (hb : Below w.heap.size w w') : w'.ownsRow B e size v n xs :=
  h.kept (row := none) ⟨hb.os, hb.tape, hb.output, hb.size, fun i hi _ => hb.block i hi⟩ (by cases v.ownBlock <;> simp)
theorem below_of (h : Below B w w') (hB : B ≤ w'.heap.size) {w2 : World} (k : Below w'.heap.size w' w2) : Below B w w2 :=
  h.trans ⟨k.os, k.tape, k.output, k.size, fun i hi => k.block i (Nat.lt_of_lt_of_le hi hB)⟩
theorem below_drewN (h : Below B w w') (k : Nat) : Below B w (w'.drewN k) := ⟨h.os, h.tape, h.output, h.size, h.block⟩
end

end Go.Proofs.YtnadmnhkfdkafaaGreatDoor
