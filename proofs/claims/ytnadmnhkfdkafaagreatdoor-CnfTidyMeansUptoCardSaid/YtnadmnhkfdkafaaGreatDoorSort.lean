/- Contracts: slices.CompareFunc at literals, the sorts of a clause and of clauses, slices.Compact. -/
import Derived.Test.YtnadmnhkfdkafaaGreatDoorLaid
import Derived.Test.YtnadmnhkfdkafaaGreatDoorReadA
import Derived.Test.YtnadmnhkfdkafaaGreatDoorPlain
import Derived.Test.YtnadmnhkfdkafaaGreatDoorBlk
import Derived.Lib.OwnBridge
namespace Go.Proofs.YtnadmnhkfdkafaaGreatDoor
open Go.RowKit
set_option linter.unusedVariables false
set_option linter.unusedSimpArgs false

/-! ### plain -/
def cmpP : List Int → List Int → Int
  | x :: xs, y :: ys => if rankL x - rankL y = 0 then cmpP xs ys else rankL x - rankL y
  | _ :: _, [] => 1
  | [], _ :: _ => -1
  | [], [] => 0
theorem cmpP_neg : ∀ a b, (cmpP a b < 0 ↔ cmpC a b < 0)
  | [], [] => by simp [cmpP, cmpC]
  | [], b :: bs => by simp [cmpP, cmpC]; try omega
  | a :: as', [] => by simp [cmpP, cmpC]; try omega
  | a :: as', b :: bs => by
    unfold cmpP cmpC
    by_cases h : a = b
    · subst h; simp only [Int.sub_self, if_true]; exact cmpP_neg as' bs
    · have hne : rankL a - rankL b ≠ 0 := fun e => h (rankL_inj a b (by omega))
      rw [if_neg hne, if_neg h]
      unfold ltL
      split
      · rename_i h1; simp at h1; omega
      · rename_i h1; simp at h1; omega
theorem cmpP_lt (a b : List Int) : decide (cmpP a b < 0) = ltC a b := by unfold ltC; rw [decide_eq_decide]; exact cmpP_neg a b
theorem cmpP_bd : ∀ a b, (∀ x ∈ a, -1000000 ≤ x ∧ x ≤ 1000000) → (∀ x ∈ b, -1000000 ≤ x ∧ x ≤ 1000000) → -2000001 ≤ cmpP a b ∧ cmpP a b ≤ 2000001
  | [], [], _, _ => by simp [cmpP]
  | [], b :: bs, _, _ => by simp [cmpP]
  | a :: as', [], _, _ => by simp [cmpP]
  | a :: as', b :: bs, h1, h2 => by
    unfold cmpP
    split
    · exact cmpP_bd as' bs (fun x hx => h1 x (List.mem_cons_of_mem _ hx)) (fun x hx => h2 x (List.mem_cons_of_mem _ hx))
    · obtain ⟨a0, a1⟩ := h1 a List.mem_cons_self
      obtain ⟨b0, b1⟩ := h2 b List.mem_cons_self
      have := rankL_bd a a0 a1
      have := rankL_bd b b0 b1
      omega
theorem cmpP_drop {a b : List Int} {k : Nat} {x y : Int} (ha : a[k]? = some x) (hb : b[k]? = some y) :
    cmpP (a.drop k) (b.drop k) = if rankL x - rankL y = 0 then cmpP (a.drop (k + 1)) (b.drop (k + 1)) else rankL x - rankL y := by
  rw [List.drop_eq_getElem_cons (List.getElem?_eq_some_iff.1 ha).1, List.drop_eq_getElem_cons (List.getElem?_eq_some_iff.1 hb).1]
  rw [(List.getElem?_eq_some_iff.1 ha).2, (List.getElem?_eq_some_iff.1 hb).2]
  rfl
theorem cmpP_end1 {a b : List Int} {k : Nat} (h : k < a.length) (h2 : b.length ≤ k) : cmpP (a.drop k) (b.drop k) = 1 := by
  have e : b.drop k = [] := List.drop_eq_nil_of_le h2
  rw [e, List.drop_eq_getElem_cons h]; rfl
theorem cmpP_end2 {a b : List Int} {k : Nat} (h : k < b.length) (h2 : a.length ≤ k) : cmpP (a.drop k) (b.drop k) = -1 := by
  have e : a.drop k = [] := List.drop_eq_nil_of_le h2
  rw [e, List.drop_eq_getElem_cons h]; rfl
theorem cmpP_end3 {a b : List Int} {k : Nat} (h : a.length ≤ k) (h2 : b.length ≤ k) : cmpP (a.drop k) (b.drop k) = 0 := by
  have e : a.drop k = [] := List.drop_eq_nil_of_le h
  have e2 : b.drop k = [] := List.drop_eq_nil_of_le h2
  rw [e, e2]; rfl
theorem swo_of_total {α : Type} {lt : α → α → Bool} (T : Total lt) : Go.Sort.SWO lt where
  irrefl := T.irr
  trans := T.tr
  ntrans x y z h1 h2 := by
    by_cases h : lt x z = true
    · rcases Classical.em (x = y) with e | e
      · subst e; rw [h] at h2; cases h2
      · rcases T.tri x y e with h3 | h3
        · rw [h3] at h1; cases h1
        · have := T.tr _ _ _ h3 h; rw [this] at h2; cases h2
    · simpa using h

/-! ### slices.CompareFunc at 'before' -/
set_option maxHeartbeats 2000000 in
set_option maxRecDepth 100000 in
theorem cmpFunc_calls (A1 A2 : Option Addr) (c1 c2 : Nat) (xs ys : List Int) (w : World) (hx : IntsAt w A1 xs) (hy : IntsAt w A2 ys) (hl1 : xs.length ≤ 9223372036854775807) (hl2 : ys.length ≤ 9223372036854775807)
    (hb1 : ∀ x ∈ xs, -1000000 ≤ x ∧ x ≤ 1000000) (hb2 : ∀ x ∈ ys, -1000000 ≤ x ∧ x ≤ 1000000) :
    Calls Tryz.prog 76 #[.slice A1 xs.length c1, .slice A2 ys.length c2, .func (.func 71) #[] #[]] w fun e w' => e = .returned (.int .i64 (cmpP xs ys)) ∧ w = w' := by
  have HX := Lib.hid hx
  have HY := Lib.hid hy
  have HB1 := Lib.hid hb1
  have HB2 := Lib.hid hb2
  generalize hr : cmpP xs ys = r
  have Hr := Lib.hid hr.symm
  clear hx hy hb1 hb2 hr
  go_enter Tryz.func76, Tryz.ntmps76
  go_wp2
  go_loop [13] (fun i => ∃ k : Nat, k ≤ xs.length ∧ k ≤ ys.length ∧ i = .int .i64 k ∧ Hid (r = cmpP (xs.drop k) (ys.drop k))) (fun i => (xs.length - intOf i).toNat)
  case atStart => exact ⟨0, Nat.zero_le _, Nat.zero_le _, rfl, by simpa [Hid] using Hr.out⟩
  case round =>
    obtain ⟨k, hk1, hk2, rfl, hst⟩ := hrel
    by_cases hlt : k < xs.length
    · obtain ⟨ad1, x, rfl, hcell1, Hx⟩ := HX.out.get hlt
      obtain ⟨x0, x1⟩ := HB1.out x (List.mem_of_getElem? Hx.out)
      have hlz1 : (k : Int) < xs.length := by omega
      by_cases hlt2 : k < ys.length
      · obtain ⟨ad2, y, rfl, hcell2, Hy⟩ := HY.out.get hlt2
        obtain ⟨y0, y1⟩ := HB2.out y (List.mem_of_getElem? Hy.out)
        have hlz2 : (k : Int) < ys.length := by omega
        have hge : decide ((ys.length : Int) ≤ (k : Int)) = false := decide_eq_false (by omega)
        have hge2 : decide (ys.length ≤ k) = false := decide_eq_false (by omega)
        have cB := Lib.hid (before_calls x y w x0 x1 y0 y1)
        have Hd := Lib.hid (cmpP_drop Hx.out Hy.out)
        generalize rankL x - rankL y = z at cB Hd
        go_wp2_with fail
        refine cB.out.mono ?_
        rintro e w' ⟨rfl, rfl⟩
        by_cases hz : z = 0
        · have Hs := Lib.hid (show r = cmpP (xs.drop (k + 1)) (ys.drop (k + 1)) by rw [hst.out, Hd.out, if_pos hz])
          have b1 : (z != 0) = false := bne_eq_false_iff_eq.2 hz
          clear hz
          go_wp2_with fail
          exact ⟨⟨k + 1, by omega, by omega, by go_num, Hs⟩, by simp [intOf]; omega⟩
        · have Hs := Lib.hid (show r = z by rw [hst.out, Hd.out, if_neg hz])
          have b1 : (z != 0) = true := bne_iff_ne.2 hz
          clear hz
          go_wp2_with fail
          go_ret
          exact ⟨ret_i64 Hs.out.symm, rfl⟩
      · have hge : decide ((ys.length : Int) ≤ (k : Int)) = true := decide_eq_true (by omega)
        have hge2 : decide (ys.length ≤ k) = true := decide_eq_true (by omega)
        have Hs := Lib.hid (show r = 1 by rw [hst.out]; exact cmpP_end1 hlt (by omega))
        go_wp2_with fail
        go_ret
        exact ⟨ret_i64 Hs.out.symm, rfl⟩
    · by_cases hlt2 : k < ys.length
      · have hll : decide ((xs.length : Int) < (ys.length : Int)) = true := decide_eq_true (by omega)
        have hll2 : decide (xs.length < ys.length) = true := decide_eq_true (by omega)
        have Hs := Lib.hid (show r = -1 by rw [hst.out]; exact cmpP_end2 hlt2 (by omega))
        go_wp2_with fail
        go_ret
        exact ⟨ret_i64 Hs.out.symm, rfl⟩
      · have hll : decide ((xs.length : Int) < (ys.length : Int)) = false := decide_eq_false (by omega)
        have hll2 : decide (xs.length < ys.length) = false := decide_eq_false (by omega)
        have Hs := Lib.hid (show r = 0 by rw [hst.out]; exact cmpP_end3 (by omega) (by omega))
        go_wp2_with fail
        go_ret
        exact ⟨ret_i64 Hs.out.symm, rfl⟩

theorem tidyCmp_calls (A1 A2 : Option Addr) (c1 c2 : Nat) (xs ys : List Int) (w : World) (hx : IntsAt w A1 xs) (hy : IntsAt w A2 ys) (hl1 : xs.length ≤ 9223372036854775807) (hl2 : ys.length ≤ 9223372036854775807)
    (hb1 : ∀ x ∈ xs, -1000000 ≤ x ∧ x ≤ 1000000) (hb2 : ∀ x ∈ ys, -1000000 ≤ x ∧ x ≤ 1000000) :
    Calls Tryz.prog 75 #[.slice A1 xs.length c1, .slice A2 ys.length c2] w fun e w' => e = .returned (.int .i64 (cmpP xs ys)) ∧ w = w' := by
  have cB := Lib.hid (cmpFunc_calls A1 A2 c1 c2 xs ys w hx hy hl1 hl2 hb1 hb2)
  clear hx hy hb1 hb2
  generalize cmpP xs ys = r at cB ⊢
  go_enter Tryz.func75, Tryz.ntmps75
  go_wp2_with fail
  refine cB.out.mono ?_
  rintro e w' ⟨rfl, rfl⟩
  go_wp2_with fail
  go_ret
  exact ⟨rfl, rfl⟩

end Go.Proofs.YtnadmnhkfdkafaaGreatDoor
