/- Contracts: the document's order of clauses; its plain law. -/
import Derived.Test.YtnadmnhkfdkafaaDoorReadE
namespace Go.Proofs.YtnadmnhkfdkafaaDoor
open Go.RowKit
set_option linter.unusedVariables false
set_option linter.unusedSimpArgs false

theorem drop_cons {α : Type} {xs : List α} {k : Nat} {x : α} (h : xs[k]? = some x) : xs.drop k = x :: xs.drop (k + 1) := by
  obtain ⟨hk, rfl⟩ := List.getElem?_eq_some_iff.1 h
  exact List.drop_eq_getElem_cons hk

set_option maxHeartbeats 1000000 in
theorem refOrder_calls (A : Option Addr) (c : Nat) (xs : List Int) (A' : Option Addr) (c' : Nat) (ys : List Int) (w : World) (hx : IntsAt w A xs) (hy : IntsAt w A' ys)
    (hl : xs.length ≤ 4611686018427387903) (hl' : ys.length ≤ 4611686018427387903) (hbd : ∀ x ∈ xs, -1000000 ≤ x ∧ x ≤ 1000000) (hbd' : ∀ x ∈ ys, -1000000 ≤ x ∧ x ≤ 1000000) :
    Calls Tryd.prog 21 #[.slice A xs.length c, .slice A' ys.length c'] w fun e w' => e = .returned (.int .i64 (cmpC xs ys)) ∧ ∃ q, w' = w.drewN q := by
  have HX := Lib.hid hx
  have HY := Lib.hid hy
  have HD := Lib.hid hbd
  have HD' := Lib.hid hbd'
  clear hx hy hbd hbd'
  generalize hr : cmpC xs ys = r
  have Hr := Lib.hid hr
  clear hr
  go_enter Tryd.func21, Tryd.ntmps21
  go_wp2
  go_loopw [5] (fun i wr => ∃ (k q : Nat), k ≤ xs.length ∧ k ≤ ys.length ∧ i = .int .i64 k ∧ wr = w.drewN q ∧ Hid (cmpC (xs.drop k) (ys.drop k) = r)) (fun i _ => xs.length - (intOf i).toNat)
  case atStart => exact ⟨0, 0, Nat.zero_le _, Nat.zero_le _, rfl, rfl, by simpa [Hid] using Hr.out⟩
  case round =>
    obtain ⟨k, q, hk, hk', rfl, rfl, hall⟩ := hrel
    by_cases hlt : k < xs.length ∧ k < ys.length
    · obtain ⟨hlt, hlt'⟩ := hlt
      obtain ⟨ad, x, rfl, hcell, Hx⟩ := HX.out.get hlt
      obtain ⟨ad', y, rfl, hcell', Hy⟩ := HY.out.get hlt'
      obtain ⟨bx0, bx1⟩ := HD.out x (List.mem_of_getElem? Hx.out)
      obtain ⟨by0, by1⟩ := HD'.out y (List.mem_of_getElem? Hy.out)
      have hlz : (k : Int) < xs.length := by omega
      have hlz2 : (k : Int) < ys.length := by omega
      have c2 := Lib.hid (fun m : Nat => (refBefore_calls x y (w.drewN m) (by omega) (by omega) (by omega) (by omega)).mono (R' := fun e w' => e = .returned (.bool (ltL x y)) ∧ ∃ j, w' = (w.drewN m).drewN j) fun _ _ ⟨he, hm⟩ => ⟨he, 0, hm.symm⟩)
      by_cases hp : x = y
      · have b2 : (x != y) = false := bne_eq_false_iff_eq.2 hp
        have Hs := Lib.hid (show cmpC (xs.drop (k + 1)) (ys.drop (k + 1)) = r by have := hall.out; rw [drop_cons Hx.out, drop_cons Hy.out, cmpC, if_pos hp] at this; exact this)
        clear hp
        go_wp2_with fail
        go_quiet (fail)
        go_wp2_with fail
        exact ⟨⟨k + 1, _, by omega, by omega, by go_num, by first | rfl | (simp only [World.drewN_drewN]; rfl), Hs⟩, by simp [intOf]; omega⟩
      · have b2 : (x != y) = true := bne_iff_ne.2 hp
        by_cases hq : ltL x y = true
        · have Hs := Lib.hid (show r = -1 by have := hall.out; rw [drop_cons Hx.out, drop_cons Hy.out, cmpC, if_neg hp, if_pos hq] at this; exact this.symm)
          rw [hq] at c2
          clear hp hq
          go_wp2_with fail
          go_quiet (fail)
          go_wp2_with fail
          go_quiet ((exact quiet_at c2.out))
          go_wp2_with fail
          go_ret
          exact ⟨ret_i64 Hs.out.symm, _, by first | rfl | (simp only [World.drewN_drewN]; rfl)⟩
        · have Hs := Lib.hid (show r = 1 by have := hall.out; rw [drop_cons Hx.out, drop_cons Hy.out, cmpC, if_neg hp, if_neg hq] at this; exact this.symm)
          have hq' : ltL x y = false := by simpa using hq
          rw [hq'] at c2
          clear hp hq hq'
          go_wp2_with fail
          go_quiet (fail)
          go_wp2_with fail
          go_quiet ((exact quiet_at c2.out))
          go_wp2_with fail
          go_ret
          exact ⟨ret_i64 Hs.out.symm, _, by first | rfl | (simp only [World.drewN_drewN]; rfl)⟩
    · have Hs := Lib.hid (show r = (xs.length : Int) - ys.length by
        rw [← hall.out]
        by_cases h : k < xs.length
        · rw [show ys.drop k = [] from List.drop_of_length_le (by omega), cmpC_nil_right, List.length_drop]; omega
        · rw [show xs.drop k = [] from List.drop_of_length_le (by omega), cmpC, List.length_drop]; omega)
      by_cases h : k < xs.length
      · have h' : ¬ k < ys.length := by omega
        clear hlt
        go_wp2_with fail
        go_ret
        exact ⟨ret_i64 Hs.out.symm, _, by first | rfl | (simp only [World.drewN_drewN]; rfl)⟩
      · clear hlt
        go_wp2_with fail
        go_ret
        exact ⟨ret_i64 Hs.out.symm, _, by first | rfl | (simp only [World.drewN_drewN]; rfl)⟩

end Go.Proofs.YtnadmnhkfdkafaaDoor
