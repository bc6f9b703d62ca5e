/- Contracts: the document's Clausal, Check, size, Before, empty, order. -/
import Derived.Test.YtnadmnhkfdkafaaDoorReadC
namespace Go.Proofs.YtnadmnhkfdkafaaDoor
open Go.RowKit
set_option linter.unusedVariables false
set_option linter.unusedSimpArgs false

/-- the world behind a call with the struct's box laid, some orders drawn -/
def Boxed (W : World) (w' : World) : Prop := ∃ q, w' = W.drewN q

set_option maxHeartbeats 2000000 in
theorem clausal_calls (n : Int) (A : Option Addr) (c : Nat) (xss : List (List Int)) (vt : Value) (w : World)
    (hx : RowsAt w A xss) (hl : xss.length ≤ 9223372036854775807) :
    Calls Tryd.prog 54 #[.agg #[.int .i64 n, .slice A xss.length c, vt]] w fun e w' => e = .returned (.bool (okVars n && okRows n xss)) ∧ ∃ q, w' = (w.alloc (.cells #[.int .i64 n, .slice A xss.length c, vt] 25)).drewN q := by
  generalize hr : (okVars n && okRows n xss) = r
  by_cases h0 : n < 0
  · have Hs := Lib.hid (show r = false by rw [← hr]; simp [okVars]; omega)
    clear hr hx
    go_enter Tryd.func54, Tryd.ntmps54
    go_wp2_with fail
    go_ret
    exact ⟨ret_bool Hs.out.symm, 0, rfl⟩
  by_cases h1 : 1000000 < n
  · have Hs := Lib.hid (show r = false by rw [← hr]; simp [okVars]; omega)
    clear hr hx
    go_enter Tryd.func54, Tryd.ntmps54
    go_wp2_with fail
    go_ret
    exact ⟨ret_bool Hs.out.symm, 0, rfl⟩
  have hv : okVars n = true := by simp [okVars]; omega
  have Hr := Lib.hid (show r = okRows n xss by rw [← hr, hv]; rfl)
  have HX := Lib.hid (hx.below (w' := w.alloc (.cells #[.int .i64 n, .slice A xss.length c, vt] 25)) ((Below.refl _ _).alloc (Nat.le_refl _) _))
  clear hr hx hv
  go_enter Tryd.func54, Tryd.ntmps54
  go_wp2_with fail
  go_loopw [3] (fun i wr => ∃ (k q : Nat), k ≤ xss.length ∧ i = .int .i64 k ∧ wr = (w.alloc (.cells #[.int .i64 n, .slice A xss.length c, vt] 25)).drewN q ∧ Hid (okRows n (xss.take k) = true)) (fun i _ => xss.length - (intOf i).toNat)
  case atStart => exact ⟨0, 0, Nat.zero_le _, rfl, rfl, by simp [Hid, okRows]⟩
  case round =>
    obtain ⟨k, q, hk, rfl, rfl, hall⟩ := hrel
    by_cases hlt : k < xss.length
    · obtain ⟨ad, A1, c1, xs, rfl, hcell, hc1, hm1, Hx, HX1⟩ := HX.out.get hlt
      go_wp2_with fail
      go_loopw [4] (fun i wr => ∃ (k2 q : Nat), k2 ≤ xs.length ∧ i = .int .i64 k2 ∧ wr = (w.alloc (.cells #[.int .i64 n, .slice (some ad) xss.length c, vt] 25)).drewN q ∧ Hid ((xs.take k2).all (okLit n) = true)) (fun i _ => xs.length - (intOf i).toNat)
      case atStart => exact ⟨0, _, Nat.zero_le _, rfl, rfl, by simp [Hid]⟩
      case round =>
        obtain ⟨k2, q2, hk2, rfl, rfl, hall2⟩ := hrel
        by_cases hlt2 : k2 < xs.length
        · obtain ⟨ad1, x, rfl, hcell1, Hx1⟩ := HX1.out.get hlt2
          have c2 := Lib.hid (fun m : Nat => (literal_calls x n ((w.alloc (.cells #[.int .i64 n, .slice (some ad) xss.length c, vt] 25)).drewN m) (by omega) (by omega)).mono (R' := fun e w' => e = .returned (.bool (okLit n x)) ∧ ∃ j, w' = ((w.alloc (.cells #[.int .i64 n, .slice (some ad) xss.length c, vt] 25)).drewN m).drewN j) fun _ _ ⟨he, hm⟩ => ⟨he, 0, hm.symm⟩)
          have hlz : (k : Int) < xss.length := by omega
          have hlz2 : (k2 : Int) < xs.length := by omega
          by_cases hp : okLit n x = true
          · have Hs := Lib.hid (show (xs.take (k2 + 1)).all (okLit n) = true by rw [all_take_succ Hx1.out, hall2.out, hp]; rfl)
            rw [hp] at c2
            clear hp
            go_wp2_with fail
            go_quiet ((exact quiet_at c2.out))
            go_wp2_with fail
            exact ⟨⟨k2 + 1, _, by omega, by go_num, by first | rfl | exact World.drewN_drewN .., Hs⟩, by simp [intOf]; omega⟩
          · have hp' : okLit n x = false := by simpa using hp
            have Hs := Lib.hid (show r = false by rw [Hr.out]; unfold okRows; rw [all_false Hx.out (all_false Hx1.out hp')])
            rw [hp'] at c2
            clear hp hp'
            go_wp2_with fail
            go_quiet ((exact quiet_at c2.out))
            go_wp2_with fail
            go_ret
            exact ⟨ret_bool Hs.out.symm, _, by first | rfl | exact World.drewN_drewN ..⟩
        · have Hs := Lib.hid (show okRows n (xss.take (k + 1)) = true by
            have h1 := hall.out
            have h2 := all_done hall2.out (by omega)
            unfold okRows at h1 ⊢
            rw [all_take_succ Hx.out, h1, h2]; rfl)
          go_wp2_with fail
          exact ⟨⟨k + 1, _, by omega, by go_num, by first | rfl | exact World.drewN_drewN .., Hs⟩, by simp [intOf]; omega⟩
    · have Hs := Lib.hid (show r = true by rw [Hr.out]; have h1 := hall.out; unfold okRows at h1 ⊢; exact all_done h1 (by omega))
      go_wp2_with fail
      go_ret
      exact ⟨ret_bool Hs.out.symm, _, by first | rfl | exact World.drewN_drewN ..⟩

end Go.Proofs.YtnadmnhkfdkafaaDoor
