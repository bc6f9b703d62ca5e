/- Contracts of functions that only read numbers: literals, clauses, their order. -/
import Derived.Test.YtnadmnhkfdkafaaGreatDoorProg
import Derived.Test.YtnadmnhkfdkafaaGreatDoorMem
import Derived.Test.YtnadmnhkfdkafaaGreatDoorPlain
import Derived.Deep.QuietTactic
import Derived.BigQuiet
import Derived.Deep.LoopGhost
namespace Go.Proofs.YtnadmnhkfdkafaaGreatDoor
open Go.RowKit
set_option linter.unusedVariables false
set_option linter.unusedSimpArgs false

/-- a literal of the variables 1 to n -/
def okLit (n x : Int) : Bool := decide (x ≠ 0 ∧ x ≤ n ∧ -n ≤ x)

set_option maxHeartbeats 400000 in
theorem literals_calls (A : Option Addr) (c : Nat) (xs : List Int) (m : Int) (w : World) (hx : IntsAt w A xs) (hn : xs.length ≤ 9223372036854775807) (hm0 : 0 ≤ m) (hm : m ≤ 1000000) :
    Calls Tryz.prog 77 #[.slice A xs.length c, .int .i64 m] w fun e w' => e = .returned (.bool (xs.all (okLit m))) ∧ w = w' := by
  have HX := Lib.hid hx
  clear hx
  go_enter Tryz.func77, Tryz.ntmps77
  go_wp2
  go_loop [9] (fun i => ∃ k : Nat, k ≤ xs.length ∧ i = .int .i64 k ∧ Hid ((xs.take k).all (okLit m) = true)) (fun i => xs.length - (intOf i).toNat)
  case atStart => exact ⟨0, Nat.zero_le _, rfl, by simp [Hid]⟩
  case round =>
    obtain ⟨k, hk, rfl, hall⟩ := hrel
    by_cases hlt : k < xs.length
    · obtain ⟨ad, x, rfl, hcell, Hx⟩ := HX.out.get hlt
      by_cases hp : x ≠ 0 ∧ x ≤ m ∧ -m ≤ x
      · have Hs := Lib.hid (show (xs.take (k + 1)).all (okLit m) = true by rw [all_take_succ Hx.out, hall.out]; simp [okLit, hp])
        obtain ⟨h1, h2, h3⟩ := hp
        have b1 : (x == 0) = false := beq_eq_false_iff_ne.2 h1
        have b2 : decide (m < x) = false := decide_eq_false (by omega)
        have b3 : decide (x < -m) = false := decide_eq_false (by omega)
        clear h1 h2 h3
        go_wp2
        exact ⟨⟨k + 1, by omega, by go_num, Hs⟩, by simp [intOf]; omega⟩
      · have Hs := Lib.hid (all_false (p := okLit m) Hx.out (by simp only [okLit]; rw [decide_eq_false hp]))
        go_wp2
        all_goals (go_ret; exact ⟨ret_bool Hs.out.symm, rfl⟩)
    · have Hs := Lib.hid (all_done hall.out (by omega))
      go_wp2
      go_ret
      exact ⟨ret_bool Hs.out.symm, rfl⟩

theorem rank_calls (x : Int) (w : World) (h0 : -1000000 ≤ x) (h1 : x ≤ 1000000) :
    Calls Tryz.prog 115 #[.int .i64 x] w fun e w' => e = .returned (.int .i64 (rankL x)) ∧ w = w' := by
  by_cases h : x < 0
  · have Hr := Lib.hid (show rankL x = -2 * x + 1 by simp [rankL, h])
    go_enter Tryz.func115, Tryz.ntmps115
    go_wp2
    go_ret
    exact ⟨ret_i64 Hr.out.symm, rfl⟩
  · have Hr := Lib.hid (show rankL x = 2 * x by simp [rankL, h])
    go_enter Tryz.func115, Tryz.ntmps115
    go_wp2
    go_ret
    exact ⟨ret_i64 Hr.out.symm, rfl⟩

theorem before_calls (x y : Int) (w : World) (h0 : -1000000 ≤ x) (h1 : x ≤ 1000000) (h2 : -1000000 ≤ y) (h3 : y ≤ 1000000) :
    Calls Tryz.prog 71 #[.int .i64 x, .int .i64 y] w fun e w' => e = .returned (.int .i64 (rankL x - rankL y)) ∧ w = w' := by
  have c1 := Lib.hid (rank_calls x w h0 h1)
  have c2 := Lib.hid (rank_calls y w h2 h3)
  obtain ⟨a0, a1⟩ := rankL_bd x h0 h1
  obtain ⟨b0, b1⟩ := rankL_bd y h2 h3
  clear h0 h1 h2 h3
  go_enter Tryz.func71, Tryz.ntmps71
  go_wp2_with fail
  refine c1.out.mono ?_
  rintro e w' ⟨rfl, rfl⟩
  go_wp2_with fail
  refine c2.out.mono ?_
  rintro e w' ⟨rfl, rfl⟩
  go_wp2_with fail
  go_ret
  exact ⟨rfl, rfl⟩

end Go.Proofs.YtnadmnhkfdkafaaGreatDoor
