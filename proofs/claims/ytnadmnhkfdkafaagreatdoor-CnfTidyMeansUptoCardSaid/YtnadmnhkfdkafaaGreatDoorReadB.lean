/- Contracts: Check of clauses, by the program and by the document's answer. -/
import Derived.Test.YtnadmnhkfdkafaaGreatDoorReadA
namespace Go.Proofs.YtnadmnhkfdkafaaGreatDoor
open Go.RowKit
set_option linter.unusedVariables false
set_option linter.unusedSimpArgs false

structure CnfD where
  vars : Int
  clauses : List (List Int)
  tops : List Int

def okRows (n : Int) (xss : List (List Int)) : Bool := xss.all fun xs => xs.all (okLit n)
def okVars (n : Int) : Bool := decide (0 ≤ n ∧ n ≤ 1000000)
def okCnf (c : CnfD) : Bool := okVars c.vars && c.tops.all (okLit c.vars) && okRows c.vars c.clauses

/-- the call has laid the struct's box and drawn: all that lay before is as it was -/
theorem box_below (w : World) (o : Obj) (q : Nat) : Below w.heap.size w ((w.alloc o).drewN q) := below_drewN ((Below.refl _ _).alloc (Nat.le_refl _) _) q

set_option maxHeartbeats 1000000 in
theorem check_calls (n : Int) (A : Option Addr) (c : Nat) (xss : List (List Int)) (At : Option Addr) (ct : Nat) (ts : List Int) (w : World)
    (hx : RowsAt w A xss) (ht : IntsAt w At ts) (hl : xss.length ≤ 9223372036854775807) (htl : ts.length ≤ 9223372036854775807) (hc : xss.length ≤ c) :
    Calls Tryz.prog 39 #[.agg #[.int .i64 n, .slice A xss.length c, .slice At ts.length ct]] w fun e w' => e = .returned (.int .i64 (if okCnf ⟨n, xss, ts⟩ then 0 else 62)) ∧ Below w.heap.size w w' := by
  have hb := (Below.refl w.heap.size w).alloc (Nat.le_refl _) (.cells #[.int .i64 n, .slice A xss.length c, .slice At ts.length ct] 54)
  by_cases h0 : n < 0
  · have Hs := Lib.hid (show (if okCnf ⟨n, xss, ts⟩ then (0 : Int) else 62) = 62 by simp [okCnf, okVars]; omega)
    generalize (if okCnf ⟨n, xss, ts⟩ then (0 : Int) else 62) = r at Hs ⊢
    have HB := Lib.hid hb
    clear hx ht hb
    go_enter Tryz.func39, Tryz.ntmps39
    go_wp2_with fail
    go_ret
    exact ⟨ret_i64 Hs.out.symm, HB.out⟩
  by_cases h1 : 1000000 < n
  · have Hs := Lib.hid (show (if okCnf ⟨n, xss, ts⟩ then (0 : Int) else 62) = 62 by simp [okCnf, okVars]; omega)
    generalize (if okCnf ⟨n, xss, ts⟩ then (0 : Int) else 62) = r at Hs ⊢
    have HB := Lib.hid hb
    clear hx ht hb
    go_enter Tryz.func39, Tryz.ntmps39
    go_wp2_with fail
    go_ret
    exact ⟨ret_i64 Hs.out.symm, HB.out⟩
  have hv : okVars n = true := by simp [okVars]; omega
  generalize hW : w.alloc (.cells #[.int .i64 n, .slice A xss.length c, .slice At ts.length ct] 54) = W at hb
  have ct1 := Lib.hid (literals_calls At ct ts n W (ht.below (by rw [← hW]; exact (Below.refl _ _).alloc (Nat.le_refl _) _)) htl (by omega) (by omega))
  have HX := Lib.hid (hx.below (w' := W) (by rw [← hW]; exact (Below.refl _ _).alloc (Nat.le_refl _) _))
  clear hx ht
  by_cases h2 : ts.all (okLit n) = true
  case neg =>
    have h2' : ts.all (okLit n) = false := by simpa using h2
    have Hs := Lib.hid (show (if okCnf ⟨n, xss, ts⟩ then (0 : Int) else 62) = 62 by simp only [okCnf, h2', Bool.and_false, Bool.false_and]; rfl)
    generalize (if okCnf ⟨n, xss, ts⟩ then (0 : Int) else 62) = r at Hs ⊢
    rw [h2'] at ct1
    have HB := Lib.hid hb
    subst hW
    clear hb h2 h2' hv
    go_enter Tryz.func39, Tryz.ntmps39
    go_wp2_with fail
    refine ct1.out.mono ?_
    rintro e w' ⟨rfl, rfl⟩
    go_wp2_with fail
    go_ret
    exact ⟨ret_i64 Hs.out.symm, HB.out⟩
  rw [h2] at ct1
  have Hs := Lib.hid (show (if okCnf ⟨n, xss, ts⟩ then (0 : Int) else 62) = if okRows n xss then 0 else 62 by simp [okCnf, hv, h2])
  generalize (if okCnf ⟨n, xss, ts⟩ then (0 : Int) else 62) = r at Hs ⊢
  have HB := Lib.hid hb
  subst hW
  clear hb h2 hv
  go_enter Tryz.func39, Tryz.ntmps39
  go_wp2_with fail
  refine ct1.out.mono ?_
  rintro e w' ⟨rfl, rfl⟩
  go_wp2_with fail
  go_loop [24] (fun i => ∃ k : Nat, k ≤ xss.length ∧ i = .int .i64 k ∧ Hid (okRows n (xss.take k) = true)) (fun i => xss.length - (intOf i).toNat)
  case atStart => exact ⟨0, Nat.zero_le _, rfl, by simp [Hid, okRows]⟩
  case round =>
    obtain ⟨k, hk, rfl, hall⟩ := hrel
    by_cases hlt : k < xss.length
    · obtain ⟨ad, A1, c1, xs, rfl, hcell, hc1, hm1, Hx, HX1⟩ := HX.out.get hlt
      have ct2 := Lib.hid (literals_calls A1 c1 xs n _ HX1.out (by omega) (by omega) (by omega))
      by_cases hp : xs.all (okLit n) = true
      · rw [hp] at ct2
        have Hs2 := Lib.hid (show okRows n (xss.take (k + 1)) = true by have := hall.out; unfold okRows at this ⊢; rw [all_take_succ Hx.out, this, hp]; rfl)
        clear hp
        go_wp2_with fail
        refine ct2.out.mono ?_
        rintro e w' ⟨rfl, rfl⟩
        go_wp2_with fail
        exact ⟨⟨k + 1, by omega, by go_num, Hs2⟩, by simp [intOf]; omega⟩
      · have hp' : xs.all (okLit n) = false := by simpa using hp
        rw [hp'] at ct2
        have Hs2 := Lib.hid (show r = 62 by have := Hs.out; rw [this]; unfold okRows; rw [all_false Hx.out (by simpa using hp')]; rfl)
        clear hp hp'
        go_wp2_with fail
        refine ct2.out.mono ?_
        rintro e w' ⟨rfl, rfl⟩
        go_wp2_with fail
        go_ret
        exact ⟨ret_i64 Hs2.out.symm, HB.out⟩
    · have Hs2 := Lib.hid (show r = 0 by have := Hs.out; rw [this]; unfold okRows; have h2 := hall.out; unfold okRows at h2; rw [all_done h2 (by omega)]; rfl)
      go_wp2_with fail
      go_ret
      exact ⟨ret_i64 Hs2.out.symm, HB.out⟩

end Go.Proofs.YtnadmnhkfdkafaaGreatDoor
