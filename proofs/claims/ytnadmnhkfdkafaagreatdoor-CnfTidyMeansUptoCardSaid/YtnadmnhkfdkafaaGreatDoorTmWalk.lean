/- Contracts: truth, clauseTrue, all of the law CnfTidyMeans. -/
import Derived.Test.YtnadmnhkfdkafaaGreatDoorTmPlain
import Derived.Test.YtnadmnhkfdkafaaGreatDoorReadC
namespace Go.Proofs.YtnadmnhkfdkafaaGreatDoor
open Go.RowKit
set_option linter.unusedVariables false
set_option linter.unusedSimpArgs false

def BoolsAt (w : World) (A : Option Addr) (bs : List Bool) : Prop := CellsAt w A (bs.map Value.bool)
theorem BoolsAt.below {w w' : World} {A : Option Addr} {bs : List Bool} (h : BoolsAt w A bs) (hb : Below w.heap.size w w') : BoolsAt w' A bs := CellsAt.below h hb
theorem BoolsAt.get {w : World} {A : Option Addr} {bs : List Bool} (h : BoolsAt w A bs) {k : Nat} (hk : k < bs.length) : ∃ ad b, A = some ad ∧ w.cell? (ad.add k) = some (.bool b) ∧ Hid (bs.getD k false = b) := by
  obtain ⟨ad, u, e, hc, hu⟩ := CellsAt.get h (k := k) (by simpa using hk)
  rw [List.getElem?_map, List.getElem?_eq_getElem hk] at hu
  simp at hu
  exact ⟨ad, bs[k], e, by rw [hc, ← hu], by show _ = _; rw [List.getD_eq_getElem?_getD, List.getElem?_eq_getElem hk]; rfl⟩

set_option maxHeartbeats 1000000 in
theorem truth_calls (A : Option Addr) (c : Nat) (val : List Bool) (x : Int) (w : World) (h : BoolsAt w A val) (hv : val.length ≤ 2097152) (h0 : -1000000 ≤ x) (h1 : x ≤ 1000000) :
    Calls Tryz.prog 31 #[.slice A val.length c, .int .i64 x] w fun e w' => e = .returned (.bool (truthB val x)) ∧ w = w' := by
  have HV := Lib.hid h
  clear h
  by_cases hp : 0 < x
  · by_cases hl : x ≤ val.length
    · obtain ⟨ad, b, rfl, hc, Hb⟩ := HV.out.get (k := (x - 1).toNat) (by omega)
      have Hr := Lib.hid (show truthB val x = b by unfold truthB; rw [if_pos ⟨hp, hl⟩]; exact Hb.out)
      obtain ⟨k, hk⟩ : ∃ k : Nat, x - 1 = k := ⟨(x - 1).toNat, by omega⟩
      have hkt : (x - 1).toNat = k := by omega
      rw [hkt] at hc
      have hkl : (k : Int) < (val.length : Int) := by omega
      have hkn : k < val.length := by omega
      have e1 : IntKind.i64.wrap (x - 1) = (k : Int) := by rw [hk]; exact IntWalk.i64_in _ (by omega)
      clear hkt
      go_enter Tryz.func31, Tryz.ntmps31
      go_wp2
      go_ret
      exact ⟨ret_bool Hr.out.symm, rfl⟩
    · have Hr := Lib.hid (show truthB val x = false by unfold truthB; rw [if_neg (by omega), if_neg (by omega)])
      go_enter Tryz.func31, Tryz.ntmps31
      go_wp2
      go_ret
      exact ⟨ret_bool Hr.out.symm, rfl⟩
  · by_cases hn : x < 0 ∧ -x ≤ val.length
    · obtain ⟨hn, hl⟩ := hn
      obtain ⟨ad, b, rfl, hc, Hb⟩ := HV.out.get (k := (-x - 1).toNat) (by omega)
      have Hr := Lib.hid (show truthB val x = !b by unfold truthB; rw [if_neg (by omega), if_pos ⟨hn, hl⟩, Hb.out])
      obtain ⟨k, hk⟩ : ∃ k : Nat, -x - 1 = k := ⟨(-x - 1).toNat, by omega⟩
      have hkt : (-x - 1).toNat = k := by omega
      rw [hkt] at hc
      have hkl : (k : Int) < (val.length : Int) := by omega
      have hkn : k < val.length := by omega
      clear hkt
      go_enter Tryz.func31, Tryz.ntmps31
      go_wp2
      go_ret
      exact ⟨ret_bool Hr.out.symm, rfl⟩
    · have Hr := Lib.hid (show truthB val x = false by unfold truthB; rw [if_neg (by omega), if_neg hn])
      have hn2 : ¬ x < 0 ∨ (x < 0 ∧ ¬ -x ≤ (val.length : Int)) := by omega
      clear hn
      rcases hn2 with hn | ⟨hn, hn2⟩
      all_goals
        go_enter Tryz.func31, Tryz.ntmps31
        go_wp2
        go_ret
        exact ⟨ret_bool Hr.out.symm, rfl⟩

theorem any_take_succ {α : Type} {p : α → Bool} {xs : List α} {k : Nat} {x : α} (h : xs[k]? = some x) : (xs.take (k + 1)).any p = ((xs.take k).any p || p x) := by
  rw [List.take_add_one, h]; simp

set_option maxHeartbeats 1000000 in
theorem clauseTrue_calls (A : Option Addr) (c : Nat) (val : List Bool) (A1 : Option Addr) (c1 : Nat) (xs : List Int) (w : World) (h : BoolsAt w A val) (hv : val.length ≤ 2097152) (hx : IntsAt w A1 xs) (hl : xs.length ≤ 2097152) (hb : ∀ x ∈ xs, -1000000 ≤ x ∧ x ≤ 1000000) :
    Calls Tryz.prog 33 #[.slice A val.length c, .slice A1 xs.length c1] w fun e w' => e = .returned (.bool (clauseB val xs)) ∧ w = w' := by
  have HV := Lib.hid h
  have HX := Lib.hid hx
  have HB := Lib.hid hb
  clear h hx hb
  generalize hr : clauseB val xs = r
  have HR := Lib.hid hr
  clear hr
  go_enter Tryz.func33, Tryz.ntmps33
  go_wp2_with fail
  go_loop [5] (fun i => ∃ k : Nat, k ≤ xs.length ∧ i = .int .i64 k ∧ Hid ((xs.take k).any (truthB val) = false)) (fun i => xs.length - (intOf i).toNat)
  case atStart => exact ⟨0, Nat.zero_le _, rfl, by simp [Hid]⟩
  case round =>
    obtain ⟨k, hk, rfl, HA⟩ := hrel
    by_cases hlt : k < xs.length
    · obtain ⟨ad, x, rfl, hcell, Hx⟩ := HX.out.get hlt
      have hbx := HB.out x (List.mem_of_getElem? Hx.out)
      have cT := Lib.hid (truth_calls A c val x w HV.out hv hbx.1 hbx.2)
      clear hbx
      cases ht : truthB val x with
      | true =>
        rw [ht] at cT
        have Hs := Lib.hid (show r = true by rw [← HR.out]; unfold clauseB; rw [List.any_eq_true]; exact ⟨x, List.mem_of_getElem? Hx.out, ht⟩)
        clear ht
        go_wp2_with fail
        refine cT.out.mono ?_
        rintro e w' ⟨rfl, rfl⟩
        go_wp2_with fail
        go_ret
        exact ⟨ret_bool Hs.out.symm, rfl⟩
      | false =>
        rw [ht] at cT
        have Hs := Lib.hid (show (xs.take (k + 1)).any (truthB val) = false by rw [any_take_succ Hx.out, HA.out, ht]; rfl)
        clear ht
        go_wp2_with fail
        refine cT.out.mono ?_
        rintro e w' ⟨rfl, rfl⟩
        go_wp2_with fail
        go_round
        case rel => exact ⟨k + 1, by omega, by go_num, Hs⟩
        case measure => simp [intOf]; omega
    · have Hs := Lib.hid (show r = false by rw [← HR.out]; unfold clauseB; have := HA.out; rwa [List.take_of_length_le (by omega)] at this)
      go_wp2_with fail
      go_ret
      exact ⟨ret_bool Hs.out.symm, rfl⟩

set_option maxHeartbeats 1000000 in
theorem all_calls (n : Int) (A : Option Addr) (c : Nat) (xss : List (List Int)) (At : Option Addr) (ct : Nat) (ts : List Int) (Av : Option Addr) (cv : Nat) (val : List Bool) (w : World)
    (hx : RowsAt w A xss) (h : BoolsAt w Av val) (hv : val.length ≤ 2097152) (hl : xss.length ≤ 2097152) (hxl : ∀ l ∈ xss, l.length ≤ 2097152 ∧ ∀ x ∈ l, -1000000 ≤ x ∧ x ≤ 1000000) :
    Calls Tryz.prog 32 #[.agg #[.int .i64 n, .slice A xss.length c, .slice At ts.length ct], .int .i64 xss.length, .slice Av val.length cv] w fun e w' => e = .returned (.bool (allB val xss)) ∧ Below w.heap.size w w' := by
  have hb0 := (Below.refl w.heap.size w).alloc (Nat.le_refl _) (.cells #[.int .i64 n, .slice A xss.length c, .slice At ts.length ct] 54)
  have HX := Lib.hid (hx.below hb0)
  have HV := Lib.hid (h.below hb0)
  have B0 := Lib.hid hb0
  have K0 := Lib.hid (Blk.new w 54 #[.int .i64 n, .slice A xss.length c, .slice At ts.length ct])
  have HL := Lib.hid hxl
  clear hx h hb0 hxl
  generalize hr : allB val xss = r
  have HR := Lib.hid hr
  clear hr
  go_enter Tryz.func32, Tryz.ntmps32
  go_wp2_with fail
  generalize w.alloc (.cells #[.int .i64 n, .slice A xss.length c, .slice At ts.length ct] 54) = W at *
  have k1 : W.cell? ⟨w.heap.size, 1, none⟩ = some (.slice A xss.length c) := by have := K0.out.cell 1; simpa using this
  go_loop [7] (fun i => ∃ k : Nat, k ≤ xss.length ∧ i = .int .i64 k ∧ Hid ((xss.take k).all (clauseB val) = true)) (fun i => xss.length - (intOf i).toNat)
  case atStart => exact ⟨0, Nat.zero_le _, rfl, by simp [Hid]⟩
  case round =>
    obtain ⟨k, hk, rfl, HA⟩ := hrel
    by_cases hlt : k < xss.length
    · obtain ⟨ad, A1, c1, l, rfl, hcell, _, _, Hl, HI⟩ := HX.out.get hlt
      have hbl := HL.out l (List.mem_of_getElem? Hl.out)
      have cT := Lib.hid (clauseTrue_calls Av cv val A1 c1 l W HV.out hv HI.out hbl.1 hbl.2)
      have hlz : (k : Int) < (xss.length : Int) := by omega
      clear hbl
      cases ht : clauseB val l with
      | false =>
        rw [ht] at cT
        have Hs := Lib.hid (show r = false by rw [← HR.out]; exact all_false Hl.out ht)
        clear ht
        go_wp2_with fail
        refine cT.out.mono ?_
        rintro e w' ⟨rfl, rfl⟩
        go_wp2_with fail
        go_ret
        exact ⟨ret_bool Hs.out.symm, B0.out⟩
      | true =>
        rw [ht] at cT
        have Hs := Lib.hid (show (xss.take (k + 1)).all (clauseB val) = true by rw [all_take_succ Hl.out, HA.out, ht]; rfl)
        clear ht
        go_wp2_with fail
        refine cT.out.mono ?_
        rintro e w' ⟨rfl, rfl⟩
        go_wp2_with fail
        go_round
        case rel => exact ⟨k + 1, by omega, by go_num, Hs⟩
        case measure => simp [intOf]; omega
    · have Hs := Lib.hid (show r = true by rw [← HR.out]; exact all_done HA.out (by omega))
      have hlz : ¬ ((k : Int) < (xss.length : Int)) := by omega
      go_wp2_with fail
      go_ret
      exact ⟨ret_bool Hs.out.symm, B0.out⟩

end Go.Proofs.YtnadmnhkfdkafaaGreatDoor
