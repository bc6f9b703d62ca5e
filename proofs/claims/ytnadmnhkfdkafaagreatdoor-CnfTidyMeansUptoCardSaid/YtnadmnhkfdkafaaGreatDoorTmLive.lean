/- Contract: live of the law CnfTidyMeans: one text is read and tidied. -/
import Derived.Test.YtnadmnhkfdkafaaGreatDoorTmWalk
import Derived.Test.YtnadmnhkfdkafaaGreatDoorRdRead
import Derived.Test.YtnadmnhkfdkafaaGreatDoorTidy
namespace Go.Proofs.YtnadmnhkfdkafaaGreatDoor
open Go.RowKit
set_option linter.unusedVariables false
set_option linter.unusedSimpArgs false

theorem cellsAt_new (w : World) (t : Nat) (vs : List Value) : CellsAt (w.alloc (.cells vs.toArray t)) (some ⟨w.heap.size, 0, none⟩) vs := by
  refine .inr ⟨_, rfl, fun j u hu => ?_⟩
  have h := (Blk.new w t vs.toArray).cell j
  have e : (⟨w.heap.size, 0, none⟩ : Addr).add j = ⟨w.heap.size, j, none⟩ := by unfold Addr.add; split <;> simp_all
  rw [e, h]
  simpa using hu
/-- a list held against a written one -/
theorem same_lit (A : Option Addr) (c : Nat) (xs : List Int) (W : World) (g : Nat) (hg : g = W.heap.size) (h : IntsAt W A xs) (hl : xs.length ≤ 2097152) :
    Calls Tryz.prog 25 #[.slice A xs.length c, .slice (some ⟨g, 0, none⟩) xs.length xs.length] (W.alloc (.cells (xs.map (Value.int .i64)).toArray 3)) fun e w' => e = .returned (.bool true) ∧ Below W.heap.size W w' := by
  subst hg
  have hb := (Below.refl W.heap.size W).alloc (Nat.le_refl _) (.cells (xs.map (Value.int .i64)).toArray 3)
  refine (sameInts_calls A c xs (some ⟨W.heap.size, 0, none⟩) xs.length xs _ (IntsAt.below h hb) (cellsAt_new W 3 (xs.map (Value.int .i64))) (by omega) (by omega)).mono ?_
  rintro e w' ⟨rfl, q, rfl⟩
  exact ⟨by simp, below_drewN hb q⟩

set_option maxHeartbeats 8000000 in
set_option maxRecDepth 100000 in
theorem live_calls (w : World) (hr : RangeV w) (ht : Tab w) : Calls Tryz.prog 37 #[] w fun e w' => e = .returned (.bool true) ∧ Below w.heap.size w w' := by
  have HT := Lib.hid ht
  have cR := Lib.hid (show Calls Tryz.prog 69 #[.string ⟨liveL.toArray⟩] w (ReadEnd w liveL (.inr (3, [[3, -1], [2]], [-3]))) by
    have h := read_calls ⟨liveL.toArray⟩ w (by decide) hr
    have e : (⟨liveL.toArray⟩ : ByteArray).data.toList = liveL := rfl
    rw [e, live_read] at h
    exact h)
  clear hr ht
  go_enter Tryz.func37, Tryz.ntmps37
  go_wp2_with fail
  refine cR.out.mono ?_
  rintro e w1 ⟨hb1, vc, vt, vs, rfl, hOC, hOI, _, _⟩
  obtain ⟨Ac, cc, rfl, hcc, hcm, hRc⟩ := hOC.rows
  obtain ⟨At, ct, rfl, hIt⟩ := ownI_form hOI
  have hz := (Below.refl w1.heap.size w1).alloc (Nat.le_refl _) (.cells #[.int .i64 3, .slice Ac 2 cc, .slice At 1 ct] 54)
  have B1 := Lib.hid (hb1.alloc hb1.size (.cells #[.int .i64 3, .slice Ac 2 cc, .slice At 1 ct] 54))
  have K1 := Lib.hid (Blk.new w1 54 #[.int .i64 3, .slice Ac 2 cc, .slice At 1 ct])
  have R1 := Lib.hid (hRc.below hz)
  have I1 := Lib.hid (IntsAt.below hIt hz)
  have Hcc := Lib.hid (show 2 ≤ cc from hcc)
  clear hb1 hOC hOI hRc hIt hz cR hcc
  obtain ⟨W, hW⟩ : ∃ W, W = w1.alloc (.cells #[.int .i64 3, .slice Ac 2 cc, .slice At 1 ct] 54) := ⟨_, rfl⟩
  rw [← hW] at B1 K1 R1 I1
  obtain ⟨ad, A0, c0, l0, rfl, hc0, _, _, Hl0, H0⟩ := R1.out.get (k := 0) (by simp)
  obtain ⟨ad', A1, c1, l1, hade, hc1, _, _, Hl1, H1⟩ := R1.out.get (k := 1) (by simp)
  injection hade with hade
  subst hade
  obtain rfl : l0 = [3, -1] := by have := Hl0.out; simpa using this.symm
  obtain rfl : l1 = [2] := by have := Hl1.out; simpa using this.symm
  have d0 : W.cell? ad = some (.slice A0 2 c0) := by have := hc0; simpa [Addr.add] using this
  have d1 : W.cell? ⟨ad.block, ad.off + 1, none⟩ = some (.slice A1 1 c1) := by have := hc1; simpa [Addr.add] using this
  have k0 : W.cell? ⟨w1.heap.size, 0, none⟩ = some (.int .i64 3) := by have := K1.out.cell 0; simpa using this
  have k1 : W.cell? ⟨w1.heap.size, 1, none⟩ = some (.slice (some ad) 2 cc) := by have := K1.out.cell 1; simpa using this
  have k2 : W.cell? ⟨w1.heap.size, 2, none⟩ = some (.slice At 1 ct) := by have := K1.out.cell 2; simpa using this
  have s1 := Lib.hid (same_lit A0 c0 [3, -1] W (w1.heap.size + 1) (by rw [hW]; simp) H0.out (by simp))
  clear hc0 hc1 Hl0 Hl1
  subst hW
  go_wp2_with fail
  refine s1.out.mono ?_
  rintro e w3 ⟨rfl, hb3⟩
  have K3 := Lib.hid (K1.out.below hb3)
  have B3 := Lib.hid (below_of B1.out B1.out.size hb3)
  have R3 := Lib.hid (R1.out.below hb3)
  have I3 := Lib.hid (IntsAt.below I1.out hb3)
  have J3 := Lib.hid (IntsAt.below H1.out hb3)
  have e1 : w3.cell? ⟨ad.block, ad.off + 1, none⟩ = some (.slice A1 1 c1) := cell_kept hb3 d1
  clear d0 d1 k0 k1 k2 hb3 s1 K1 B1 R1 I1 H0 H1
  have k1 : w3.cell? ⟨w1.heap.size, 1, none⟩ = some (.slice (some ad) 2 cc) := by have := K3.out.cell 1; simpa using this
  have k2 : w3.cell? ⟨w1.heap.size, 2, none⟩ = some (.slice At 1 ct) := by have := K3.out.cell 2; simpa using this
  have s2 := Lib.hid (same_lit A1 c1 [2] w3 _ rfl J3.out (by simp))
  go_wp2_with fail
  refine s2.out.mono ?_
  rintro e w4 ⟨rfl, hb4⟩
  have K4 := Lib.hid (K3.out.below hb4)
  have B4 := Lib.hid (below_of B3.out B3.out.size hb4)
  have R4 := Lib.hid (R3.out.below hb4)
  have I4 := Lib.hid (IntsAt.below I3.out hb4)
  clear e1 k1 k2 hb4 s2 K3 B3 R3 I3 J3
  have k2 : w4.cell? ⟨w1.heap.size, 2, none⟩ = some (.slice At 1 ct) := by have := K4.out.cell 2; simpa using this
  have s3 := Lib.hid (same_lit At ct [-3] w4 _ rfl I4.out (by simp))
  go_wp2_with fail
  refine s3.out.mono ?_
  rintro e w5 ⟨rfl, hb5⟩
  have K5 := Lib.hid (K4.out.below hb5)
  have B5 := Lib.hid (below_of B4.out B4.out.size hb5)
  have R5 := Lib.hid (R4.out.below hb5)
  have I5 := Lib.hid (IntsAt.below I4.out hb5)
  clear k2 hb5 s3 K4 B4 R4 I4
  have k0 : w5.cell? ⟨w1.heap.size, 0, none⟩ = some (.int .i64 3) := by have := K5.out.cell 0; simpa using this
  have k1 : w5.cell? ⟨w1.heap.size, 1, none⟩ = some (.slice (some ad) 2 cc) := by have := K5.out.cell 1; simpa using this
  have k2 : w5.cell? ⟨w1.heap.size, 2, none⟩ = some (.slice At 1 ct) := by have := K5.out.cell 2; simpa using this
  have cT := Lib.hid (tidy_calls 3 (some ad) cc [[3, -1], [2]] At ct [-3] w5 R5.out I5.out (by simp) (by simp) (by simp) Hcc.out (HT.out.below B5.out))
  rw [live_ok, live_tidy] at cT
  go_wp2_with fail
  refine cT.out.mono ?_
  rintro e w6 ⟨vc6, vt6, vs6, rfl, hOC6, hOI6, _, _, hb6⟩
  simp only [if_true] at hOC6 hOI6
  obtain ⟨Ac6, cc6, rfl, _, _, hRc6⟩ := hOC6.rows
  obtain ⟨At6, ct6, rfl, hIt6⟩ := ownI_form hOI6
  have hz6 := (Below.refl w6.heap.size w6).alloc (Nat.le_refl _) (.cells #[.int .i64 3, .slice Ac6 2 cc6, .slice At6 1 ct6] 54)
  have B6 := Lib.hid ((below_of B5.out B5.out.size hb6).alloc (below_of B5.out B5.out.size hb6).size (.cells #[.int .i64 3, .slice Ac6 2 cc6, .slice At6 1 ct6] 54))
  have K6 := Lib.hid (Blk.new w6 54 #[.int .i64 3, .slice Ac6 2 cc6, .slice At6 1 ct6])
  have R6 := Lib.hid (hRc6.below hz6)
  clear k0 k1 k2 hb6 cT K5 B5 R5 I5 hOC6 hOI6 hRc6 hIt6 hz6
  obtain ⟨W, hW⟩ : ∃ W, W = w6.alloc (.cells #[.int .i64 3, .slice Ac6 2 cc6, .slice At6 1 ct6] 54) := ⟨_, rfl⟩
  rw [← hW] at B6 K6 R6
  obtain ⟨ad6, A06, c06, l06, rfl, hc06, _, _, Hl06, H06⟩ := R6.out.get (k := 0) (by simp)
  obtain rfl : l06 = [-1, 3] := by have := Hl06.out; simpa using this.symm
  have d0 : W.cell? ad6 = some (.slice A06 2 c06) := by have := hc06; simpa [Addr.add] using this
  have k1 : W.cell? ⟨w6.heap.size, 1, none⟩ = some (.slice (some ad6) 2 cc6) := by have := K6.out.cell 1; simpa using this
  have s6 := Lib.hid (same_lit A06 c06 [-1, 3] W (w6.heap.size + 1) (by rw [hW]; simp) H06.out (by simp))
  clear hc06 Hl06
  subst hW
  go_wp2_with fail
  refine s6.out.mono ?_
  rintro e w7 ⟨rfl, hb7⟩
  have B7 := Lib.hid (below_of B6.out B6.out.size hb7)
  clear hb7 s6
  go_wp2_with fail
  go_ret
  exact ⟨rfl, B7.out⟩

end Go.Proofs.YtnadmnhkfdkafaaGreatDoor
