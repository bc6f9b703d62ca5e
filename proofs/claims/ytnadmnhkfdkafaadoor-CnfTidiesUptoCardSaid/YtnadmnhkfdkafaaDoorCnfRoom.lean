/- Contracts of the law's rooms: newCnfRoom, cnfRoom.in, cnfRoom.kept. -/
import Derived.Test.YtnadmnhkfdkafaaDoorRooms2
import Derived.Deep.RegionWith
namespace Go.Proofs.YtnadmnhkfdkafaaDoor
open Go.RowKit
set_option linter.unusedVariables false
set_option linter.unusedSimpArgs false

def CnfRoomAt (w : World) (v : Value) (n : Int) (xss : List (List Int)) (ts : List Int) : Prop :=
  ∃ ae ce af cf at_ ct, v = .agg #[.int .i64 n, .slice ae xss.length ce, .slice (some af) (xss.length + 2) cf, .slice (some at_) (ts.length + 3) ct, .int .i64 ts.length] ∧
    RoomsAt w (.agg #[.slice ae xss.length ce, .slice (some af) (xss.length + 2) cf]) xss ∧ RoomAt w (.agg #[.slice (some at_) (ts.length + 3) ct, .int .i64 ts.length]) ts
theorem CnfRoomAt.below {w w' : World} {v : Value} {n : Int} {xss : List (List Int)} {ts : List Int} (h : CnfRoomAt w v n xss ts) (hb : Below w.heap.size w w') : CnfRoomAt w' v n xss ts := by
  obtain ⟨ae, ce, af, cf, at_, ct, e, h1, h2⟩ := h
  exact ⟨ae, ce, af, cf, at_, ct, e, h1.below hb, h2.below hb⟩

set_option maxHeartbeats 8000000 in
set_option maxRecDepth 100000 in
theorem newCnfRoom_calls (n : Int) (A : Option Addr) (c : Nat) (xss : List (List Int)) (At : Option Addr) (ct : Nat) (ts : List Int) (w : World)
    (hx : RowsAt w A xss) (ht : IntsAt w At ts) (hl : xss.length ≤ 1048576) (htl : ts.length ≤ 1048576) (hxl : ∀ l ∈ xss, l.length ≤ 1048576) :
    Calls Tryd.prog 7 #[.agg #[.int .i64 n, .slice A xss.length c, .slice At ts.length ct]] w fun e w' => ∃ v, e = .returned v ∧ CnfRoomAt w' v n xss ts ∧ Below w.heap.size w w' := by
  have HX := Lib.hid hx
  have HT := Lib.hid ht
  have HL := Lib.hid hxl
  clear hx ht hxl
  go_enter Tryd.func7, Tryd.ntmps7
  go_wp2_with fail
  obtain ⟨W, hW⟩ : ∃ W, W = (w.alloc (.cells #[.int .i64 n, .slice A xss.length c, .slice At ts.length ct] 25)).alloc (.cells #[.int .i64 0, .slice none 0 0, .slice none 0 0, .slice none 0 0, .int .i64 0] 35) := ⟨_, rfl⟩
  have HbW := Lib.hid (show Below w.heap.size w W by rw [hW]; exact ((Below.refl w.heap.size w).alloc (Nat.le_refl _) _).alloc (by simp) _)
  have HB1 := Lib.hid (show Blk W w.heap.size 25 #[.int .i64 n, .slice A xss.length c, .slice At ts.length ct] by rw [hW]; exact (Blk.new w _ _).alloc _)
  have HB2 := Lib.hid (show Blk W (w.heap.size + 1) 35 #[.int .i64 0, .slice none 0 0, .slice none 0 0, .slice none 0 0, .int .i64 0] by
    rw [hW]; have h := Blk.new (w.alloc (.cells #[.int .i64 n, .slice A xss.length c, .slice At ts.length ct] 25)) 35 #[.int .i64 0, .slice none 0 0, .slice none 0 0, .slice none 0 0, .int .i64 0]; simpa using h)
  rw [← hW]
  clear hW
  have a0 : W.cell? ⟨w.heap.size, 0, none⟩ = some (.int .i64 n) := by have := HB1.out.cell 0; simpa using this
  have a1 : W.cell? ⟨w.heap.size, 1, none⟩ = some (.slice A xss.length c) := by have := HB1.out.cell 1; simpa using this
  have a2 : W.cell? ⟨w.heap.size, 2, none⟩ = some (.slice At ts.length ct) := by have := HB1.out.cell 2; simpa using this
  go_region_with (first
    | (go_at_call 22
       refine (newRooms_calls A c xss _ ?_ hl HL.out).mono ?_
       exact HX.out.below (by first | exact HbW.out | exact HbW.out.drew)
       rintro e w2 ⟨tss, ve, vf, p1, p2, rfl, hrs, hb2⟩
       have Hb2 := Lib.hid (show Below W.heap.size W w2 by first | exact hb2 | exact (Below.refl _ W).drew.trans hb2)
       have HRS := Lib.hid hrs
       obtain ⟨ae, ce, gf, cf, rfl, rfl⟩ := hrs.form
       have b0 : w2.cell? ⟨w.heap.size, 0, none⟩ = some (.int .i64 n) := cell_kept Hb2.out a0
       have b2 : w2.cell? ⟨w.heap.size, 2, none⟩ = some (.slice At ts.length ct) := cell_kept Hb2.out a2
       clear hb2 hrs)
    | (go_at_call 23
       refine (newRoom_calls At ct ts _ ?_ htl).mono ?_
       exact IntsAt.below (IntsAt.below HT.out HbW.out) Hb2.out
       rintro e w3 ⟨g, cap, rfl, hrt, hb3⟩
       have HRT := Lib.hid hrt
       have Hb3 := Lib.hid hb3
       have d0 : w3.cell? ⟨w.heap.size, 0, none⟩ = some (.int .i64 n) := cell_kept hb3 b0
       have HB23 := Lib.hid ((HB2.out.below Hb2.out).below hb3)
       have z0 : w3.cell? ⟨w.heap.size + 1, 0, none⟩ = some (.int .i64 0) := by have := HB23.out.cell 0; simpa using this
       have z1 : w3.cell? ⟨w.heap.size + 1, 1, none⟩ = some (.slice none 0 0) := by have := HB23.out.cell 1; simpa using this
       have z2 : w3.cell? ⟨w.heap.size + 1, 2, none⟩ = some (.slice none 0 0) := by have := HB23.out.cell 2; simpa using this
       have z3 : w3.cell? ⟨w.heap.size + 1, 3, none⟩ = some (.slice none 0 0) := by have := HB23.out.cell 3; simpa using this
       have z4 : w3.cell? ⟨w.heap.size + 1, 4, none⟩ = some (.int .i64 0) := by have := HB23.out.cell 4; simpa using this
       have zf : ∀ i, w3.frozen? ⟨w.heap.size + 1, i, none⟩ = false := fun i => HB23.out.frozen i
       unfold roomV
       clear hrt hb3))
  all_goals
    go_wp2_with fail
    have hlt := HB2.out.lt
    have hlt3 : w.heap.size + 1 < w2.heap.size := Nat.lt_of_lt_of_le hlt Hb2.out.size
    have R := (((((HRS.out.below Hb3.out).far (p := ⟨w.heap.size + 1, 0, none⟩) (by simpa using hlt) (.int .i64 n)).far (p := ⟨w.heap.size + 1, 1, none⟩) (by simpa using hlt) (.slice ae xss.length ce)).far (p := ⟨w.heap.size + 1, 2, none⟩) (by simpa using hlt) (.slice (some ⟨gf, 0, none⟩) (xss.length + 2) cf)).far (p := ⟨w.heap.size + 1, 3, none⟩) (by simpa using hlt) (.slice (some ⟨g, 0, none⟩) (ts.length + 3) cap)).far (p := ⟨w.heap.size + 1, 4, none⟩) (by simpa using hlt) (.int .i64 ts.length)
    have T : RoomT _ _ (g, cap, ts) := own_far (own_far (own_far (own_far (own_far HRT.out (p := ⟨w.heap.size + 1, 0, none⟩) hlt3 (.int .i64 n)) (p := ⟨w.heap.size + 1, 1, none⟩) hlt3 (.slice ae xss.length ce)) (p := ⟨w.heap.size + 1, 2, none⟩) hlt3 (.slice (some ⟨gf, 0, none⟩) (xss.length + 2) cf)) (p := ⟨w.heap.size + 1, 3, none⟩) hlt3 (.slice (some ⟨g, 0, none⟩) (ts.length + 3) cap)) (p := ⟨w.heap.size + 1, 4, none⟩) hlt3 (.int .i64 ts.length)
    have B := (((((below_of (below_of HbW.out HbW.out.size Hb2.out) (Nat.le_trans HbW.out.size Hb2.out.size) Hb3.out).setCell (p := ⟨w.heap.size + 1, 0, none⟩) (by simp) (.int .i64 n)).setCell (p := ⟨w.heap.size + 1, 1, none⟩) (by simp) (.slice ae xss.length ce)).setCell (p := ⟨w.heap.size + 1, 2, none⟩) (by simp) (.slice (some ⟨gf, 0, none⟩) (xss.length + 2) cf)).setCell (p := ⟨w.heap.size + 1, 3, none⟩) (by simp) (.slice (some ⟨g, 0, none⟩) (ts.length + 3) cap)).setCell (p := ⟨w.heap.size + 1, 4, none⟩) (by simp) (.int .i64 ts.length)
    refine bodyPost_ret (v := .agg #[.int .i64 n, .slice ae xss.length ce, .slice (some ⟨gf, 0, none⟩) (xss.length + 2) cf, .slice (some ⟨g, 0, none⟩) (ts.length + 3) cap, .int .i64 ts.length]) (by simp [results, Tryd.results7, go_sem, z0, z1, z2, z3, z4]) rfl ⟨_, rfl, ⟨ae, ce, ⟨gf, 0, none⟩, cf, ⟨g, 0, none⟩, cap, rfl, R.at_, T.at_⟩, B⟩

end Go.Proofs.YtnadmnhkfdkafaaDoor
