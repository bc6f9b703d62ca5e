/- Contracts of the law's rooms: cnfRoom.in, cnfRoom.kept. -/
import Derived.Test.YtnadmnhkfdkafaaDoorCnfRoom
namespace Go.Proofs.YtnadmnhkfdkafaaDoor
open Go.RowKit
set_option linter.unusedVariables false
set_option linter.unusedSimpArgs false

set_option maxHeartbeats 1000000 in
theorem roomsInE_calls (ae : Option Addr) (af : Addr) (n m ce cf : Nat) (w : World) (h1 : n ≤ cf) (h2 : n ≤ 1048576) :
    Calls Tryd.prog 25 #[.agg #[.slice ae n ce, .slice (some af) m cf]] w fun e w' => e = .returned (.slice (some af) n cf) ∧ Below w.heap.size w w' := by
  have hlz : (n : Int) ≤ cf := by omega
  go_enter Tryd.func25, Tryd.ntmps25
  go_wp2_with fail
  go_ret
  exact ⟨rfl, (Below.refl w.heap.size w).alloc (Nat.le_refl _) _⟩
set_option maxHeartbeats 1000000 in
theorem roomInE_calls (ad : Addr) (n m cap : Nat) (w : World) (h1 : n ≤ cap) (h2 : n ≤ 1048576) :
    Calls Tryd.prog 26 #[.agg #[.slice (some ad) m cap, .int .i64 n]] w fun e w' => e = .returned (.slice (some ad) n cap) ∧ Below w.heap.size w w' := by
  have hlz : (n : Int) ≤ cap := by omega
  go_enter Tryd.func26, Tryd.ntmps26
  go_wp2_with fail
  go_ret
  exact ⟨rfl, (Below.refl w.heap.size w).alloc (Nat.le_refl _) _⟩

set_option maxHeartbeats 8000000 in
set_option maxRecDepth 100000 in
theorem cnfIn_calls (v : Value) (n : Int) (xss : List (List Int)) (ts : List Int) (w : World) (h : CnfRoomAt w v n xss ts) (hl : xss.length ≤ 1048576) (htl : ts.length ≤ 1048576) :
    Calls Tryd.prog 9 #[v] w fun e w' => ∃ af cf at_ ct, e = .returned (.agg #[.int .i64 n, .slice (some af) xss.length cf, .slice (some at_) ts.length ct]) ∧ xss.length ≤ cf ∧ RowsAt w' (some af) xss ∧ IntsAt w' (some at_) ts ∧ Below w.heap.size w w' := by
  obtain ⟨ae, ce, af, cf, at_, ct, rfl, hR, hT⟩ := h
  obtain ⟨tss, ae', ce', af', cf', p1, p2, eR, h1, h2, h3, h4, h5, h6, h7, h8, h9, h10⟩ := hR
  simp at eR
  obtain ⟨⟨rfl, rfl⟩, rfl, rfl⟩ := eR
  obtain ⟨ad', cap', eT, t1, t2, t3⟩ := hT
  simp at eT
  obtain ⟨rfl, rfl⟩ := eT
  have HRows := Lib.hid (show RowsAt w (some af) xss by have := rows_of_rooms h2 h8.left; rwa [h1] at this)
  have HInts := Lib.hid (show IntsAt w (some at_) ts from t3.left)
  clear h1 h2 h5 h8 h9 h10 t3
  have hlf : xss.length ≤ cf := by omega
  have hlt : ts.length ≤ ct := by omega
  go_enter Tryd.func9, Tryd.ntmps9
  go_wp2_with fail
  obtain ⟨W, hW⟩ : ∃ W, W = (w.alloc (.cells #[.int .i64 n, .slice ae xss.length ce, .slice (some af) (xss.length + 2) cf, .slice (some at_) (ts.length + 3) ct, .int .i64 ts.length] 35)).alloc (.cells #[.int .i64 0, .slice none 0 0, .slice none 0 0] 25) := ⟨_, rfl⟩
  have HbW := Lib.hid (show Below w.heap.size w W by rw [hW]; exact ((Below.refl w.heap.size w).alloc (Nat.le_refl _) _).alloc (by simp) _)
  have HB1 := Lib.hid (show Blk W w.heap.size 35 #[.int .i64 n, .slice ae xss.length ce, .slice (some af) (xss.length + 2) cf, .slice (some at_) (ts.length + 3) ct, .int .i64 ts.length] by rw [hW]; exact (Blk.new w _ _).alloc _)
  have HB2 := Lib.hid (show Blk W (w.heap.size + 1) 25 #[.int .i64 0, .slice none 0 0, .slice none 0 0] by
    rw [hW]; have h := Blk.new (w.alloc (.cells #[.int .i64 n, .slice ae xss.length ce, .slice (some af) (xss.length + 2) cf, .slice (some at_) (ts.length + 3) ct, .int .i64 ts.length] 35)) 25 #[.int .i64 0, .slice none 0 0, .slice none 0 0]; simpa using h)
  rw [← hW]
  clear hW
  have a0 : W.cell? ⟨w.heap.size, 0, none⟩ = some (.int .i64 n) := by have := HB1.out.cell 0; simpa using this
  have a1 : W.cell? ⟨w.heap.size, 1, none⟩ = some (.slice ae xss.length ce) := by have := HB1.out.cell 1; simpa using this
  have a2 : W.cell? ⟨w.heap.size, 2, none⟩ = some (.slice (some af) (xss.length + 2) cf) := by have := HB1.out.cell 2; simpa using this
  have a3 : W.cell? ⟨w.heap.size, 3, none⟩ = some (.slice (some at_) (ts.length + 3) ct) := by have := HB1.out.cell 3; simpa using this
  have a4 : W.cell? ⟨w.heap.size, 4, none⟩ = some (.int .i64 ts.length) := by have := HB1.out.cell 4; simpa using this
  go_region_with (first
    | (go_at_call 25
       refine (roomsInE_calls ae af xss.length (xss.length + 2) ce cf _ hlf hl).mono ?_
       rintro e w2 ⟨rfl, hb2⟩
       have Hb2 := Lib.hid (show Below W.heap.size W w2 by first | exact hb2 | exact (Below.refl _ W).drew.trans hb2)
       have b0 : w2.cell? ⟨w.heap.size, 0, none⟩ = some (.int .i64 n) := cell_kept Hb2.out a0
       have b3 : w2.cell? ⟨w.heap.size, 3, none⟩ = some (.slice (some at_) (ts.length + 3) ct) := cell_kept Hb2.out a3
       have b4 : w2.cell? ⟨w.heap.size, 4, none⟩ = some (.int .i64 ts.length) := cell_kept Hb2.out a4
       clear hb2)
    | (go_at_call 26
       refine (roomInE_calls at_ ts.length (ts.length + 3) ct _ hlt htl).mono ?_
       rintro e w3 ⟨rfl, hb3⟩
       have Hb3 := Lib.hid hb3
       have d0 : w3.cell? ⟨w.heap.size, 0, none⟩ = some (.int .i64 n) := cell_kept hb3 b0
       have HB23 := Lib.hid ((HB2.out.below Hb2.out).below hb3)
       have z0 : w3.cell? ⟨w.heap.size + 1, 0, none⟩ = some (.int .i64 0) := by have := HB23.out.cell 0; simpa using this
       have z1 : w3.cell? ⟨w.heap.size + 1, 1, none⟩ = some (.slice none 0 0) := by have := HB23.out.cell 1; simpa using this
       have z2 : w3.cell? ⟨w.heap.size + 1, 2, none⟩ = some (.slice none 0 0) := by have := HB23.out.cell 2; simpa using this
       have zf : ∀ i, w3.frozen? ⟨w.heap.size + 1, i, none⟩ = false := fun i => HB23.out.frozen i
       clear hb3))
  all_goals
    go_wp2_with fail
    have B := (((below_of (below_of HbW.out HbW.out.size Hb2.out) (Nat.le_trans HbW.out.size Hb2.out.size) Hb3.out).setCell (p := ⟨w.heap.size + 1, 0, none⟩) (by simp) (.int .i64 n)).setCell (p := ⟨w.heap.size + 1, 1, none⟩) (by simp) (.slice (some af) xss.length cf)).setCell (p := ⟨w.heap.size + 1, 2, none⟩) (by simp) (.slice (some at_) ts.length ct)
    refine bodyPost_ret (v := .agg #[.int .i64 n, .slice (some af) xss.length cf, .slice (some at_) ts.length ct]) (by simp [results, Tryd.results9, go_sem, z0, z1, z2]) rfl ⟨af, cf, at_, ct, rfl, hlf, HRows.out.below B, IntsAt.below HInts.out B, B⟩

set_option maxHeartbeats 2000000 in
set_option maxRecDepth 100000 in
theorem cnfKept_calls (v : Value) (n : Int) (A : Option Addr) (c : Nat) (xss : List (List Int)) (At : Option Addr) (ct : Nat) (ts : List Int) (w : World) (h : CnfRoomAt w v n xss ts)
    (hx : RowsAt w A xss) (ht : IntsAt w At ts) (hl : xss.length ≤ 1048576) (htl : ts.length ≤ 1048576) (hxl : ∀ l ∈ xss, l.length ≤ 1048576) :
    Calls Tryd.prog 14 #[v, .agg #[.int .i64 n, .slice A xss.length c, .slice At ts.length ct]] w fun e w' => e = .returned (.bool true) ∧ Below w.heap.size w w' := by
  obtain ⟨ae, ce, af, cf, at_, ctt, rfl, hR, hT⟩ := h
  have hb := ((Below.refl w.heap.size w).alloc (Nat.le_refl _) (.cells #[.int .i64 n, .slice ae xss.length ce, .slice (some af) (xss.length + 2) cf, .slice (some at_) (ts.length + 3) ctt, .int .i64 ts.length] 35)).alloc (by simp) (.cells #[.int .i64 n, .slice A xss.length c, .slice At ts.length ct] 25)
  have HB1 := Lib.hid ((Blk.new w 35 #[.int .i64 n, .slice ae xss.length ce, .slice (some af) (xss.length + 2) cf, .slice (some at_) (ts.length + 3) ctt, .int .i64 ts.length]).alloc (.cells #[.int .i64 n, .slice A xss.length c, .slice At ts.length ct] 25))
  have HB2 := Lib.hid (Blk.new (w.alloc (.cells #[.int .i64 n, .slice ae xss.length ce, .slice (some af) (xss.length + 2) cf, .slice (some at_) (ts.length + 3) ctt, .int .i64 ts.length] 35)) 25 #[.int .i64 n, .slice A xss.length c, .slice At ts.length ct])
  have cR := Lib.hid (roomsKept_calls _ A c xss _ (hR.below hb) (hx.below hb) hl hxl)
  have HT := Lib.hid (hT.below hb)
  have HTs := Lib.hid (IntsAt.below ht hb)
  have Hb := Lib.hid hb
  clear hR hT hx ht hb
  go_enter Tryd.func14, Tryd.ntmps14
  go_wp2_with fail
  refine cR.out.mono ?_
  rintro e w2 ⟨rfl, hb2⟩
  have k3 : w2.cell? ⟨w.heap.size, 3, none⟩ = some (.slice (some at_) (ts.length + 3) ctt) := by have := (HB1.out.below hb2).cell 3; simpa using this
  have k4 : w2.cell? ⟨w.heap.size, 4, none⟩ = some (.int .i64 ts.length) := by have := (HB1.out.below hb2).cell 4; simpa using this
  have k5 : w2.cell? ⟨w.heap.size + 1, 2, none⟩ = some (.slice At ts.length ct) := by have := (HB2.out.below hb2).cell 2; simpa using this
  have cT := Lib.hid (roomKept_calls _ At ct ts w2 (HT.out.below hb2) (IntsAt.below HTs.out hb2) htl)
  have Hb2 := Lib.hid (below_of Hb.out Hb.out.size hb2)
  clear hb2 cR
  go_wp2_with fail
  refine cT.out.mono ?_
  rintro e w3 ⟨rfl, hb3⟩
  have Hb3 := Lib.hid (below_of Hb2.out Hb2.out.size hb3)
  clear hb3
  go_wp2_with fail
  go_ret
  exact ⟨rfl, Hb3.out⟩

end Go.Proofs.YtnadmnhkfdkafaaDoor
