/- The walk of CnfTidies. -/
import Derived.Test.YtnadmnhkfdkafaaDoorApartAll
import Derived.Test.YtnadmnhkfdkafaaDoorCopied
import Derived.Test.YtnadmnhkfdkafaaDoorCnfIn
import Derived.Test.YtnadmnhkfdkafaaDoorRefShow
import Derived.Test.YtnadmnhkfdkafaaDoorReadC
namespace Go.Proofs.YtnadmnhkfdkafaaDoor
open Go.RowKit
set_option linter.unusedVariables false
set_option linter.unusedSimpArgs false

set_option maxHeartbeats 8000000 in
set_option maxRecDepth 100000 in
theorem law_calls (n : Int) (A : Option Addr) (c : Nat) (xss : List (List Int)) (At : Option Addr) (ct : Nat) (ts : List Int) (w : World)
    (hx : RowsAt w A xss) (ht : IntsAt w At ts) (hl : xss.length ≤ 1048576) (htl : ts.length ≤ 1048576) (hxl : ∀ l ∈ xss, l.length ≤ 1048576) (hc : xss.length ≤ c) (htab : Tab w) :
    Calls Tryd.prog 3 #[.agg #[.int .i64 n, .slice A xss.length c, .slice At ts.length ct]] w fun e w' => e = .returned (.bool true) ∧ Below w.heap.size w w' := by
  have HX := Lib.hid hx
  have HT := Lib.hid ht
  have HL := Lib.hid hxl
  have HTab := Lib.hid htab
  have hb0 := (Below.refl w.heap.size w).alloc (Nat.le_refl _) (.cells #[.int .i64 n, .slice A xss.length c, .slice At ts.length ct] 25)
  have Hb0 := Lib.hid hb0
  have B0 := Lib.hid (Blk.new w 25 #[.int .i64 n, .slice A xss.length c, .slice At ts.length ct])
  have cC := Lib.hid (copied_calls n A c xss At ct ts _ (hx.below hb0) (IntsAt.below ht hb0) hl htl hxl)
  clear hx ht hxl htab hb0
  go_enter Tryd.func3, Tryd.ntmps3
  go_wp2_with fail
  refine cC.out.mono ?_
  rintro e w1 ⟨A1, c1, At1, ct1, rfl, hcc1, hR1, hT1, hb1⟩
  have Hb1 := Lib.hid (below_of Hb0.out Hb0.out.size hb1)
  have B1 := Lib.hid (B0.out.below hb1)
  have cT := Lib.hid (refTidy_calls n A1 c1 xss At1 ct1 ts w1 hR1 hT1 (by omega) (by omega) (fun l hl => by have := HL.out l hl; omega))
  clear hR1 hT1 hb1 cC B0 Hb0
  generalize hok : okCnf ⟨n, xss, ts⟩ = ok at cT
  have Hok := Lib.hid hok
  clear hok
  generalize hN : (if ok then n else 0) = N at cT
  generalize hF : (if ok then (0 : Int) else 62) = F at cT
  generalize hRR : (if ok then tidyR xss else []) = R at cT
  generalize hTT : (if ok then ts else []) = T at cT
  have HN := Lib.hid hN
  have HF := Lib.hid hF
  have HRR := Lib.hid hRR
  have HTT := Lib.hid hTT
  clear hN hF hRR hTT
  go_wp2_with fail
  refine cT.out.mono ?_
  rintro e w2 ⟨vc, vt, rfl, hvc, hvt, hb2⟩
  obtain ⟨Ac, cc, rfl, hcc, _, hRc⟩ := hvc
  obtain ⟨Aw, cw, rfl, _, _, hTw⟩ := hvt
  have HRc := Lib.hid hRc
  have HTw := Lib.hid hTw
  have Hb2 := Lib.hid (below_of Hb1.out Hb1.out.size hb2)
  have B2 := Lib.hid (B1.out.below hb2)
  clear hRc hTw hb2 cT Hb1 B1
  -- the box of 'want'
  have B3 := Lib.hid (B2.out.alloc (.cells #[.int .i64 N, .slice Ac R.length cc, .slice Aw T.length cw] 25))
  have W3 := Lib.hid (Blk.new w2 25 #[.int .i64 N, .slice Ac R.length cc, .slice Aw T.length cw])
  have Hb3 := Lib.hid (Hb2.out.alloc Hb2.out.size (.cells #[.int .i64 N, .slice Ac R.length cc, .slice Aw T.length cw] 25))
  have HRc3 := Lib.hid (HRc.out.below ((Below.refl _ w2).alloc (Nat.le_refl _) (.cells #[.int .i64 N, .slice Ac R.length cc, .slice Aw T.length cw] 25)))
  have HTw3 := Lib.hid (IntsAt.below HTw.out ((Below.refl _ w2).alloc (Nat.le_refl _) (.cells #[.int .i64 N, .slice Ac R.length cc, .slice Aw T.length cw] 25)))
  have k0 : (w2.alloc (.cells #[.int .i64 N, .slice Ac R.length cc, .slice Aw T.length cw] 25)).cell? ⟨w.heap.size, 0, none⟩ = some (.int .i64 n) := by have := B3.out.cell 0; simpa using this
  have k1 : (w2.alloc (.cells #[.int .i64 N, .slice Ac R.length cc, .slice Aw T.length cw] 25)).cell? ⟨w.heap.size, 1, none⟩ = some (.slice A xss.length c) := by have := B3.out.cell 1; simpa using this
  have k2 : (w2.alloc (.cells #[.int .i64 N, .slice Ac R.length cc, .slice Aw T.length cw] 25)).cell? ⟨w.heap.size, 2, none⟩ = some (.slice At ts.length ct) := by have := B3.out.cell 2; simpa using this
  have cR := Lib.hid (newCnfRoom_calls n A c xss At ct ts _ (HX.out.below Hb3.out) (IntsAt.below HT.out Hb3.out) hl htl HL.out)
  clear B2 Hb2 HRc HTw
  go_wp2_with fail
  refine cR.out.mono ?_
  rintro e w4 ⟨v, rfl, hcr, hb4⟩
  have HCR := Lib.hid hcr
  obtain ⟨ae, ce, af, cf, at_, ctt, rfl, _, _⟩ := hcr
  have Hb4 := Lib.hid (below_of Hb3.out Hb3.out.size hb4)
  have B4 := Lib.hid (B3.out.below hb4)
  have W4 := Lib.hid (W3.out.below hb4)
  have HRc4 := Lib.hid (HRc3.out.below hb4)
  have HTw4 := Lib.hid (IntsAt.below HTw3.out hb4)
  clear hb4 cR B3 W3 Hb3 HRc3 HTw3 k0 k1 k2
  have X5 := Lib.hid ((Below.refl w4.heap.size w4).alloc (Nat.le_refl _) (.cells #[.int .i64 n, .slice ae xss.length ce, .slice (some af) (xss.length + 2) cf, .slice (some at_) (ts.length + 3) ctt, .int .i64 ts.length] 35))
  have R5 := Lib.hid (Blk.new w4 35 #[.int .i64 n, .slice ae xss.length ce, .slice (some af) (xss.length + 2) cf, .slice (some at_) (ts.length + 3) ctt, .int .i64 ts.length])
  have B5 := Lib.hid (B4.out.below X5.out)
  have W5 := Lib.hid (W4.out.below X5.out)
  have Hb5 := Lib.hid (below_of Hb4.out Hb4.out.size X5.out)
  have HCR5 := Lib.hid (HCR.out.below X5.out)
  have HRc5 := Lib.hid (HRc4.out.below X5.out)
  have HTw5 := Lib.hid (IntsAt.below HTw4.out X5.out)
  have cI := Lib.hid (cnfIn_calls _ n xss ts _ HCR5.out hl htl)
  clear X5 B4 W4 Hb4 HCR HRc4 HTw4
  go_wp2_with fail
  refine cI.out.mono ?_
  rintro e w6 ⟨a6, f6, t6, g6, rfl, hf6, hR6, hT6, hb6⟩
  have R6 := Lib.hid (R5.out.below hb6)
  have B6 := Lib.hid (B5.out.below hb6)
  have W6 := Lib.hid (W5.out.below hb6)
  have Hb6 := Lib.hid (below_of Hb5.out Hb5.out.size hb6)
  have HCR6 := Lib.hid (HCR5.out.below hb6)
  have HRc6 := Lib.hid (HRc5.out.below hb6)
  have HTw6 := Lib.hid (IntsAt.below HTw5.out hb6)
  have cK := Lib.hid (check_calls n (some a6) f6 xss (some t6) g6 ts w6 hR6 hT6 (by omega) (by omega) hf6)
  rw [Hok.out, HF.out] at cK
  clear hR6 hT6 hb6 cI R5 B5 W5 Hb5 HCR5 HRc5 HTw5
  go_wp2_with fail
  refine cK.out.mono ?_
  rintro e w7 ⟨rfl, hb7⟩
  have R7 := Lib.hid (R6.out.below hb7)
  have B7 := Lib.hid (B6.out.below hb7)
  have W7 := Lib.hid (W6.out.below hb7)
  have Hb7 := Lib.hid (below_of Hb6.out Hb6.out.size hb7)
  have HCR7 := Lib.hid (HCR6.out.below hb7)
  have HRc7 := Lib.hid (HRc6.out.below hb7)
  have HTw7 := Lib.hid (IntsAt.below HTw6.out hb7)
  have cI := Lib.hid (cnfIn_calls _ n xss ts _ HCR7.out hl htl)
  clear hb7 cK R6 B6 W6 Hb6 HCR6 HRc6 HTw6
  have r0 : w7.cell? ⟨w4.heap.size, 0, none⟩ = some (.int .i64 n) := by have := R7.out.cell 0; simpa using this
  have r1 : w7.cell? ⟨w4.heap.size, 1, none⟩ = some (.slice ae xss.length ce) := by have := R7.out.cell 1; simpa using this
  have r2 : w7.cell? ⟨w4.heap.size, 2, none⟩ = some (.slice (some af) (xss.length + 2) cf) := by have := R7.out.cell 2; simpa using this
  have r3 : w7.cell? ⟨w4.heap.size, 3, none⟩ = some (.slice (some at_) (ts.length + 3) ctt) := by have := R7.out.cell 3; simpa using this
  have r4 : w7.cell? ⟨w4.heap.size, 4, none⟩ = some (.int .i64 ts.length) := by have := R7.out.cell 4; simpa using this
  go_wp2_with fail
  refine cI.out.mono ?_
  rintro e w8 ⟨a8, f8, t8, g8, rfl, hf8, hR8, hT8, hb8⟩
  have R8 := Lib.hid (R7.out.below hb8)
  have B8 := Lib.hid (B7.out.below hb8)
  have W8 := Lib.hid (W7.out.below hb8)
  have Hb8 := Lib.hid (below_of Hb7.out Hb7.out.size hb8)
  have HCR8 := Lib.hid (HCR7.out.below hb8)
  have HRc8 := Lib.hid (HRc7.out.below hb8)
  have HTw8 := Lib.hid (IntsAt.below HTw7.out hb8)
  have cY := Lib.hid (tidy_calls n (some a8) f8 xss (some t8) g8 ts w8 hR8 hT8 hl htl HL.out hf8 (HTab.out.below Hb8.out))
  rw [Hok.out, HN.out, HF.out, HRR.out, HTT.out] at cY
  clear hR8 hT8 hb8 cI R7 B7 W7 Hb7 HCR7 HRc7 HTw7 r0 r1 r2 r3 r4
  go_wp2_with fail
  refine cY.out.mono ?_
  rintro e w9 ⟨vg, vgt, vs, rfl, hOC, hOT, hOn, hOa, hb9⟩
  obtain ⟨Ag, cg, rfl, _, _, _⟩ := CellsAt.of_own hOC.1
  obtain ⟨Agt, cgt, rfl, _⟩ := OwnI.form hOT
  have hvR : vs.length = R.length := hOC.2.1
  have R9 := Lib.hid (R8.out.below hb9)
  have B9 := Lib.hid (B8.out.below hb9)
  have W9 := Lib.hid (W8.out.below hb9)
  have HCR9 := Lib.hid (HCR8.out.below hb9)
  have HRc9 := Lib.hid (HRc8.out.below hb9)
  have HTw9 := Lib.hid (IntsAt.below HTw8.out hb9)
  have Hb9 := Lib.hid (below_of Hb8.out Hb8.out.size hb9)
  have Y9 := Lib.hid hb9
  clear W8 HRc8 HTw8 cY
  have hb10 := (Below.refl w9.heap.size w9).alloc (Nat.le_refl _) (.cells #[.int .i64 N, .slice Ag vs.length cg, .slice Agt T.length cgt] 25)
  obtain ⟨w10, hw10⟩ : ∃ w10, w10 = w9.alloc (.cells #[.int .i64 N, .slice Ag vs.length cg, .slice Agt T.length cgt] 25) := ⟨_, rfl⟩
  have GB10 := Lib.hid (show Blk w10 w9.heap.size 25 #[.int .i64 N, .slice Ag vs.length cg, .slice Agt T.length cgt] by rw [hw10]; exact Blk.new _ _ _)
  rw [← hw10] at hb10
  have OC10 := Lib.hid (hOC.below hb10)
  have OT10 := Lib.hid (OwnI.below hOT hb10)
  have R10 := Lib.hid (R9.out.below hb10)
  have B10 := Lib.hid (B9.out.below hb10)
  have W10 := Lib.hid (W9.out.below hb10)
  have HCR10 := Lib.hid (HCR9.out.below hb10)
  have HRc10 := Lib.hid (HRc9.out.below hb10)
  have HTw10 := Lib.hid (IntsAt.below HTw9.out hb10)
  have Hb10 := Lib.hid (below_of Hb9.out Hb9.out.size hb10)
  have k0 : w10.cell? ⟨w.heap.size, 0, none⟩ = some (.int .i64 n) := by have := B10.out.cell 0; simpa using this
  have k1 : w10.cell? ⟨w.heap.size, 1, none⟩ = some (.slice A xss.length c) := by have := B10.out.cell 1; simpa using this
  have k2 : w10.cell? ⟨w.heap.size, 2, none⟩ = some (.slice At ts.length ct) := by have := B10.out.cell 2; simpa using this
  have HOn := Lib.hid hOn
  have HOa := Lib.hid hOa
  have HvR := Lib.hid hvR
  have Y10 := Lib.hid (below_of Y9.out Y9.out.size hb10)
  have Hw8 := Lib.hid (show w8.heap.size ≤ w10.heap.size from Nat.le_trans hb9.size hb10.size)
  have Hlt9 := Lib.hid GB10.out.lt
  have cC := Lib.hid (copied_calls n A c xss At ct ts _ (HX.out.below Hb10.out) (IntsAt.below HT.out Hb10.out) hl htl HL.out)
  clear R9 B9 W9 Hb9 HCR9 HRc9 HTw9 hOC hOT hOn hOa hb9 hb10 hvR
  subst hw10
  go_wp2_with fail
  refine cC.out.mono ?_
  rintro e w11 ⟨A11, c11, At11, ct11, rfl, hcc11, hR11, hT11, hb11⟩
  have cS := Lib.hid (refShow_calls n A11 c11 xss At11 ct11 ts w11 hR11 hT11 hl htl HL.out hcc11)
  rw [Hok.out, HF.out] at cS
  have R11 := Lib.hid (R10.out.below hb11)
  have B11 := Lib.hid (B10.out.below hb11)
  have W11 := Lib.hid (W10.out.below hb11)
  have HCR11 := Lib.hid (HCR10.out.below hb11)
  have HRc11 := Lib.hid (HRc10.out.below hb11)
  have HTw11 := Lib.hid (IntsAt.below HTw10.out hb11)
  have GB11 := Lib.hid (GB10.out.below hb11)
  have OC11 := Lib.hid (OC10.out.below hb11)
  have OT11 := Lib.hid (OwnI.below OT10.out hb11)
  have Hb11 := Lib.hid (below_of Hb10.out Hb10.out.size hb11)
  have Y11 := Lib.hid (below_of Y10.out Y10.out.size hb11)
  have Z11 := Lib.hid (Nat.le_trans Hw8.out hb11.size)
  clear hb11 R10 B10 W10 HCR10 HRc10 HTw10 GB10 OC10 OT10 Hb10
  clear hR11 hT11 cC k0 k1 k2
  generalize hS : (if ok then textOf (showB n xss ts) else textOf []) = S at cS
  have HS := Lib.hid hS
  clear hS
  go_wp2_with fail
  refine cS.out.mono ?_
  rintro e w12 ⟨rfl, hb12⟩
  have R12 := Lib.hid (R11.out.below hb12)
  have B12 := Lib.hid (B11.out.below hb12)
  have W12 := Lib.hid (W11.out.below hb12)
  have HCR12 := Lib.hid (HCR11.out.below hb12)
  have HRc12 := Lib.hid (HRc11.out.below hb12)
  have HTw12 := Lib.hid (IntsAt.below HTw11.out hb12)
  have GB12 := Lib.hid (GB11.out.below hb12)
  have OC12 := Lib.hid (OC11.out.below hb12)
  have OT12 := Lib.hid (OwnI.below OT11.out hb12)
  have Hb12 := Lib.hid (below_of Hb11.out Hb11.out.size hb12)
  have Y12 := Lib.hid (below_of Y11.out Y11.out.size hb12)
  have Z12 := Lib.hid (Nat.le_trans Z11.out hb12.size)
  clear hb12 R11 B11 W11 HCR11 HRc11 HTw11 GB11 OC11 OT11 Hb11
  have r0 : w12.cell? ⟨w4.heap.size, 0, none⟩ = some (.int .i64 n) := by have := R12.out.cell 0; simpa using this
  have r1 : w12.cell? ⟨w4.heap.size, 1, none⟩ = some (.slice ae xss.length ce) := by have := R12.out.cell 1; simpa using this
  have r2 : w12.cell? ⟨w4.heap.size, 2, none⟩ = some (.slice (some af) (xss.length + 2) cf) := by have := R12.out.cell 2; simpa using this
  have r3 : w12.cell? ⟨w4.heap.size, 3, none⟩ = some (.slice (some at_) (ts.length + 3) ctt) := by have := R12.out.cell 3; simpa using this
  have r4 : w12.cell? ⟨w4.heap.size, 4, none⟩ = some (.int .i64 ts.length) := by have := R12.out.cell 4; simpa using this
  have cI := Lib.hid (cnfIn_calls _ n xss ts _ HCR12.out hl htl)
  clear cS
  go_wp2_with fail
  refine cI.out.mono ?_
  rintro e w13 ⟨a13, f13, t13, g13, rfl, hf13, hR13, hT13, hb13⟩
  have cS := Lib.hid (show_calls n (some a13) f13 xss (some t13) g13 ts w13 hR13 hT13 hl htl HL.out hf13 (HTab.out.below (below_of Hb12.out Hb12.out.size hb13)))
  rw [Hok.out, HF.out, HS.out] at cS
  have R13 := Lib.hid (R12.out.below hb13)
  have B13 := Lib.hid (B12.out.below hb13)
  have W13 := Lib.hid (W12.out.below hb13)
  have HCR13 := Lib.hid (HCR12.out.below hb13)
  have HRc13 := Lib.hid (HRc12.out.below hb13)
  have HTw13 := Lib.hid (IntsAt.below HTw12.out hb13)
  have GB13 := Lib.hid (GB12.out.below hb13)
  have OC13 := Lib.hid (OC12.out.below hb13)
  have OT13 := Lib.hid (OwnI.below OT12.out hb13)
  have Hb13 := Lib.hid (below_of Hb12.out Hb12.out.size hb13)
  have Y13 := Lib.hid (below_of Y12.out Y12.out.size hb13)
  have Z13 := Lib.hid (Nat.le_trans Z12.out hb13.size)
  clear hb13 R12 B12 W12 HCR12 HRc12 HTw12 GB12 OC12 OT12 Hb12
  clear hR13 hT13 cI r0 r1 r2 r3 r4
  go_wp2_with fail
  refine cS.out.mono ?_
  rintro e w14 ⟨rfl, hb14⟩
  have R14 := Lib.hid (R13.out.below hb14)
  have B14 := Lib.hid (B13.out.below hb14)
  have W14 := Lib.hid (W13.out.below hb14)
  have HCR14 := Lib.hid (HCR13.out.below hb14)
  have HRc14 := Lib.hid (HRc13.out.below hb14)
  have HTw14 := Lib.hid (IntsAt.below HTw13.out hb14)
  have GB14 := Lib.hid (GB13.out.below hb14)
  have OC14 := Lib.hid (OC13.out.below hb14)
  have OT14 := Lib.hid (OwnI.below OT13.out hb14)
  have Hb14 := Lib.hid (below_of Hb13.out Hb13.out.size hb14)
  have Y14 := Lib.hid (below_of Y13.out Y13.out.size hb14)
  have Z14 := Lib.hid (Nat.le_trans Z13.out hb14.size)
  clear hb14 R13 B13 W13 HCR13 HRc13 HTw13 GB13 OC13 OT13 Hb13
  clear cS
  have g0 : w14.cell? ⟨w9.heap.size, 0, none⟩ = some (.int .i64 N) := by have := GB14.out.cell 0; simpa using this
  have g1 : w14.cell? ⟨w9.heap.size, 1, none⟩ = some (.slice Ag vs.length cg) := by have := GB14.out.cell 1; simpa using this
  have g2 : w14.cell? ⟨w9.heap.size, 2, none⟩ = some (.slice Agt T.length cgt) := by have := GB14.out.cell 2; simpa using this
  have u0 : w14.cell? ⟨w2.heap.size, 0, none⟩ = some (.int .i64 N) := by have := W14.out.cell 0; simpa using this
  have u1 : w14.cell? ⟨w2.heap.size, 1, none⟩ = some (.slice Ac R.length cc) := by have := W14.out.cell 1; simpa using this
  have u2 : w14.cell? ⟨w2.heap.size, 2, none⟩ = some (.slice Aw T.length cw) := by have := W14.out.cell 2; simpa using this
  have hRl : R.length ≤ 1048576 := by
    rw [← HRR.out]; split
    · exact Nat.le_trans (tidyR_length xss) hl
    · simp
  have hTl : T.length ≤ 1048576 := by
    rw [← HTT.out]; split
    · exact htl
    · simp
  have cM := Lib.hid (show Calls Tryd.prog 13 #[.agg #[.int .i64 N, .slice Ag vs.length cg, .slice Agt T.length cgt], .agg #[.int .i64 N, .slice Ac R.length cc, .slice Aw T.length cw]] w14 fun e w' => e = .returned (.bool true) ∧ Below w14.heap.size w14 w' by
    obtain ⟨_, _, e1, _, _, hr⟩ := OC14.out.rows
    obtain ⟨_, _, e2, hi⟩ := OwnI.form OT14.out
    injection e1 with e11 _ _
    injection e2 with e21 _ _
    subst e11; subst e21
    rw [HvR.out]
    have h := same_calls N Ag cg R Agt cgt T N Ac cc R Aw cw T w14 hr hi HRc14.out HTw14.out (by omega) (by omega) (by omega) (by omega)
    simpa using h)
  go_wp2_with fail
  refine cM.out.mono ?_
  rintro e w15 ⟨rfl, hb15⟩
  have R15 := Lib.hid (R14.out.below hb15)
  have B15 := Lib.hid (B14.out.below hb15)
  have W15 := Lib.hid (W14.out.below hb15)
  have HCR15 := Lib.hid (HCR14.out.below hb15)
  have GB15 := Lib.hid (GB14.out.below hb15)
  have OC15 := Lib.hid (OC14.out.below hb15)
  have OT15 := Lib.hid (OwnI.below OT14.out hb15)
  have Hb15 := Lib.hid (below_of Hb14.out Hb14.out.size hb15)
  have Y15 := Lib.hid (below_of Y14.out Y14.out.size hb15)
  have Z15 := Lib.hid (Nat.le_trans Z14.out hb15.size)
  clear hb15
  have r0 : w15.cell? ⟨w4.heap.size, 0, none⟩ = some (.int .i64 n) := by have := R15.out.cell 0; simpa using this
  have r1 : w15.cell? ⟨w4.heap.size, 1, none⟩ = some (.slice ae xss.length ce) := by have := R15.out.cell 1; simpa using this
  have r2 : w15.cell? ⟨w4.heap.size, 2, none⟩ = some (.slice (some af) (xss.length + 2) cf) := by have := R15.out.cell 2; simpa using this
  have r3 : w15.cell? ⟨w4.heap.size, 3, none⟩ = some (.slice (some at_) (ts.length + 3) ctt) := by have := R15.out.cell 3; simpa using this
  have r4 : w15.cell? ⟨w4.heap.size, 4, none⟩ = some (.int .i64 ts.length) := by have := R15.out.cell 4; simpa using this
  have k0 : w15.cell? ⟨w.heap.size, 0, none⟩ = some (.int .i64 n) := by have := B15.out.cell 0; simpa using this
  have k1 : w15.cell? ⟨w.heap.size, 1, none⟩ = some (.slice A xss.length c) := by have := B15.out.cell 1; simpa using this
  have k2 : w15.cell? ⟨w.heap.size, 2, none⟩ = some (.slice At ts.length ct) := by have := B15.out.cell 2; simpa using this
  have cK := Lib.hid (cnfKept_calls _ n A c xss At ct ts w15 HCR15.out (HX.out.below Hb15.out) (IntsAt.below HT.out Hb15.out) hl htl HL.out)
  clear cM g0 g1 g2 u0 u1 u2
  go_wp2_with fail
  refine cK.out.mono ?_
  rintro e w16 ⟨rfl, hb16⟩
  have R16 := Lib.hid (R15.out.below hb16)
  have B16 := Lib.hid (B15.out.below hb16)
  have W16 := Lib.hid (W15.out.below hb16)
  have HCR16 := Lib.hid (HCR15.out.below hb16)
  have GB16 := Lib.hid (GB15.out.below hb16)
  have OC16 := Lib.hid (OC15.out.below hb16)
  have OT16 := Lib.hid (OwnI.below OT15.out hb16)
  have Hb16 := Lib.hid (below_of Hb15.out Hb15.out.size hb16)
  have Y16 := Lib.hid (below_of Y15.out Y15.out.size hb16)
  have Z16 := Lib.hid (Nat.le_trans Z15.out hb16.size)
  clear hb16
  have g0 : w16.cell? ⟨w9.heap.size, 0, none⟩ = some (.int .i64 N) := by have := GB16.out.cell 0; simpa using this
  have g1 : w16.cell? ⟨w9.heap.size, 1, none⟩ = some (.slice Ag vs.length cg) := by have := GB16.out.cell 1; simpa using this
  have g2 : w16.cell? ⟨w9.heap.size, 2, none⟩ = some (.slice Agt T.length cgt) := by have := GB16.out.cell 2; simpa using this
  clear cK r0 r1 r2 r3 r4 k0 k1 k2
  have cA := Lib.hid (apart_calls w8.heap.size N _ _ vs R T w16 OC16.out OT16.out HOa.out HOn.out Z16.out (by rw [HvR.out]; exact hRl) hTl (fun z hz => by
    rw [← HRR.out] at hz
    split at hz
    · obtain ⟨l, hl, _, rfl⟩ := (tidyR_mem xss z).1 hz
      exact Nat.le_trans (sortS_length l) (HL.out l hl)
    · simp at hz))
  go_wp2_with fail
  refine cA.out.mono ?_
  rintro e w17 ⟨rfl, hb17⟩
  have Y17 := Lib.hid (Y16.out.trans hb17)
  have R17 := Lib.hid (R8.out.below Y17.out)
  have B17 := Lib.hid (B8.out.below Y17.out)
  have Hb17 := Lib.hid (below_of Hb8.out Hb8.out.size Y17.out)
  have cK := Lib.hid (cnfKept_calls _ n A c xss At ct ts w17 (HCR8.out.below Y17.out) (HX.out.below Hb17.out) (IntsAt.below HT.out Hb17.out) hl htl HL.out)
  have r0 : w17.cell? ⟨w4.heap.size, 0, none⟩ = some (.int .i64 n) := by have := R17.out.cell 0; simpa using this
  have r1 : w17.cell? ⟨w4.heap.size, 1, none⟩ = some (.slice ae xss.length ce) := by have := R17.out.cell 1; simpa using this
  have r2 : w17.cell? ⟨w4.heap.size, 2, none⟩ = some (.slice (some af) (xss.length + 2) cf) := by have := R17.out.cell 2; simpa using this
  have r3 : w17.cell? ⟨w4.heap.size, 3, none⟩ = some (.slice (some at_) (ts.length + 3) ctt) := by have := R17.out.cell 3; simpa using this
  have r4 : w17.cell? ⟨w4.heap.size, 4, none⟩ = some (.int .i64 ts.length) := by have := R17.out.cell 4; simpa using this
  have k0 : w17.cell? ⟨w.heap.size, 0, none⟩ = some (.int .i64 n) := by have := B17.out.cell 0; simpa using this
  have k1 : w17.cell? ⟨w.heap.size, 1, none⟩ = some (.slice A xss.length c) := by have := B17.out.cell 1; simpa using this
  have k2 : w17.cell? ⟨w.heap.size, 2, none⟩ = some (.slice At ts.length ct) := by have := B17.out.cell 2; simpa using this
  clear hb17 cA g0 g1 g2
  go_wp2_with fail
  refine cK.out.mono ?_
  rintro e w18 ⟨rfl, hb18⟩
  have Hb18 := Lib.hid (below_of Hb17.out Hb17.out.size hb18)
  clear hb18 cK
  go_wp2_with fail
  go_ret
  exact ⟨rfl, Hb18.out⟩

end Go.Proofs.YtnadmnhkfdkafaaDoor
