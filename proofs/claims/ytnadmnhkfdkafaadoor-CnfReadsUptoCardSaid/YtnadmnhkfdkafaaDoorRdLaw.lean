/- The walk of CnfReads: true at every text of at most 1048576 bytes. -/
import Derived.Test.YtnadmnhkfdkafaaDoorRfRead
import Derived.Test.YtnadmnhkfdkafaaDoorApartG
import Derived.Test.YtnadmnhkfdkafaaDoorReadC
namespace Go.Proofs.YtnadmnhkfdkafaaDoor
open Go.RowKit
set_option linter.unusedVariables false
set_option linter.unusedSimpArgs false

abbrev Res := Nat ⊕ (Int × List (List Int) × List Int)
def resN : Res → Int
  | .inl _ => 0
  | .inr (n, _, _) => n
def resR : Res → List (List Int)
  | .inl _ => []
  | .inr (_, cs, _) => cs
def resT : Res → List Int
  | .inl _ => []
  | .inr (_, _, ts) => ts
def resF : Res → Int
  | .inl _ => 40
  | .inr _ => 0
def resP (l : List UInt8) : Res → Int
  | .inl j => placeW l j
  | .inr _ => 0
theorem RefEnd.at_ {w w' : World} {l : List UInt8} {res : Res} {e : Ending} (h : RefEnd w l res e w') :
    Below w.heap.size w w' ∧ ∃ vc vt, e = .returned (.tuple #[.agg #[.int .i64 (resN res), vc, vt], .int .i64 (resF res), .int .i64 (resP l res)]) ∧ IsRows w' vc (resR res) ∧ IsInts w' vt (resT res) := by
  obtain ⟨hb, h⟩ := h
  rcases res with j | ⟨n, cs, ts⟩
  · exact ⟨hb, _, _, h, IsRows.nil _, IsInts.nil _⟩
  · obtain ⟨vc, vt, rfl, h1, h2⟩ := h
    exact ⟨hb, vc, vt, rfl, h1, h2⟩
theorem ReadEnd.at_ {w w' : World} {l : List UInt8} {res : Res} {e : Ending} (h : ReadEnd w l res e w') :
    Below w.heap.size w w' ∧ ∃ vc vt vs, e = .returned (.tuple #[.agg #[.int .i64 (resN res), vc, vt], .int .i64 (resF res), .int .i64 (resP l res)]) ∧ OwnC w' w.heap.size vc vs (resR res) ∧ OwnI w' w.heap.size 3 vt (resT res) ∧ ApartN vs ∧ (∀ v ∈ vs, v.ownBlock = none ∨ v.ownBlock ≠ vt.ownBlock) := by
  obtain ⟨hb, h⟩ := h
  rcases res with j | ⟨n, cs, ts⟩
  · exact ⟨hb, _, _, [], h, ⟨World.ownsRow_nil _ _ _ _, All2.nil _⟩, OwnI.nil _ _ _, List.Pairwise.nil, by simp⟩
  · obtain ⟨vc, vt, vs, rfl, h1, h2, h3, h4⟩ := h
    exact ⟨hb, vc, vt, vs, rfl, h1, h2, h3, h4⟩

theorem manyL_lists (n : Int) (tx : List (List UInt8)) : ∀ (c i : Nat), i ≤ tx.length → ∀ ls j, manyL n tx c i = .inr (ls, j) → ∀ l ∈ ls, l.length ≤ tx.length
  | 0, i, h, ls, j, hm => by simp [manyL] at hm; intro l hl; rw [hm.1] at hl; cases hl
  | c + 1, i, h, ls, j, hm => by
    have hb := litsL_bd n (tx.drop i) i
    rw [List.length_drop] at hb
    rw [manyL] at hm
    split at hm
    · cases hm
    · rename_i l1 j1 hl1
      have h1 := hb.2 l1 j1 hl1
      split at hm
      · cases hm
      · rename_i ls' j' hm'
        injection hm with hm
        injection hm with hm _
        subst hm
        intro l hl
        rw [List.mem_cons] at hl
        rcases hl with rfl | hl
        · omega
        · exact manyL_lists n tx c j1 (by omega) ls' j' hm' l hl
theorem readT_bd (tx : List (List UInt8)) : (resR (readT tx)).length ≤ tx.length ∧ (∀ l ∈ resR (readT tx), l.length ≤ tx.length) ∧ (resT (readT tx)).length ≤ tx.length := by
  have bad : ∀ j : Nat, (resR (.inl j : Res)).length ≤ tx.length ∧ (∀ l ∈ resR (.inl j : Res), l.length ≤ tx.length) ∧ (resT (.inl j : Res)).length ≤ tx.length := fun j => ⟨by simp [resR], by simp [resR], by simp [resT]⟩
  unfold readT
  split
  · split
    · split
      · rename_i h2
        split
        · rename_i h3
          have h4 : 4 ≤ tx.length := by
            by_cases h : 3 < tx.length
            · exact h
            · rw [List.getD_eq_getElem?_getD, List.getElem?_eq_none (by omega)] at h3
              cases h3
          split
          · exact bad _
          · rename_i cs i hm
            have hb := (manyL_bd _ tx _ 4 h4).2 cs i hm
            have hl := manyL_lists _ tx _ 4 h4 cs i hm
            have good : ∀ (n : Int) (ts : List Int), ts.length ≤ tx.length → (resR (.inr (n, cs, ts) : Res)).length ≤ tx.length ∧ (∀ l ∈ resR (.inr (n, cs, ts) : Res), l.length ≤ tx.length) ∧ (resT (.inr (n, cs, ts) : Res)).length ≤ tx.length :=
              fun n ts h => ⟨by simp only [resR]; omega, hl, h⟩
            split
            · rename_i ha
              have hi : i < tx.length := by
                by_cases h : i < tx.length
                · exact h
                · rw [List.getElem?_eq_none (by omega)] at ha; cases ha
              have hb2 := litsL_bd (valI (tx.getD 2 []) 1000000) (tx.drop (i + 1)) (i + 1)
              rw [List.length_drop] at hb2
              split
              · exact bad _
              · rename_i ts i2 ht
                have := hb2.2 ts i2 ht
                split
                · exact bad _
                · exact good _ _ (by omega)
            · split
              · exact bad _
              · exact good _ _ (by simp)
        · exact bad _
      · exact bad _
    · exact bad _
  · exact bad _

set_option maxHeartbeats 8000000 in
set_option maxRecDepth 100000 in
theorem reads_calls (s : ByteArray) (w : World) (hs : s.size ≤ 1048576) (hr : RangeV w) : Calls Tryd.prog 4 #[.string s] w fun e w' => e = .returned (.bool true) ∧ Below w.heap.size w w' := by
  have HRv := Lib.hid hr
  have hbd := readT_bd (texts s.data.toList)
  have htl : (texts s.data.toList).length ≤ s.size := by rw [texts_length, Lib.size_eq]; exact Nat.le_trans (words_length _ _) (by omega)
  have cR := Lib.hid (refRead_calls s w hs)
  have cG := Lib.hid (fun W hW => read_calls s W hs hW)
  generalize readT (texts s.data.toList) = res at *
  obtain ⟨hb1, hb2, hb3⟩ := hbd
  have HB2 := Lib.hid (show ∀ l ∈ resR res, l.length ≤ 1048576 from fun l hl => by have := hb2 l hl; omega)
  have hR : (resR res).length ≤ 1048576 := by omega
  have hT : (resT res).length ≤ 1048576 := by omega
  clear hb1 hb2 hb3 htl hr
  go_enter Tryd.func4, Tryd.ntmps4
  go_wp2_with fail
  refine cR.out.mono ?_
  rintro e w1 hE
  obtain ⟨hbe, vc, vt, rfl, hRows, hInts⟩ := hE.at_
  obtain ⟨Ac, cc, rfl, hcc, _, hRc⟩ := hRows
  obtain ⟨At, ct, rfl, _, _, hIt⟩ := hInts
  have hz1 := (Below.refl w1.heap.size w1).alloc (Nat.le_refl _) (.cells #[.int .i64 (resN res), .slice Ac (resR res).length cc, .slice At (resT res).length ct] 25)
  have W1 := Lib.hid (Blk.new w1 25 #[.int .i64 (resN res), .slice Ac (resR res).length cc, .slice At (resT res).length ct])
  have B1 := Lib.hid (hbe.alloc hbe.size (.cells #[.int .i64 (resN res), .slice Ac (resR res).length cc, .slice At (resT res).length ct] 25))
  have R1 := Lib.hid (hRc.below hz1)
  have I1 := Lib.hid (IntsAt.below hIt hz1)
  have cG1 := Lib.hid (cG.out _ (HRv.out.below B1.out))
  have Hw1 := Lib.hid hbe.size
  clear hE hbe hRc hIt hz1 cR cG
  go_wp2_with fail
  refine cG1.out.mono ?_
  rintro e w2 hE
  obtain ⟨hbe, vg, vgt, vs, rfl, hOC, hOT, hAp, hVt⟩ := hE.at_
  have hvs : vs.length = (resR res).length := hOC.2.1
  obtain ⟨Ag, cg, rfl, _, _, _⟩ := CellsAt.of_own hOC.1
  obtain ⟨Agt, cgt, rfl, _⟩ := ownI_form hOT
  have hz2 := (Below.refl w2.heap.size w2).alloc (Nat.le_refl _) (.cells #[.int .i64 (resN res), .slice Ag vs.length cg, .slice Agt (resT res).length cgt] 25)
  have G2 := Lib.hid (Blk.new w2 25 #[.int .i64 (resN res), .slice Ag vs.length cg, .slice Agt (resT res).length cgt])
  have W2 := Lib.hid ((W1.out.below hbe).below hz2)
  have B2 := Lib.hid (below_of (below_of B1.out B1.out.size hbe) (below_of B1.out B1.out.size hbe).size hz2)
  have R2 := Lib.hid ((R1.out.below hbe).below hz2)
  have I2 := Lib.hid (IntsAt.below (IntsAt.below I1.out hbe) hz2)
  have OC2 := Lib.hid (hOC.below hz2)
  have OT2 := Lib.hid (OwnI.below hOT hz2)
  have Base := Lib.hid (show w1.heap.size + 1 ≤ w2.heap.size + 1 from by have := hbe.size; simp at this; omega)
  have HAp := Lib.hid hAp
  have HVt := Lib.hid hVt
  have Hvs := Lib.hid hvs
  have e1 : ((w1.alloc (.cells #[.int .i64 (resN res), .slice Ac (resR res).length cc, .slice At (resT res).length ct] 25)).heap.size) = w1.heap.size + 1 := by simp
  rw [e1] at OC2 OT2
  clear hE hbe hOC hOT hz2 cG1 W1 B1 R1 I1 hAp hVt hvs e1
  obtain ⟨W, hW⟩ : ∃ W, W = w2.alloc (.cells #[.int .i64 (resN res), .slice Ag vs.length cg, .slice Agt (resT res).length cgt] 25) := ⟨_, rfl⟩
  rw [← hW] at G2 W2 B2 R2 I2 OC2 OT2
  have hWs : W.heap.size = w2.heap.size + 1 := by rw [hW]; simp
  have Base2 := Lib.hid (show w1.heap.size + 1 ≤ W.heap.size by rw [hWs]; exact Base.out)
  have g0 : W.cell? ⟨w2.heap.size, 0, none⟩ = some (.int .i64 (resN res)) := by have := G2.out.cell 0; simpa using this
  have g1 : W.cell? ⟨w2.heap.size, 1, none⟩ = some (.slice Ag vs.length cg) := by have := G2.out.cell 1; simpa using this
  have g2 : W.cell? ⟨w2.heap.size, 2, none⟩ = some (.slice Agt (resT res).length cgt) := by have := G2.out.cell 2; simpa using this
  have u0 : W.cell? ⟨w1.heap.size, 0, none⟩ = some (.int .i64 (resN res)) := by have := W2.out.cell 0; simpa using this
  have u1 : W.cell? ⟨w1.heap.size, 1, none⟩ = some (.slice Ac (resR res).length cc) := by have := W2.out.cell 1; simpa using this
  have u2 : W.cell? ⟨w1.heap.size, 2, none⟩ = some (.slice At (resT res).length ct) := by have := W2.out.cell 2; simpa using this
  have cM := Lib.hid (show Calls Tryd.prog 13 #[.agg #[.int .i64 (resN res), .slice Ag vs.length cg, .slice Agt (resT res).length cgt], .agg #[.int .i64 (resN res), .slice Ac (resR res).length cc, .slice At (resT res).length ct]] W fun e w' => e = .returned (.bool true) ∧ Below W.heap.size W w' by
    obtain ⟨_, _, e1, _, _, hr⟩ := OC2.out.rows
    obtain ⟨_, _, e2, hi⟩ := ownI_form OT2.out
    injection e1 with e11 _ _
    injection e2 with e21 _ _
    subst e11; subst e21
    rw [Hvs.out]
    have h := same_calls (resN res) Ag cg (resR res) Agt cgt (resT res) (resN res) Ac cc (resR res) At ct (resT res) W hr hi R2.out I2.out (by omega) (by omega) (by omega) (by omega)
    simpa using h)
  clear hWs
  subst hW
  go_wp2_with fail
  refine cM.out.mono ?_
  rintro e w3 ⟨rfl, hb3⟩
  have G3 := Lib.hid (G2.out.below hb3)
  have B3 := Lib.hid (below_of B2.out B2.out.size hb3)
  have Y3 := Lib.hid (Nat.le_trans Base2.out hb3.size)
  have g0 : w3.cell? ⟨w2.heap.size, 0, none⟩ = some (.int .i64 (resN res)) := by have := G3.out.cell 0; simpa using this
  have g1 : w3.cell? ⟨w2.heap.size, 1, none⟩ = some (.slice Ag vs.length cg) := by have := G3.out.cell 1; simpa using this
  have g2 : w3.cell? ⟨w2.heap.size, 2, none⟩ = some (.slice Agt (resT res).length cgt) := by have := G3.out.cell 2; simpa using this
  have hBw := Lib.hid (show w.heap.size ≤ w1.heap.size + 1 by have := Hw1.out; omega)
  have cA := Lib.hid (apartG_calls (w1.heap.size + 1) (resN res) _ _ vs (resR res) (resT res) w3 (OC2.out.below hb3) (OwnI.below OT2.out hb3) HAp.out HVt.out Y3.out (by rw [Hvs.out]; exact hR) hT HB2.out)
  clear hb3 cM u0 u1 u2
  go_wp2_with fail
  refine cA.out.mono ?_
  rintro e w4 ⟨rfl, hb4⟩
  have B4 := Lib.hid (B3.out.trans ⟨hb4.os, hb4.tape, hb4.output, hb4.size, fun k hk => hb4.block k (Nat.lt_of_lt_of_le hk hBw.out)⟩)
  clear hb4 cA
  go_wp2_with fail
  go_ret
  exact ⟨rfl, B4.out⟩

end Go.Proofs.YtnadmnhkfdkafaaDoor
