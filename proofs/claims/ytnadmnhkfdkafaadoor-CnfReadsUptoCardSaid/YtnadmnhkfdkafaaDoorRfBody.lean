/- Contract: the document's body: what stands behind the header. -/
import Derived.Test.YtnadmnhkfdkafaaDoorRfLits
import Derived.Test.YtnadmnhkfdkafaaDoorRdRead
namespace Go.Proofs.YtnadmnhkfdkafaaDoor
open Go.RowKit
set_option linter.unusedVariables false
set_option linter.unusedSimpArgs false

/-- the count that the document goes by -/
def countR (V : Int) (m : Nat) : Nat := if V < 0 then m + 1 else V.toNat
theorem cap_count (t : List UInt8) (m : Nat) (h : isNum t = true) : cap t m = countR (valI t m) m := by
  unfold cap countR
  by_cases hv : valI t m < 0
  · rw [if_pos hv, if_pos hv]
  · rw [if_neg hv, if_neg hv]
    unfold valI at hv ⊢
    rw [h, Bool.true_and] at hv ⊢
    by_cases h2 : (valN t : Int) ≤ m
    · rw [if_pos (decide_eq_true h2)]; simp
    · rw [if_neg (by rw [decide_eq_true_eq]; exact h2)] at hv; omega

/-- how the body is told -/
def BodyEnd (w : World) (res : Nat ⊕ (Int × List (List Int) × List Int)) (e : Ending) (w' : World) : Prop :=
  Below w.heap.size w w' ∧ match res with
    | .inl j => e = .returned (.tuple #[.agg #[.int .i64 0, .slice none 0 0, .slice none 0 0], .int .i64 j])
    | .inr (n, cs, ts) => ∃ vc vt vs, e = .returned (.tuple #[.agg #[.int .i64 n, vc, vt], .int .i64 (-1)]) ∧ OwnC w' w.heap.size vc vs cs ∧ OwnI w' w.heap.size 3 vt ts
theorem bodyEnd_l {w w' : World} {res : Nat ⊕ (Int × List (List Int) × List Int)} {j : Nat} (hb : Below w.heap.size w w') (hr : res = .inl j) : BodyEnd w res (.returned (.tuple #[.agg #[.int .i64 0, .slice none 0 0, .slice none 0 0], .int .i64 j])) w' := by
  subst hr; exact ⟨hb, rfl⟩
theorem bodyEnd_r {w w' : World} {res : Nat ⊕ (Int × List (List Int) × List Int)} {n : Int} {cs : List (List Int)} {ts : List Int} {vc vt : Value} {vs : List Value} (hb : Below w.heap.size w w') (hr : res = .inr (n, cs, ts)) (h1 : OwnC w' w.heap.size vc vs cs) (h2 : OwnI w' w.heap.size 3 vt ts) :
    BodyEnd w res (.returned (.tuple #[.agg #[.int .i64 n, vc, vt], .int .i64 (-1)])) w' := by
  subst hr; exact ⟨hb, vc, vt, vs, rfl, h1, h2⟩

set_option maxHeartbeats 8000000 in
set_option maxRecDepth 100000 in
theorem body_calls (s : ByteArray) (A : Option Addr) (c : Nat) (n : Int) (t : ByteArray) (w : World) (h : WsAt w A s) (hs : s.size ≤ 1048576) (hn0 : 0 ≤ n) (hn1 : n ≤ 1000000) (ht : t.size ≤ s.size) (hnum : isNum t.data.toList = true) (h4 : 4 ≤ (texts s.data.toList).length) :
    Calls Tryd.prog 48 #[.slice A (words s.data.toList 0).length c, .int .i64 n, .string t] w
      (BodyEnd w (tailT n (texts s.data.toList) (manyL n (texts s.data.toList) (cap t.data.toList (texts s.data.toList).length) 4))) := by
  have HW := Lib.hid h
  have hm : (words s.data.toList 0).length ≤ s.size := by rw [Lib.size_eq]; exact Nat.le_trans (words_length _ _) (by omega)
  rw [cap_count _ _ hnum]
  have cV := Lib.hid (fun W => value_calls t ((texts s.data.toList).length : Int) W (by omega) (by omega) (by rw [texts_length]; omega))
  have hV := valI_bd t.data.toList ((texts s.data.toList).length : Int) (by omega)
  generalize valI t.data.toList ((texts s.data.toList).length : Int) = V at *
  obtain ⟨hV1, hV2⟩ := hV
  have Htl := Lib.hid (texts_length s.data.toList)
  rw [Htl.out] at h4 hV2 cV
  generalize hC : countR V (texts s.data.toList).length = C
  generalize hmr : manyL n (texts s.data.toList) C 4 = mr
  generalize hres : tailT n (texts s.data.toList) mr = res
  have HC := Lib.hid hC
  have Hmr := Lib.hid hmr
  have Hres := Lib.hid hres
  clear h hC hmr hres hnum
  have cLt := Lib.hid (fun W (i : Nat) hW hi => lits_calls s A c i n W hW hs hi hn0 (by omega))
  generalize hM : (words s.data.toList 0).length = m at *
  have HM := Lib.hid hM
  clear hM
  have B0 := Lib.hid ((((Below.refl w.heap.size w).alloc (Nat.le_refl _) (.cells #[.int .i64 0, .slice none 0 0, .slice none 0 0] 25))).alloc (by simp) (.cells #[.int .i64 n, .slice none 0 0, .slice none 0 0] 25))
  have R0 := Lib.hid ((Blk.new w 25 #[.int .i64 0, .slice none 0 0, .slice none 0 0]).alloc (.cells #[.int .i64 n, .slice none 0 0, .slice none 0 0] 25))
  have C0 := Lib.hid (show Blk _ (w.heap.size + 1) _ _ from by have h := Blk.new (w.alloc (.cells #[.int .i64 0, .slice none 0 0, .slice none 0 0] 25)) 25 #[.int .i64 n, .slice none 0 0, .slice none 0 0]; simpa using h)
  go_enter Tryd.func48, Tryd.ntmps48
  go_wp2_with fail
  go_loopg [9, 10] C (fun g iv kv wx => ∃ (i k : Nat) (R : List (List Int)) (vs : List Value) (vc : Value), iv = .int .i64 i ∧ kv = .int .i64 k ∧ Hid (k + g = C) ∧ 4 + k ≤ i ∧ i ≤ m ∧ Hid (Below w.heap.size w wx) ∧ Hid (Blk wx w.heap.size 25 #[.int .i64 0, .slice none 0 0, .slice none 0 0]) ∧
    Hid (Blk wx (w.heap.size + 1) 25 #[.int .i64 n, vc, .slice none 0 0]) ∧ Hid (OwnC wx w.heap.size vc vs R) ∧ Hid (R.length = k) ∧ Hid (aheadC R (manyL n (texts s.data.toList) g i) = mr))
  case atStart => exact ⟨4, 0, [], [], _, rfl, rfl, by simp [Hid], by omega, h4, B0.out, R0.out, C0.out, ⟨World.ownsRow_nil _ _ _ _, All2.nil _⟩, rfl, by rw [aheadC_nil]; exact Hmr.out⟩
  case round =>
    obtain ⟨i, k, R, vs, vc, rfl, rfl, Hk, h4i, him, HB, HR, HK, HO, HRl, HMn⟩ := hrel
    have hvl : vs.length ≤ 1048576 := by have h1 := HO.out.2.1; have h2 := HRl.out; omega
    have x0 : wr.cell? ⟨w.heap.size, 0, none⟩ = some (.int .i64 0) := by have := HR.out.cell 0; simpa using this
    have x1 : wr.cell? ⟨w.heap.size, 1, none⟩ = some (.slice none 0 0) := by have := HR.out.cell 1; simpa using this
    have x2 : wr.cell? ⟨w.heap.size, 2, none⟩ = some (.slice none 0 0) := by have := HR.out.cell 2; simpa using this
    have y0 : wr.frozen? ⟨w.heap.size, 0, none⟩ = false := HR.out.frozen 0
    have y1 : wr.frozen? ⟨w.heap.size, 1, none⟩ = false := HR.out.frozen 1
    have y2 : wr.frozen? ⟨w.heap.size, 2, none⟩ = false := HR.out.frozen 2
    cases gk with
    | zero =>
      have hVk : V = k := by
        have h1 := Hk.out
        have h2 := HC.out
        unfold countR at h2
        rw [Htl.out] at h2
        split at h2 <;> omega
      have b1 : decide (V < 0) = false := decide_eq_false (by omega)
      have b2 : decide ((k : Int) < V) = false := decide_eq_false (by omega)
      have HVk := Lib.hid hVk
      clear hVk
      have HM0 := Lib.hid (show mr = .inr (R, i) by rw [← HMn.out, manyL]; simp [aheadC])
      go_wp2_with fail
      refine (cV.out _).mono ?_
      rintro e w' ⟨rfl, rfl⟩
      go_wp2_with fail
      refine (cV.out _).mono ?_
      rintro e w' ⟨rfl, rfl⟩
      obtain ⟨Avc, cvc, rfl, _, _, _⟩ := CellsAt.of_own HO.out.1
      by_cases hlt : i < m
      · have hz : (i : Int) < (m : Int) := by omega
        obtain ⟨ad, t8, rfl, c0, c1, hts, HT⟩ := (HW.out.below HB.out).get (i := i) (by rw [Htl.out]; exact hlt)
        clear c1
        by_cases ha : t8.data.toList = [97]
        · have b8 := str_eq ha
          have Ha := Lib.hid (show (texts s.data.toList)[i]? = some [97] by rw [HT.out, ha])
          have cC := Lib.hid (cLt.out wr (i + 1) (HW.out.below HB.out) (by rw [Htl.out]; exact hlt))
          clear ha x0 x1 x2 y0 y1 y2
          go_wp2_with fail
          refine cC.out.mono ?_
          rintro e w8 ⟨hb8, hE⟩
          have B8 := Lib.hid (below_of HB.out HB.out.size hb8)
          have R8 := Lib.hid (HR.out.below hb8)
          have K8 := Lib.hid (HK.out.below hb8)
          have O8 := Lib.hid (HO.out.below hb8)
          have hsz8 := HB.out.size
          cases hl : litsL n ((texts s.data.toList).drop (i + 1)) (i + 1) with
          | inl j =>
            rw [hl] at hE
            obtain rfl := hE
            have Hr := Lib.hid (show res = .inl j by rw [← Hres.out, HM0.out, tailT, if_pos Ha.out, hl])
            clear hl hb8 cC
            have x0 : w8.cell? ⟨w.heap.size, 0, none⟩ = some (.int .i64 0) := by have := R8.out.cell 0; simpa using this
            have x1 : w8.cell? ⟨w.heap.size, 1, none⟩ = some (.slice none 0 0) := by have := R8.out.cell 1; simpa using this
            have x2 : w8.cell? ⟨w.heap.size, 2, none⟩ = some (.slice none 0 0) := by have := R8.out.cell 2; simpa using this
            have y0 : w8.frozen? ⟨w.heap.size, 0, none⟩ = false := R8.out.frozen 0
            have y1 : w8.frozen? ⟨w.heap.size, 1, none⟩ = false := R8.out.frozen 1
            have y2 : w8.frozen? ⟨w.heap.size, 2, none⟩ = false := R8.out.frozen 2
            go_wp2_with fail
            refine bodyPost_ret (v := .tuple #[.agg #[.int .i64 0, .slice none 0 0, .slice none 0 0], .int .i64 j]) (by simp [results, Tryd.results48, go_sem, x0, x1, x2]) rfl (bodyEnd_l ?_ Hr.out)
            exact ((B8.out.setCell (Nat.le_refl _) _).setCell (Nat.le_refl _) _).setCell (Nat.le_refl _) _
          | inr lj =>
            obtain ⟨l, j⟩ := lj
            rw [hl] at hE
            obtain ⟨v, rfl, hv8⟩ := hE
            have Hl := Lib.hid hl
            have hjb := (litsL_bd n ((texts s.data.toList).drop (i + 1)) (i + 1)).2 l j hl
            obtain ⟨Av, cv, rfl, _⟩ := ownI_form hv8
            have V8 := Lib.hid (OwnI.lower hv8 hsz8)
            rw [List.length_drop, Htl.out] at hjb
            obtain ⟨hj1, hj2⟩ := hjb
            clear hl hb8 cC hv8
            have z2 : w8.cell? ⟨w.heap.size + 1, 2, none⟩ = some (.slice none 0 0) := by have := K8.out.cell 2; simpa using this
            have y3 : w8.frozen? ⟨w.heap.size + 1, 2, none⟩ = false := K8.out.frozen 2
            have K9 := Lib.hid (K8.out.at2 (u := .slice Av l.length cv) rfl)
            have R9 := Lib.hid (R8.out.far (p := ⟨w.heap.size + 1, 2, none⟩) (by show w.heap.size ≠ w.heap.size + 1; omega) (.slice Av l.length cv))
            have B9 := Lib.hid (B8.out.setCell (p := ⟨w.heap.size + 1, 2, none⟩) (by show w.heap.size ≤ w.heap.size + 1; omega) (.slice Av l.length cv))
            have O9 := Lib.hid (O8.out.set_blk K8.out (by decide) (by decide) 2 (.slice Av l.length cv))
            have V9 := Lib.hid (show OwnI (w8.setCell ⟨w.heap.size + 1, 2, none⟩ (.slice Av l.length cv)) w.heap.size 3 (.slice Av l.length cv) l from own_setCell_blk V8.out K8.out (by decide) 2 _)
            by_cases hjm : j < m
            · have hjz : (j : Int) < (m : Int) := by omega
              have Hr := Lib.hid (show res = .inl j by rw [← Hres.out, HM0.out, tailT, if_pos Ha.out, Hl.out]; exact if_pos (by rw [Htl.out]; exact hjm))
              have x0 : w8.cell? ⟨w.heap.size, 0, none⟩ = some (.int .i64 0) := by have := R8.out.cell 0; simpa using this
              have x1 : w8.cell? ⟨w.heap.size, 1, none⟩ = some (.slice none 0 0) := by have := R8.out.cell 1; simpa using this
              have x2 : w8.cell? ⟨w.heap.size, 2, none⟩ = some (.slice none 0 0) := by have := R8.out.cell 2; simpa using this
              have y0 : w8.frozen? ⟨w.heap.size, 0, none⟩ = false := R8.out.frozen 0
              have y1 : w8.frozen? ⟨w.heap.size, 1, none⟩ = false := R8.out.frozen 1
              have y2 : w8.frozen? ⟨w.heap.size, 2, none⟩ = false := R8.out.frozen 2
              go_wp2_with fail
              refine bodyPost_ret (v := .tuple #[.agg #[.int .i64 0, .slice none 0 0, .slice none 0 0], .int .i64 j]) (by simp [results, Tryd.results48, go_sem, x0, x1, x2]) rfl (bodyEnd_l ?_ Hr.out)
              exact ((B9.out.setCell (Nat.le_refl _) _).setCell (Nat.le_refl _) _).setCell (Nat.le_refl _) _
            · have hjz : ¬ ((j : Int) < (m : Int)) := by omega
              have Hr := Lib.hid (show res = .inr (n, R, l) by rw [← Hres.out, HM0.out, tailT, if_pos Ha.out, Hl.out]; exact if_neg (by rw [Htl.out]; exact hjm))
              have x0 : w8.cell? ⟨w.heap.size, 0, none⟩ = some (.int .i64 0) := by have := R8.out.cell 0; simpa using this
              have x1 : w8.cell? ⟨w.heap.size, 1, none⟩ = some (.slice none 0 0) := by have := R8.out.cell 1; simpa using this
              have x2 : w8.cell? ⟨w.heap.size, 2, none⟩ = some (.slice none 0 0) := by have := R8.out.cell 2; simpa using this
              have y0 : w8.frozen? ⟨w.heap.size, 0, none⟩ = false := R8.out.frozen 0
              have y1 : w8.frozen? ⟨w.heap.size, 1, none⟩ = false := R8.out.frozen 1
              have y2 : w8.frozen? ⟨w.heap.size, 2, none⟩ = false := R8.out.frozen 2
              have c0 : w8.cell? ⟨w.heap.size + 1, 0, none⟩ = some (.int .i64 n) := by have := K8.out.cell 0; simpa using this
              have c1 : w8.cell? ⟨w.heap.size + 1, 1, none⟩ = some (.slice Avc vs.length cvc) := by have := K8.out.cell 1; simpa using this
              have c2 : w8.cell? ⟨w.heap.size + 1, 2, none⟩ = some (.slice none 0 0) := by have := K8.out.cell 2; simpa using this
              go_wp2_with fail
              refine bodyPost_ret (v := .tuple #[.agg #[.int .i64 n, .slice Avc vs.length cvc, .slice Av l.length cv], .int .i64 (-1)]) (by simp [results, Tryd.results48, go_sem, x0, x1, x2]) rfl
                (bodyEnd_r (vs := vs) (((B9.out.setCell (Nat.le_refl _) _).setCell (Nat.le_refl _) _).setCell (Nat.le_refl _) _) Hr.out ?_ ?_)
              · exact (((O9.out.set_blk R9.out (by decide) (by decide) 0 _).set_blk (R9.out.set_ 0 _) (by decide) (by decide) 1 _).set_blk ((R9.out.set_ 0 _).set_ 1 _) (by decide) (by decide) 2 _)
              · exact (own_setCell_blk (own_setCell_blk (own_setCell_blk V9.out R9.out (by decide) 0 _) (R9.out.set_ 0 _) (by decide) 1 _) ((R9.out.set_ 0 _).set_ 1 _) (by decide) 2 _)
        · have b8 := str_ne ha
          have Hr := Lib.hid (show res = .inl i by
            rw [← Hres.out, HM0.out, tailT, if_neg (by rw [HT.out]; intro e; injection e with e; exact ha e), if_pos (by rw [Htl.out]; exact hlt)])
          clear ha x0 x1 x2 y0 y1 y2
          have x0 : wr.cell? ⟨w.heap.size, 0, none⟩ = some (.int .i64 0) := by have := HR.out.cell 0; simpa using this
          have x1 : wr.cell? ⟨w.heap.size, 1, none⟩ = some (.slice none 0 0) := by have := HR.out.cell 1; simpa using this
          have x2 : wr.cell? ⟨w.heap.size, 2, none⟩ = some (.slice none 0 0) := by have := HR.out.cell 2; simpa using this
          have y0 : wr.frozen? ⟨w.heap.size, 0, none⟩ = false := HR.out.frozen 0
          have y1 : wr.frozen? ⟨w.heap.size, 1, none⟩ = false := HR.out.frozen 1
          have y2 : wr.frozen? ⟨w.heap.size, 2, none⟩ = false := HR.out.frozen 2
          go_wp2_with fail
          refine bodyPost_ret (v := .tuple #[.agg #[.int .i64 0, .slice none 0 0, .slice none 0 0], .int .i64 i]) (by simp [results, Tryd.results48, go_sem, x0, x1, x2]) rfl (bodyEnd_l ?_ Hr.out)
          exact ((HB.out.setCell (Nat.le_refl _) _).setCell (Nat.le_refl _) _).setCell (Nat.le_refl _) _
      · have hz : ¬ ((i : Int) < (m : Int)) := by omega
        have Hr := Lib.hid (show res = .inr (n, R, []) by
          rw [← Hres.out, HM0.out, tailT, if_neg (by rw [List.getElem?_eq_none (by rw [Htl.out]; omega)]; simp), if_neg (by rw [Htl.out]; exact hlt)])
        clear x0 x1 x2 y0 y1 y2
        have x0 : wr.cell? ⟨w.heap.size, 0, none⟩ = some (.int .i64 0) := by have := HR.out.cell 0; simpa using this
        have x1 : wr.cell? ⟨w.heap.size, 1, none⟩ = some (.slice none 0 0) := by have := HR.out.cell 1; simpa using this
        have x2 : wr.cell? ⟨w.heap.size, 2, none⟩ = some (.slice none 0 0) := by have := HR.out.cell 2; simpa using this
        have y0 : wr.frozen? ⟨w.heap.size, 0, none⟩ = false := HR.out.frozen 0
        have y1 : wr.frozen? ⟨w.heap.size, 1, none⟩ = false := HR.out.frozen 1
        have y2 : wr.frozen? ⟨w.heap.size, 2, none⟩ = false := HR.out.frozen 2
        have c0 : wr.cell? ⟨w.heap.size + 1, 0, none⟩ = some (.int .i64 n) := by have := HK.out.cell 0; simpa using this
        have c1 : wr.cell? ⟨w.heap.size + 1, 1, none⟩ = some (.slice Avc vs.length cvc) := by have := HK.out.cell 1; simpa using this
        have c2 : wr.cell? ⟨w.heap.size + 1, 2, none⟩ = some (.slice none 0 0) := by have := HK.out.cell 2; simpa using this
        go_wp2_with fail
        refine bodyPost_ret (v := .tuple #[.agg #[.int .i64 n, .slice Avc vs.length cvc, .slice none 0 0], .int .i64 (-1)]) (by simp [results, Tryd.results48, go_sem, x0, x1, x2]) rfl
          (bodyEnd_r (vs := vs) (((HB.out.setCell (Nat.le_refl _) _).setCell (Nat.le_refl _) _).setCell (Nat.le_refl _) _) Hr.out ?_ ?_)
        · exact (((HO.out.set_blk HR.out (by decide) (by decide) 0 _).set_blk (HR.out.set_ 0 _) (by decide) (by decide) 1 _).set_blk ((HR.out.set_ 0 _).set_ 1 _) (by decide) (by decide) 2 _)
        · exact OwnI.nil _ _ _
    | succ g =>
      have hor : decide (V < 0) = true ∨ (decide (V < 0) = false ∧ decide ((k : Int) < V) = true) := by
        have h1 := Hk.out
        have h2 := HC.out
        unfold countR at h2
        by_cases hv : V < 0
        · exact .inl (decide_eq_true hv)
        · rw [if_neg hv] at h2
          exact .inr ⟨decide_eq_false hv, decide_eq_true (by omega)⟩
      have cC := Lib.hid (cLt.out wr i (HW.out.below HB.out) (by rw [Htl.out]; exact him))
      have hMs := HMn.out
      rcases hor with b1 | ⟨b1, b2⟩
      all_goals
        go_wp2_with (first | (go_at_call 45; refine (cV.out _).mono ?_; rintro e w' ⟨rfl, rfl⟩))
        refine cC.out.mono ?_
        rintro e w8 ⟨hb8, hE⟩
        cases hl : litsL n ((texts s.data.toList).drop i) i with
        | inl j =>
          rw [hl] at hE
          obtain rfl := hE
          have B8 := Lib.hid (below_of HB.out HB.out.size hb8)
          have R8 := Lib.hid (HR.out.below hb8)
          have Hr := Lib.hid (show res = .inl j by rw [← Hres.out, ← hMs, manyL, hl]; rfl)
          clear hl hb8 hMs cC x0 x1 x2 y0 y1 y2
          have x0 : w8.cell? ⟨w.heap.size, 0, none⟩ = some (.int .i64 0) := by have := R8.out.cell 0; simpa using this
          have x1 : w8.cell? ⟨w.heap.size, 1, none⟩ = some (.slice none 0 0) := by have := R8.out.cell 1; simpa using this
          have x2 : w8.cell? ⟨w.heap.size, 2, none⟩ = some (.slice none 0 0) := by have := R8.out.cell 2; simpa using this
          have y0 : w8.frozen? ⟨w.heap.size, 0, none⟩ = false := R8.out.frozen 0
          have y1 : w8.frozen? ⟨w.heap.size, 1, none⟩ = false := R8.out.frozen 1
          have y2 : w8.frozen? ⟨w.heap.size, 2, none⟩ = false := R8.out.frozen 2
          go_wp2_with fail
          refine bodyPost_ret (v := .tuple #[.agg #[.int .i64 0, .slice none 0 0, .slice none 0 0], .int .i64 j]) (by simp [results, Tryd.results48, go_sem, x0, x1, x2]) rfl (bodyEnd_l ?_ Hr.out)
          exact ((B8.out.setCell (Nat.le_refl _) _).setCell (Nat.le_refl _) _).setCell (Nat.le_refl _) _
        | inr lj =>
          obtain ⟨l, j⟩ := lj
          rw [hl] at hE
          obtain ⟨v, rfl, hv8⟩ := hE
          have B8 := Lib.hid (below_of HB.out HB.out.size hb8)
          have R8 := Lib.hid (HR.out.below hb8)
          have K8 := Lib.hid (HK.out.below hb8)
          have O8 := Lib.hid (HO.out.below hb8)
          have hsz8 := HB.out.size
          have V8 := Lib.hid (OwnI.lower hv8 hsz8)
          have HM2 := Lib.hid (show aheadC (R ++ [l]) (manyL n (texts s.data.toList) g j) = mr by rw [← hMs, manyL, hl]; exact aheadC_step R l _)
          have hjb := (litsL_bd n ((texts s.data.toList).drop i) i).2 l j hl
          rw [List.length_drop, Htl.out] at hjb
          obtain ⟨hj1, hj2⟩ := hjb
          obtain ⟨Avc, cvc, rfl, _, _, _⟩ := CellsAt.of_own O8.out.1
          obtain ⟨Av, cv, rfl, _⟩ := ownI_form hv8
          clear hl hb8 hMs cC hv8 x0 x1 x2 y0 y1 y2
          have c1 : w8.cell? ⟨w.heap.size + 1, 1, none⟩ = some (.slice Avc vs.length cvc) := by have := K8.out.cell 1; simpa using this
          go_wp2_with ((
            at_builtin
            refine app1 (w0 := w) w.heap.size rfl (.tmp 47) (.tmp 49) 22 23 (.slice none 0 0) 24 rfl Tryd.underlying22 info_ints rfl (.slice Avc vs.length cvc) vs.length vs (.slice Av l.length cv) rfl rfl rfl (by exact O8.out.1) (by exact B8.out) (by exact B8.out.size) (by omega) (by omega) ?_
            intro v9 w9 own9 hb9 hgr9 hat9
            obtain ⟨g9, cap9, rfl, _, _⟩ := own9.form (by omega)
            have O9 := Lib.hid own9
            have Hgr := Lib.hid hgr9
            have B9 := Lib.hid hb9
            have K9 := Lib.hid (K8.out.grown_row O8.out.1 (by decide) hgr9)
            have R9 := Lib.hid (R8.out.grown_row O8.out.1 (by decide) hgr9)
            have c9 : w9.cell? ⟨w.heap.size + 1, 1, none⟩ = some (.slice Avc vs.length cvc) := by
              have := K9.out.cell 1
              simpa using this
            have z9 := K9.out.frozen 1
            clear own9 hb9 hgr9 hat9 c1))
          have V9 := Lib.hid (show OwnI w9 w.heap.size 3 (.slice Av l.length cv) l from own_grown_row V8.out O8.out.1 (by decide) Hgr.out)
          have O10 := Lib.hid (show OwnC w9 w.heap.size (.slice (some ⟨g9, 0, none⟩) (vs.length + 1) cap9) (vs ++ [.slice Av l.length cv]) (R ++ [l]) from
            ⟨by have h := O9.out; simpa using h, (All2.imp O8.out.2 (fun _ _ _ _ h => own_grown_row h O8.out.1 (by decide) Hgr.out)).snoc V9.out⟩)
          go_wp2_with fail
          go_roundg g
          case measure => omega
          case rel =>
            refine ⟨j, k + 1, R ++ [l], vs ++ [Value.slice Av l.length cv], _, rfl, by go_num, by show _ = _; have := Hk.out; omega, by omega, by omega, B9.out.setCell (by show w.heap.size ≤ w.heap.size + 1; omega) _, R9.out.far (p := ⟨w.heap.size + 1, 1, none⟩) (by show w.heap.size ≠ w.heap.size + 1; omega) _, K9.out.at1 rfl, O10.out.set_blk K9.out (by decide) (by decide) 1 _, by simp [Hid, HRl.out], HM2.out⟩

end Go.Proofs.YtnadmnhkfdkafaaDoor
