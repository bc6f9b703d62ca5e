/- Contract: the document's Read. -/
import Derived.Test.YtnadmnhkfdkafaaDoorRfBody
namespace Go.Proofs.YtnadmnhkfdkafaaDoor
open Go.RowKit
set_option linter.unusedVariables false
set_option linter.unusedSimpArgs false

/-- how the document tells a text -/
def RefEnd (w : World) (l : List UInt8) (res : Nat ⊕ (Int × List (List Int) × List Int)) (e : Ending) (w' : World) : Prop :=
  Below w.heap.size w w' ∧ match res with
    | .inl j => e = .returned (.tuple #[.agg #[.int .i64 0, .slice none 0 0, .slice none 0 0], .int .i64 40, .int .i64 (placeW l j)])
    | .inr (n, cs, ts) => ∃ vc vt, e = .returned (.tuple #[.agg #[.int .i64 n, vc, vt], .int .i64 0, .int .i64 0]) ∧ IsRows w' vc cs ∧ IsInts w' vt ts
theorem refEnd_l {w w' : World} {l : List UInt8} {res : Nat ⊕ (Int × List (List Int) × List Int)} {j : Nat} (hb : Below w.heap.size w w') (hr : res = .inl j) : RefEnd w l res (.returned (.tuple #[.agg #[.int .i64 0, .slice none 0 0, .slice none 0 0], .int .i64 40, .int .i64 (placeW l j)])) w' := by
  subst hr; exact ⟨hb, rfl⟩
theorem refEnd_r {w w' : World} {l : List UInt8} {res : Nat ⊕ (Int × List (List Int) × List Int)} {n : Int} {cs : List (List Int)} {ts : List Int} {vc vt : Value} (hb : Below w.heap.size w w') (hr : res = .inr (n, cs, ts)) (h1 : IsRows w' vc cs) (h2 : IsInts w' vt ts) :
    RefEnd w l res (.returned (.tuple #[.agg #[.int .i64 n, vc, vt], .int .i64 0, .int .i64 0])) w' := by
  subst hr; exact ⟨hb, vc, vt, rfl, h1, h2⟩
/-- what was looked over ahead of word k -/
def Seen (tx : List (List UInt8)) (k : Nat) : Prop :=
  (0 < k → tx.getD 0 [] = [112]) ∧ (1 < k → tx.getD 1 [] = [99, 110, 102]) ∧ (2 < k → 0 ≤ valI (tx.getD 2 []) 1000000) ∧ (3 < k → isNum (tx.getD 3 []) = true) ∧ k ≤ tx.length
theorem getD_here {tx : List (List UInt8)} {k : Nat} {t : List UInt8} (h : tx[k]? = some t) : tx.getD k [] = t := by rw [List.getD_eq_getElem?_getD, h]; rfl
theorem getD_gone {tx : List (List UInt8)} {k : Nat} (h : ¬ k < tx.length) : tx.getD k [] = [] := by rw [List.getD_eq_getElem?_getD, List.getElem?_eq_none (by omega)]; rfl
theorem valI_nil (n : Int) : valI [] n = -1 := rfl
theorem seen_gone {tx : List (List UInt8)} {k : Nat} (h : Seen tx k) (hk : k < 4) (hm : ¬ k < tx.length) : readT tx = .inl k := by
  obtain ⟨h0, h1, h2, h3, _⟩ := h
  have hg := getD_gone hm
  rcases (by omega : k = 0 ∨ k = 1 ∨ k = 2 ∨ k = 3) with rfl | rfl | rfl | rfl
  · exact readT_0 (by rw [hg]; simp)
  · exact readT_1 (h0 (by omega)) (by rw [hg]; simp)
  · exact readT_2 (h0 (by omega)) (h1 (by omega)) (by rw [hg, valI_nil]; omega)
  · exact readT_3 (h0 (by omega)) (h1 (by omega)) (h2 (by omega)) (by rw [hg]; rfl)

set_option maxHeartbeats 8000000 in
set_option maxRecDepth 100000 in
theorem refRead_calls (s : ByteArray) (w : World) (hs : s.size ≤ 1048576) : Calls Tryd.prog 16 #[.string s] w (RefEnd w s.data.toList (readT (texts s.data.toList))) := by
  generalize hres : readT (texts s.data.toList) = res
  have Hres := Lib.hid hres
  clear hres
  have hm : (words s.data.toList 0).length ≤ s.size := by rw [Lib.size_eq]; exact Nat.le_trans (words_length _ _) (by omega)
  have Htl := Lib.hid (texts_length s.data.toList)
  have hb0 := (Below.refl w.heap.size w).alloc (Nat.le_refl _) (.cells #[.int .i64 0, .slice none 0 0, .slice none 0 0] 25)
  have B0 := Lib.hid hb0
  have R0 := Lib.hid (Blk.new w 25 #[.int .i64 0, .slice none 0 0, .slice none 0 0])
  have cW := Lib.hid (words_calls s (w.alloc (.cells #[.int .i64 0, .slice none 0 0, .slice none 0 0] 25)) hs)
  clear hb0
  go_enter Tryd.func16, Tryd.ntmps16
  go_wp2_with fail
  refine cW.out.mono ?_
  rintro e w1 ⟨v, rfl, hown, hb1⟩
  obtain ⟨A, c, rfl, hmc, hc, hWs⟩ := WsAt.of_own hown
  have HW := Lib.hid hWs
  have B1 := Lib.hid (below_of B0.out B0.out.size hb1)
  have R1 := Lib.hid (R0.out.below hb1)
  have cP := Lib.hid (fun W (i : Nat) hW => place_calls s A c i W hW hs)
  have cB := Lib.hid (fun (n : Int) t W hW hn0 hn1 ht hnum h4 => body_calls s A c n t W hW hs hn0 hn1 ht hnum h4)
  clear hown hWs hb1 cW R0 B0
  generalize hM : (words s.data.toList 0).length = m at *
  have HM := Lib.hid hM
  clear hM
  go_wp2_with fail
  go_loop [6, 7] (fun nv iv => ∃ (k : Nat) (n : Int), iv = .int .i64 k ∧ nv = .int .i64 n ∧ k ≤ 4 ∧ Hid (Seen (texts s.data.toList) k) ∧ Hid (2 < k → n = valI ((texts s.data.toList).getD 2 []) 1000000)) (fun _ iv => 4 - (intOf iv).toNat)
  case atStart => exact ⟨0, 0, rfl, rfl, by omega, ⟨by omega, by omega, by omega, by omega, Nat.zero_le _⟩, by intro h; omega⟩
  case round =>
    obtain ⟨k, n, rfl, rfl, hk4, HS, HN⟩ := hrel
    by_cases hk : k < 4
    · have hkz : (k : Int) < 4 := by omega
      by_cases hkm : k < m
      · obtain ⟨ad, t, rfl, c0, c1, hts, HT⟩ := HW.out.get (i := k) (by rw [Htl.out]; exact hkm)
        clear c1
        have hkmz : decide ((k : Int) < (m : Int)) = true := decide_eq_true (by omega)
        have HD := Lib.hid (getD_here HT.out)
        have e0 : ((k : Int) == 0) = decide (k = 0) := by rw [Bool.eq_iff_iff, beq_iff_eq, decide_eq_true_eq]; omega
        have e1 : ((k : Int) == 1) = decide (k = 1) := by rw [Bool.eq_iff_iff, beq_iff_eq, decide_eq_true_eq]; omega
        have e2 : ((k : Int) == 2) = decide (k = 2) := by rw [Bool.eq_iff_iff, beq_iff_eq, decide_eq_true_eq]; omega
        have hSk := HS.out
        obtain ⟨s0, s1, s2, s3, s4⟩ := hSk
        by_cases hk0 : k = 0
        · rw [decide_eq_true hk0] at e0
          by_cases hp : t.data.toList = [112]
          · have b1 := str_eq hp
            have HS2 := Lib.hid (show Seen (texts s.data.toList) (k + 1) from ⟨fun _ => by rw [← hk0, HD.out, hp], by omega, by omega, by omega, by rw [Htl.out]; omega⟩)
            have HN2 := Lib.hid (show 2 < k + 1 → n = valI ((texts s.data.toList).getD 2 []) 1000000 by intro h; omega)
            clear e1 e2 hp s0 s1 s2 s3 s4 hk0
            go_wp2_with fail
            go_round
            case rel => exact ⟨k + 1, n, by go_num, rfl, by omega, HS2, HN2⟩
            case measure => simp [intOf]; omega
          · have b1 := str_ne hp
            have Hr := Lib.hid (show res = .inl k by rw [← Hres.out, hk0]; exact readT_0 (by rw [← hk0, HD.out]; exact hp))
            clear e1 e2 hp s0 s1 s2 s3 s4 hk0
            have x0 : w1.cell? ⟨w.heap.size, 0, none⟩ = some (.int .i64 0) := by have := R1.out.cell 0; simpa using this
            have x1 : w1.cell? ⟨w.heap.size, 1, none⟩ = some (.slice none 0 0) := by have := R1.out.cell 1; simpa using this
            have x2 : w1.cell? ⟨w.heap.size, 2, none⟩ = some (.slice none 0 0) := by have := R1.out.cell 2; simpa using this
            have y0 : w1.frozen? ⟨w.heap.size, 0, none⟩ = false := R1.out.frozen 0
            have y1 : w1.frozen? ⟨w.heap.size, 1, none⟩ = false := R1.out.frozen 1
            have y2 : w1.frozen? ⟨w.heap.size, 2, none⟩ = false := R1.out.frozen 2
            go_wp2_with fail
            refine (cP.out _ k HW.out).mono ?_
            rintro e w' ⟨rfl, rfl⟩
            go_wp2_with fail
            refine bodyPost_ret (v := .tuple #[.agg #[.int .i64 0, .slice none 0 0, .slice none 0 0], .int .i64 40, .int .i64 (placeW s.data.toList k)]) (by simp [results, Tryd.results16, go_sem, x0, x1, x2]) rfl (refEnd_l ?_ Hr.out)
            exact ((B1.out.setCell (Nat.le_refl _) _).setCell (Nat.le_refl _) _).setCell (Nat.le_refl _) _
        · rw [decide_eq_false hk0] at e0
          by_cases hk1 : k = 1
          · rw [decide_eq_true hk1] at e1
            by_cases hp : t.data.toList = [99, 110, 102]
            · have b1 := str_eq hp
              have HS2 := Lib.hid (show Seen (texts s.data.toList) (k + 1) from ⟨fun _ => s0 (by omega), fun _ => by rw [← hk1, HD.out, hp], by omega, by omega, by rw [Htl.out]; omega⟩)
              have HN2 := Lib.hid (show 2 < k + 1 → n = valI ((texts s.data.toList).getD 2 []) 1000000 by intro h; omega)
              clear e2 hp s0 s1 s2 s3 s4 hk1 hk0
              go_wp2_with fail
              go_round
              case rel => exact ⟨k + 1, n, by go_num, rfl, by omega, HS2, HN2⟩
              case measure => simp [intOf]; omega
            · have b1 := str_ne hp
              have Hr := Lib.hid (show res = .inl k by rw [← Hres.out, hk1]; exact readT_1 (s0 (by omega)) (by rw [← hk1, HD.out]; exact hp))
              clear e2 hp s0 s1 s2 s3 s4 hk1 hk0
              have x0 : w1.cell? ⟨w.heap.size, 0, none⟩ = some (.int .i64 0) := by have := R1.out.cell 0; simpa using this
              have x1 : w1.cell? ⟨w.heap.size, 1, none⟩ = some (.slice none 0 0) := by have := R1.out.cell 1; simpa using this
              have x2 : w1.cell? ⟨w.heap.size, 2, none⟩ = some (.slice none 0 0) := by have := R1.out.cell 2; simpa using this
              have y0 : w1.frozen? ⟨w.heap.size, 0, none⟩ = false := R1.out.frozen 0
              have y1 : w1.frozen? ⟨w.heap.size, 1, none⟩ = false := R1.out.frozen 1
              have y2 : w1.frozen? ⟨w.heap.size, 2, none⟩ = false := R1.out.frozen 2
              go_wp2_with fail
              refine (cP.out _ k HW.out).mono ?_
              rintro e w' ⟨rfl, rfl⟩
              go_wp2_with fail
              refine bodyPost_ret (v := .tuple #[.agg #[.int .i64 0, .slice none 0 0, .slice none 0 0], .int .i64 40, .int .i64 (placeW s.data.toList k)]) (by simp [results, Tryd.results16, go_sem, x0, x1, x2]) rfl (refEnd_l ?_ Hr.out)
              exact ((B1.out.setCell (Nat.le_refl _) _).setCell (Nat.le_refl _) _).setCell (Nat.le_refl _) _
          · rw [decide_eq_false hk1] at e1
            by_cases hk2 : k = 2
            · rw [decide_eq_true hk2] at e2
              have cV := Lib.hid (fun W => value_calls t 1000000 W (by omega) (by omega) (by omega))
              have hVb := valI_bd t.data.toList 1000000 (by omega)
              have HV := Lib.hid (show valI ((texts s.data.toList).getD 2 []) 1000000 = valI t.data.toList 1000000 by rw [← hk2, HD.out])
              generalize valI t.data.toList 1000000 = V at *
              obtain ⟨hV1, hV2⟩ := hVb
              by_cases hp : 0 ≤ V
              · have b1 : decide (0 ≤ V) = true := decide_eq_true hp
                have HS2 := Lib.hid (show Seen (texts s.data.toList) (k + 1) from ⟨fun _ => s0 (by omega), fun _ => s1 (by omega), fun _ => by rw [HV.out]; exact hp, by omega, by rw [Htl.out]; omega⟩)
                have HN2 := Lib.hid (show 2 < k + 1 → V = valI ((texts s.data.toList).getD 2 []) 1000000 from fun _ => HV.out.symm)
                clear s0 s1 s2 s3 s4 hk2 hk1 hk0
                go_wp2_with fail
                refine (cV.out _).mono ?_
                rintro e w' ⟨rfl, rfl⟩
                go_wp2_with fail
                go_round
                case rel => exact ⟨k + 1, V, by go_num, rfl, by omega, HS2, HN2⟩
                case measure => simp [intOf]; omega
              · have b1 : decide (0 ≤ V) = false := decide_eq_false hp
                have Hr := Lib.hid (show res = .inl k by rw [← Hres.out, hk2]; exact readT_2 (s0 (by omega)) (s1 (by omega)) (by rw [HV.out]; exact hp))
                clear s0 s1 s2 s3 s4 hk2 hk1 hk0
                go_wp2_with fail
                refine (cV.out _).mono ?_
                rintro e w' ⟨rfl, rfl⟩
                have x0 : w1.cell? ⟨w.heap.size, 0, none⟩ = some (.int .i64 0) := by have := R1.out.cell 0; simpa using this
                have x1 : w1.cell? ⟨w.heap.size, 1, none⟩ = some (.slice none 0 0) := by have := R1.out.cell 1; simpa using this
                have x2 : w1.cell? ⟨w.heap.size, 2, none⟩ = some (.slice none 0 0) := by have := R1.out.cell 2; simpa using this
                have y0 : w1.frozen? ⟨w.heap.size, 0, none⟩ = false := R1.out.frozen 0
                have y1 : w1.frozen? ⟨w.heap.size, 1, none⟩ = false := R1.out.frozen 1
                have y2 : w1.frozen? ⟨w.heap.size, 2, none⟩ = false := R1.out.frozen 2
                go_wp2_with fail
                refine (cP.out _ k HW.out).mono ?_
                rintro e w' ⟨rfl, rfl⟩
                go_wp2_with fail
                refine bodyPost_ret (v := .tuple #[.agg #[.int .i64 0, .slice none 0 0, .slice none 0 0], .int .i64 40, .int .i64 (placeW s.data.toList k)]) (by simp [results, Tryd.results16, go_sem, x0, x1, x2]) rfl (refEnd_l ?_ Hr.out)
                exact ((B1.out.setCell (Nat.le_refl _) _).setCell (Nat.le_refl _) _).setCell (Nat.le_refl _) _
            · rw [decide_eq_false hk2] at e2
              have hk3 : k = 3 := by omega
              have cI := Lib.hid (fun W => isNumber_calls t W (by omega))
              cases hp : isNum t.data.toList with
              | true =>
                rw [hp] at cI
                have HS2 := Lib.hid (show Seen (texts s.data.toList) (k + 1) from ⟨fun _ => s0 (by omega), fun _ => s1 (by omega), fun _ => s2 (by omega), fun _ => by rw [← hk3, HD.out, hp], by rw [Htl.out]; omega⟩)
                have HN2 := Lib.hid (show 2 < k + 1 → n = valI ((texts s.data.toList).getD 2 []) 1000000 from fun _ => HN.out (by omega))
                clear hp s0 s1 s2 s3 s4 hk3 hk2 hk1 hk0
                go_wp2_with fail
                refine (cI.out _).mono ?_
                rintro e w' ⟨rfl, rfl⟩
                go_wp2_with fail
                go_round
                case rel => exact ⟨k + 1, n, by go_num, rfl, by omega, HS2, HN2⟩
                case measure => simp [intOf]; omega
              | false =>
                rw [hp] at cI
                have Hr := Lib.hid (show res = .inl k by rw [← Hres.out, hk3]; exact readT_3 (s0 (by omega)) (s1 (by omega)) (s2 (by omega)) (by rw [← hk3, HD.out, hp]))
                clear hp s0 s1 s2 s3 s4 hk3 hk2 hk1 hk0
                go_wp2_with fail
                refine (cI.out _).mono ?_
                rintro e w' ⟨rfl, rfl⟩
                have x0 : w1.cell? ⟨w.heap.size, 0, none⟩ = some (.int .i64 0) := by have := R1.out.cell 0; simpa using this
                have x1 : w1.cell? ⟨w.heap.size, 1, none⟩ = some (.slice none 0 0) := by have := R1.out.cell 1; simpa using this
                have x2 : w1.cell? ⟨w.heap.size, 2, none⟩ = some (.slice none 0 0) := by have := R1.out.cell 2; simpa using this
                have y0 : w1.frozen? ⟨w.heap.size, 0, none⟩ = false := R1.out.frozen 0
                have y1 : w1.frozen? ⟨w.heap.size, 1, none⟩ = false := R1.out.frozen 1
                have y2 : w1.frozen? ⟨w.heap.size, 2, none⟩ = false := R1.out.frozen 2
                go_wp2_with fail
                refine (cP.out _ k HW.out).mono ?_
                rintro e w' ⟨rfl, rfl⟩
                go_wp2_with fail
                refine bodyPost_ret (v := .tuple #[.agg #[.int .i64 0, .slice none 0 0, .slice none 0 0], .int .i64 40, .int .i64 (placeW s.data.toList k)]) (by simp [results, Tryd.results16, go_sem, x0, x1, x2]) rfl (refEnd_l ?_ Hr.out)
                exact ((B1.out.setCell (Nat.le_refl _) _).setCell (Nat.le_refl _) _).setCell (Nat.le_refl _) _
      · have hkmz : decide ((k : Int) < (m : Int)) = false := decide_eq_false (by omega)
        have Hr := Lib.hid (show res = .inl k by rw [← Hres.out]; exact seen_gone HS.out hk (by rw [Htl.out]; exact hkm))
        have x0 : w1.cell? ⟨w.heap.size, 0, none⟩ = some (.int .i64 0) := by have := R1.out.cell 0; simpa using this
        have x1 : w1.cell? ⟨w.heap.size, 1, none⟩ = some (.slice none 0 0) := by have := R1.out.cell 1; simpa using this
        have x2 : w1.cell? ⟨w.heap.size, 2, none⟩ = some (.slice none 0 0) := by have := R1.out.cell 2; simpa using this
        have y0 : w1.frozen? ⟨w.heap.size, 0, none⟩ = false := R1.out.frozen 0
        have y1 : w1.frozen? ⟨w.heap.size, 1, none⟩ = false := R1.out.frozen 1
        have y2 : w1.frozen? ⟨w.heap.size, 2, none⟩ = false := R1.out.frozen 2
        go_wp2_with fail
        refine (cP.out _ k HW.out).mono ?_
        rintro e w' ⟨rfl, rfl⟩
        go_wp2_with fail
        refine bodyPost_ret (v := .tuple #[.agg #[.int .i64 0, .slice none 0 0, .slice none 0 0], .int .i64 40, .int .i64 (placeW s.data.toList k)]) (by simp [results, Tryd.results16, go_sem, x0, x1, x2]) rfl (refEnd_l ?_ Hr.out)
        exact ((B1.out.setCell (Nat.le_refl _) _).setCell (Nat.le_refl _) _).setCell (Nat.le_refl _) _
    · have hkz : ¬ ((k : Int) < 4) := by omega
      obtain ⟨s0, s1, s2, s3, s4⟩ := HS.out
      have hn := HN.out (by omega)
      obtain ⟨ad, t, rfl, c0, c1, hts, HT⟩ := HW.out.get (i := 3) (by omega)
      have h4m : 4 ≤ m := by rw [Htl.out] at s4; omega
      have h3m : (3 : Int) < (m : Int) := by omega
      have HD := Lib.hid (getD_here HT.out)
      have c6 : w1.cell? ⟨ad.block, ad.off + 6, none⟩ = some (.string t) := c0
      have hVb := valI_bd ((texts s.data.toList).getD 2 []) 1000000 (by omega)
      have HR := Lib.hid (readT_ok (s0 (by omega)) (s1 (by omega)) (s2 (by omega)) (s3 (by omega)))
      have hn0 := s2 (by omega)
      rw [← hn] at HR hn0 hVb
      have cD := Lib.hid (cB.out n t w1 HW.out hn0 hVb.2 hts (by rw [← HD.out]; exact s3 (by omega)) (by omega))
      rw [← HD.out, ← HR.out, Hres.out] at cD
      clear s0 s1 s2 s3 s4 hn hVb c1 hn0
      go_wp2_with fail
      refine cD.out.mono ?_
      rintro e w2 ⟨hb2, hE⟩
      have B2 := Lib.hid (below_of B1.out B1.out.size hb2)
      have R2 := Lib.hid (R1.out.below hb2)
      have W2 := Lib.hid (HW.out.below hb2)
      clear hb2 cD c0 c6
      cases hres2 : res with
      | inl j =>
        rw [hres2] at hE
        obtain rfl := hE
        have Hr := Lib.hid hres2
        have hz := (Below.refl w2.heap.size w2).alloc (Nat.le_refl _) (.cells #[.int .i64 0, .slice none 0 0, .slice none 0 0] 25)
        have B3 := Lib.hid (B2.out.alloc B2.out.size (.cells #[.int .i64 0, .slice none 0 0, .slice none 0 0] 25))
        have R3 := Lib.hid (R2.out.below hz)
        have W3 := Lib.hid (W2.out.below hz)
        clear hz hres2
        have x0 : (w2.alloc (.cells #[.int .i64 0, .slice none 0 0, .slice none 0 0] 25)).cell? ⟨w.heap.size, 0, none⟩ = some (.int .i64 0) := by have := R3.out.cell 0; simpa using this
        have x1 : (w2.alloc (.cells #[.int .i64 0, .slice none 0 0, .slice none 0 0] 25)).cell? ⟨w.heap.size, 1, none⟩ = some (.slice none 0 0) := by have := R3.out.cell 1; simpa using this
        have x2 : (w2.alloc (.cells #[.int .i64 0, .slice none 0 0, .slice none 0 0] 25)).cell? ⟨w.heap.size, 2, none⟩ = some (.slice none 0 0) := by have := R3.out.cell 2; simpa using this
        have y0 : (w2.alloc (.cells #[.int .i64 0, .slice none 0 0, .slice none 0 0] 25)).frozen? ⟨w.heap.size, 0, none⟩ = false := R3.out.frozen 0
        have y1 : (w2.alloc (.cells #[.int .i64 0, .slice none 0 0, .slice none 0 0] 25)).frozen? ⟨w.heap.size, 1, none⟩ = false := R3.out.frozen 1
        have y2 : (w2.alloc (.cells #[.int .i64 0, .slice none 0 0, .slice none 0 0] 25)).frozen? ⟨w.heap.size, 2, none⟩ = false := R3.out.frozen 2
        go_wp2_with fail
        refine (cP.out _ j W3.out).mono ?_
        rintro e w' ⟨rfl, rfl⟩
        go_wp2_with fail
        refine bodyPost_ret (v := .tuple #[.agg #[.int .i64 0, .slice none 0 0, .slice none 0 0], .int .i64 40, .int .i64 (placeW s.data.toList j)]) (by simp [results, Tryd.results16, go_sem, x0, x1, x2]) rfl (refEnd_l ?_ Hr.out)
        exact ((B3.out.setCell (Nat.le_refl _) _).setCell (Nat.le_refl _) _).setCell (Nat.le_refl _) _
      | inr q =>
        obtain ⟨n', cs, ts⟩ := q
        rw [hres2] at hE
        obtain ⟨vc, vt, vs, rfl, hRc, hIt⟩ := hE
        have Hr := Lib.hid hres2
        have hz := (Below.refl w2.heap.size w2).alloc (Nat.le_refl _) (.cells #[.int .i64 n', vc, vt] 25)
        have B3 := Lib.hid (B2.out.alloc B2.out.size (.cells #[.int .i64 n', vc, vt] 25))
        have R3 := Lib.hid (R2.out.below hz)
        have C3 := Lib.hid (Blk.new w2 25 #[.int .i64 n', vc, vt])
        have Rc3 := Lib.hid (hRc.below hz)
        have It3 := Lib.hid (OwnI.below hIt hz)
        have hvs : vs.length = cs.length := hRc.2.1
        obtain ⟨Ac, cc, rfl, _⟩ := hRc.rows
        obtain ⟨At, ct, rfl, _⟩ := ownI_form hIt
        have x0 : (w2.alloc (.cells #[.int .i64 n', .slice Ac cs.length cc, .slice At ts.length ct] 25)).cell? ⟨w.heap.size, 0, none⟩ = some (.int .i64 0) := by have := R3.out.cell 0; simpa using this
        have x1 : (w2.alloc (.cells #[.int .i64 n', .slice Ac cs.length cc, .slice At ts.length ct] 25)).cell? ⟨w.heap.size, 1, none⟩ = some (.slice none 0 0) := by have := R3.out.cell 1; simpa using this
        have x2 : (w2.alloc (.cells #[.int .i64 n', .slice Ac cs.length cc, .slice At ts.length ct] 25)).cell? ⟨w.heap.size, 2, none⟩ = some (.slice none 0 0) := by have := R3.out.cell 2; simpa using this
        have y0 : (w2.alloc (.cells #[.int .i64 n', .slice Ac cs.length cc, .slice At ts.length ct] 25)).frozen? ⟨w.heap.size, 0, none⟩ = false := R3.out.frozen 0
        have y1 : (w2.alloc (.cells #[.int .i64 n', .slice Ac cs.length cc, .slice At ts.length ct] 25)).frozen? ⟨w.heap.size, 1, none⟩ = false := R3.out.frozen 1
        have y2 : (w2.alloc (.cells #[.int .i64 n', .slice Ac cs.length cc, .slice At ts.length ct] 25)).frozen? ⟨w.heap.size, 2, none⟩ = false := R3.out.frozen 2
        clear hz hres2
        go_wp2_with fail
        refine bodyPost_ret (v := .tuple #[.agg #[.int .i64 n', .slice Ac cs.length cc, .slice At ts.length ct], .int .i64 0, .int .i64 0]) (by simp [results, Tryd.results16, go_sem, x0, x1, x2]) rfl
          (refEnd_r (((B3.out.setCell (Nat.le_refl _) _).setCell (Nat.le_refl _) _).setCell (Nat.le_refl _) _) Hr.out ?_ ?_)
        · exact OwnC.rows (((Rc3.out.set_blk R3.out (by decide) (by decide) 0 _).set_blk (R3.out.set_ 0 _) (by decide) (by decide) 1 _).set_blk ((R3.out.set_ 0 _).set_ 1 _) (by decide) (by decide) 2 _)
        · exact OwnI.ints (own_setCell_blk (own_setCell_blk (own_setCell_blk It3.out R3.out (by decide) 0 _) (R3.out.set_ 0 _) (by decide) 1 _) ((R3.out.set_ 0 _).set_ 1 _) (by decide) 2 _)

end Go.Proofs.YtnadmnhkfdkafaaDoor
