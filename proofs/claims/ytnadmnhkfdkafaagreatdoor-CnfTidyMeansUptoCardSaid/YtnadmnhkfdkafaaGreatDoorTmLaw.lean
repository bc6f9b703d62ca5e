/- The walk of CnfTidyMeans: true at all clauses and assignments of at most 2097152 values. -/
import Derived.Test.YtnadmnhkfdkafaaGreatDoorTmLive
import Derived.Test.YtnadmnhkfdkafaaGreatDoorSteps
import Derived.Deep.DrawnRows
import Derived.Deep.RegionHeld3
import Derived.Deep.RegionWith
import Derived.Deep.CutRange
import Derived.Deep.QuietTactic
import Derived.BigQuiet
namespace Go.Proofs.YtnadmnhkfdkafaaGreatDoor
open Go.RowKit
set_option linter.unusedVariables false
set_option linter.unusedSimpArgs false

theorem lits_bd {n : Int} {xss : List (List Int)} (h0 : 0 ≤ n) (h1 : n ≤ 1000000) (h : okRows n xss = true) : ∀ l ∈ xss, ∀ x ∈ l, -1000000 ≤ x ∧ x ≤ 1000000 := fun l hl x hx => by
  have h2 := List.all_eq_true.1 (List.all_eq_true.1 h l hl) x hx
  unfold okLit at h2
  simp at h2
  omega
theorem turned_length (xss : List (List Int)) : (turned xss).length ≤ xss.length + 1 := by
  unfold turned; cases xss <;> simp
theorem turned_lists {xss : List (List Int)} {N : Nat} (h : ∀ l ∈ xss, l.length ≤ N) : ∀ l ∈ turned xss, l.length ≤ 2 * N := by
  intro l hl
  unfold turned at hl
  rw [List.mem_append] at hl
  rcases hl with hl | hl
  · rw [List.mem_map] at hl
    obtain ⟨l', hl', rfl⟩ := hl
    have := h l' (by simpa using hl')
    simp; omega
  · cases xss with
    | nil => cases hl
    | cons a r =>
      simp at hl
      subst hl
      have := h a (by simp)
      simp; omega

theorem tidyR_lists {xss : List (List Int)} {N : Nat} (h : ∀ l ∈ xss, l.length ≤ N) : ∀ l ∈ tidyR xss, l.length ≤ N := by
  intro l hl
  obtain ⟨l', hl', _, rfl⟩ := (tidyR_mem xss l).1 hl
  exact Nat.le_trans (sortS_length l') (h l' hl')

theorem rows_turned {xss : List (List Int)} {p : Nat} {l : List Int} {R : Value → List Int → Prop} {vs : List Value} {v : Value} (hlt : p < xss.length) (Hl : xss[p]? = some l)
    (h : All2 R vs ((xss.drop (p + 1)).reverse.map List.reverse)) (hv : R v l.reverse) : All2 R (vs ++ [v]) ((xss.drop p).reverse.map List.reverse) := by
  rw [List.drop_eq_getElem_cons hlt, List.reverse_cons, List.map_append]
  rw [List.getElem?_eq_getElem hlt] at Hl
  injection Hl with e
  rw [e]
  exact h.snoc hv

theorem turned_first {xss : List (List Int)} {l : List Int} (Hl : xss[0]? = some l) : turned xss = xss.reverse.map List.reverse ++ [l ++ l] := by
  cases xss with
  | nil => simp at Hl
  | cons a r =>
    simp at Hl
    subst Hl
    rfl

/-- the load of d's clauses in the last append's statement, under a name (the region's own store writes that cell: it is not to be taken first) -/
def ld98 : Op := Op.load 29 (.tmp 97)
theorem ld98_eq : ld98 = Op.load 29 (.tmp 97) := rfl

set_option maxHeartbeats 8000000 in
set_option maxRecDepth 100000 in
theorem means_calls (n : Int) (A : Option Addr) (c : Nat) (xss : List (List Int)) (At : Option Addr) (ct : Nat) (ts : List Int) (Av : Option Addr) (cv : Nat) (val : List Bool) (w : World)
    (hx : RowsAt w A xss) (ht : IntsAt w At ts) (hv : BoolsAt w Av val) (hl : xss.length ≤ 1048576) (htl : ts.length ≤ 1048576) (hxl : ∀ l ∈ xss, l.length ≤ 1048576) (hvl : val.length ≤ 2097152) (hc : xss.length ≤ c) (hr : RangeV w) (htab : Tab w) :
    Calls Tryz.prog 10 #[.agg #[.int .i64 n, .slice A xss.length c, .slice At ts.length ct], .slice Av val.length cv] w fun e w' => e = .returned (.bool true) ∧ Below w.heap.size w w' := by
  have HX := Lib.hid hx
  have HT := Lib.hid ht
  have HV := Lib.hid hv
  have HL := Lib.hid hxl
  have HR := Lib.hid hr
  have HTab := Lib.hid htab
  have hb0 := (Below.refl w.heap.size w).alloc (Nat.le_refl _) (.cells #[.int .i64 n, .slice A xss.length c, .slice At ts.length ct] 54)
  have B0 := Lib.hid hb0
  have K0 := Lib.hid (Blk.new w 54 #[.int .i64 n, .slice A xss.length c, .slice At ts.length ct])
  have cLive := Lib.hid (live_calls _ (hr.below hb0) (htab.below hb0))
  clear hx ht hv hxl hr htab hb0
  go_enter Tryz.func10, Tryz.ntmps10
  go_wp2_with fail
  refine cLive.out.mono ?_
  rintro e w1 ⟨rfl, hb1⟩
  have B1 := Lib.hid (below_of B0.out B0.out.size hb1)
  have K1 := Lib.hid (K0.out.below hb1)
  clear hb1 cLive
  have cT := Lib.hid (tidy_calls n A c xss At ct ts w1 (HX.out.below B1.out) (IntsAt.below HT.out B1.out) (by omega) (by omega) (fun l hl => by have := HL.out l hl; omega) hc (HTab.out.below B1.out))
  have k0 : w1.cell? ⟨w.heap.size, 0, none⟩ = some (.int .i64 n) := by have := K1.out.cell 0; simpa using this
  have k1 : w1.cell? ⟨w.heap.size, 1, none⟩ = some (.slice A xss.length c) := by have := K1.out.cell 1; simpa using this
  have k2 : w1.cell? ⟨w.heap.size, 2, none⟩ = some (.slice At ts.length ct) := by have := K1.out.cell 2; simpa using this
  go_wp2_with fail
  refine cT.out.mono ?_
  rintro e w2 ⟨vc, vt, vs, rfl, hOC, hOT, _, _, hb2⟩
  have B2 := Lib.hid (below_of B1.out B1.out.size hb2)
  have K2 := Lib.hid (K1.out.below hb2)
  clear hb2 cT k0 k1 k2
  cases hok : okCnf ⟨n, xss, ts⟩ with
  | false =>
    rw [hok] at hOC hOT
    have hz := (Below.refl w2.heap.size w2).alloc (Nat.le_refl _) (.cells #[.int .i64 0, vc, vt] 54)
    have B3 := Lib.hid (B2.out.alloc B2.out.size (.cells #[.int .i64 0, vc, vt] 54))
    have K3 := Lib.hid (K2.out.alloc (.cells #[.int .i64 0, vc, vt] 54))
    have cC := Lib.hid (check_calls n A c xss At ct ts _ (HX.out.below B3.out) (IntsAt.below HT.out B3.out) (by omega) (by omega) hc)
    rw [hok] at cC
    simp only [Bool.false_eq_true, if_false] at cC
    obtain ⟨Ac, cc, rfl, _, _, _⟩ := CellsAt.of_own hOC.1
    simp only [Bool.false_eq_true, if_false] at hOT
    obtain ⟨At2, ct2, hvt, _⟩ := ownI_form hOT
    rw [List.length_nil] at hvt
    subst hvt
    have k0 : (w2.alloc (.cells #[.int .i64 0, .slice Ac vs.length cc, .slice At2 0 ct2] 54)).cell? ⟨w.heap.size, 0, none⟩ = some (.int .i64 n) := by have := K3.out.cell 0; simpa using this
    have k1 : (w2.alloc (.cells #[.int .i64 0, .slice Ac vs.length cc, .slice At2 0 ct2] 54)).cell? ⟨w.heap.size, 1, none⟩ = some (.slice A xss.length c) := by have := K3.out.cell 1; simpa using this
    have k2 : (w2.alloc (.cells #[.int .i64 0, .slice Ac vs.length cc, .slice At2 0 ct2] 54)).cell? ⟨w.heap.size, 2, none⟩ = some (.slice At ts.length ct) := by have := K3.out.cell 2; simpa using this
    clear hok hOC hOT hz
    go_wp2_with fail
    refine cC.out.mono ?_
    rintro e w4 ⟨rfl, hb4⟩
    have B4 := Lib.hid (below_of B3.out B3.out.size hb4)
    clear hb4
    go_wp2_with fail
    go_ret
    exact ⟨rfl, B4.out⟩
  | true =>
    rw [hok] at hOC hOT
    simp only [if_true] at hOC hOT
    obtain ⟨Ac, cc, rfl, hcc, hcm, hRc⟩ := hOC.rows
    obtain ⟨At2, ct2, rfl, hIt⟩ := ownI_form hOT
    have Hvl := Lib.hid (show vs.length = (tidyR xss).length from hOC.2.1)
    have hz := (Below.refl w2.heap.size w2).alloc (Nat.le_refl _) (.cells #[.int .i64 n, .slice Ac (tidyR xss).length cc, .slice At2 ts.length ct2] 54)
    have B3 := Lib.hid (B2.out.alloc B2.out.size (.cells #[.int .i64 n, .slice Ac (tidyR xss).length cc, .slice At2 ts.length ct2] 54))
    have K3 := Lib.hid (K2.out.alloc (.cells #[.int .i64 n, .slice Ac (tidyR xss).length cc, .slice At2 ts.length ct2] 54))
    have KT := Lib.hid (Blk.new w2 54 #[.int .i64 n, .slice Ac (tidyR xss).length cc, .slice At2 ts.length ct2])
    have RT := Lib.hid (hRc.below hz)
    have IT := Lib.hid (IntsAt.below hIt hz)
    have Hok := Lib.hid hok
    clear hok hOC hOT hRc hIt hz
    have Hpr := Lib.hid (show okRows n xss = true by have h := Hok.out; simp only [okCnf, Bool.and_eq_true] at h; exact h.2)
    obtain ⟨⟨hn0, hn1⟩, _, _⟩ := okCnf_parts Hok.out
    have HLx := Lib.hid (show ∀ l ∈ xss, l.length ≤ 2097152 ∧ ∀ x ∈ l, -1000000 ≤ x ∧ x ≤ 1000000 from fun l hl => ⟨by have := HL.out l hl; omega, lits_bd hn0 hn1 Hpr.out l hl⟩)
    have hRl : (tidyR xss).length ≤ 1048576 := Nat.le_trans (tidyR_length xss) hl
    have HLt := Lib.hid (show ∀ l ∈ tidyR xss, l.length ≤ 1048576 from tidyR_lists HL.out)
    have HLt2 := Lib.hid (show ∀ l ∈ tidyR xss, l.length ≤ 2097152 ∧ ∀ x ∈ l, -1000000 ≤ x ∧ x ≤ 1000000 from fun l hl => ⟨by have := HLt.out l hl; omega, lits_bd hn0 hn1 (okRows_tidy Hpr.out) l hl⟩)
    go_upto_region 6 with fail
    obtain ⟨W, hW⟩ : ∃ W, W = w2.alloc (.cells #[.int .i64 n, .slice Ac (tidyR xss).length cc, .slice At2 ts.length ct2] 54) := ⟨_, rfl⟩
    rw [← hW]
    rw [← hW] at B3 K3 KT RT IT
    clear hW
    go_cut [46] from 17 to 46 (fun v wx => v = .bool false ∧ Hid (Below W.heap.size W wx))
    case first =>
      have k0 : W.cell? ⟨w.heap.size, 0, none⟩ = some (.int .i64 n) := by have := K3.out.cell 0; simpa using this
      have k1 : W.cell? ⟨w.heap.size, 1, none⟩ = some (.slice A xss.length c) := by have := K3.out.cell 1; simpa using this
      have k2 : W.cell? ⟨w.heap.size, 2, none⟩ = some (.slice At ts.length ct) := by have := K3.out.cell 2; simpa using this
      have m0 : W.cell? ⟨w2.heap.size, 0, none⟩ = some (.int .i64 n) := by have := KT.out.cell 0; simpa using this
      have m1 : W.cell? ⟨w2.heap.size, 1, none⟩ = some (.slice Ac (tidyR xss).length cc) := by have := KT.out.cell 1; simpa using this
      have m2 : W.cell? ⟨w2.heap.size, 2, none⟩ = some (.slice At2 ts.length ct2) := by have := KT.out.cell 2; simpa using this
      by_cases hg : n ≤ (val.length : Int)
      · have hd : decide ((val.length : Int) ≥ n) = true := decide_eq_true hg
        have hd2 : decide (n ≤ (val.length : Int)) = true := decide_eq_true hg
        have cA := Lib.hid (show ∀ w', Hid (Below W.heap.size W w') → Calls Tryz.prog 32 #[.agg #[.int .i64 n, .slice A xss.length c, .slice At ts.length ct], .int .i64 xss.length, .slice Av val.length cv] w' fun e w'' => e = .returned (.bool (allB val xss)) ∧ Hid (Below W.heap.size W w'') from fun w' h =>
          (all_calls n A c xss At ct ts Av cv val w' ((HX.out.below B3.out).below h.out) ((HV.out.below B3.out).below h.out) hvl (by omega) HLx.out).mono fun e w'' h2 => ⟨h2.1, below_of h.out h.out.size h2.2⟩)
        have cB := Lib.hid (show ∀ w', Hid (Below W.heap.size W w') → Calls Tryz.prog 32 #[.agg #[.int .i64 n, .slice Ac (tidyR xss).length cc, .slice At2 ts.length ct2], .int .i64 (tidyR xss).length, .slice Av val.length cv] w' fun e w'' => e = .returned (.bool (allB val xss)) ∧ Hid (Below W.heap.size W w'') from fun w' h =>
          (all_calls n Ac cc (tidyR xss) At2 ct2 ts Av cv val w' (RT.out.below h.out) ((HV.out.below B3.out).below h.out) hvl (by omega) HLt2.out).mono fun e w'' h2 => ⟨by rw [← allB_tidy Hpr.out hg]; exact h2.1, below_of h.out h.out.size h2.2⟩)
        have hS := Lib.hid (show ∀ w', Hid (Below W.heap.size W w') → w'.cell? ⟨w.heap.size, 0, none⟩ = some (.int .i64 n) ∧ w'.cell? ⟨w.heap.size, 1, none⟩ = some (.slice A xss.length c) ∧ w'.cell? ⟨w.heap.size, 2, none⟩ = some (.slice At ts.length ct) ∧
          w'.cell? ⟨w2.heap.size, 0, none⟩ = some (.int .i64 n) ∧ w'.cell? ⟨w2.heap.size, 1, none⟩ = some (.slice Ac (tidyR xss).length cc) ∧ w'.cell? ⟨w2.heap.size, 2, none⟩ = some (.slice At2 ts.length ct2) ∧ Hid (Below W.heap.size W w') from fun w' h =>
          ⟨cell_kept h.out k0, cell_kept h.out k1, cell_kept h.out k2, cell_kept h.out m0, cell_kept h.out m1, cell_kept h.out m2, h⟩)
        have hbW := Lib.hid (Below.refl W.heap.size W)
        generalize hrr : allB val xss = rr at cA cB
        have hne : (rr != rr) = false := by simp
        have Hrr := Lib.hid hrr
        clear hrr
        go_region_held3 (fun w' => w'.cell? ⟨w.heap.size, 0, none⟩ = some (.int .i64 n) ∧ w'.cell? ⟨w.heap.size, 1, none⟩ = some (.slice A xss.length c) ∧ w'.cell? ⟨w.heap.size, 2, none⟩ = some (.slice At ts.length ct) ∧
          w'.cell? ⟨w2.heap.size, 0, none⟩ = some (.int .i64 n) ∧ w'.cell? ⟨w2.heap.size, 1, none⟩ = some (.slice Ac (tidyR xss).length cc) ∧ w'.cell? ⟨w2.heap.size, 2, none⟩ = some (.slice At2 ts.length ct2) ∧ Hid (Below W.heap.size W w'))
          (first
            | exact hS.out _ (by assumption)
            | exact hS.out _ (Lib.hid (Below.drew (Hid.out (by assumption))))
            | go_keep)
          (first
            | (go_at_call_of 32 (Value.slice A xss.length c)
               refine (cA.out _ ?_).mono ?_
               · first | assumption | (go_split_ands; assumption)
               rintro e w'' ⟨rfl, hbb⟩)
            | (go_at_call_of 32 (Value.slice Ac (tidyR xss).length cc)
               refine (cB.out _ ?_).mono ?_
               · first | assumption | (go_split_ands; assumption)
               rintro e w'' ⟨rfl, hbb⟩))
        all_goals
          go_wp2_with fail
          go_meet
          refine ⟨rfl, ?_⟩
          first | assumption | (go_split_ands; assumption)
      · have hd : decide ((val.length : Int) ≥ n) = false := decide_eq_false hg
        have hd2 : decide (n ≤ (val.length : Int)) = false := decide_eq_false hg
        go_quiet (fail)
        go_wp2_with fail
        go_meet
        first | exact ⟨rfl, Lib.hid (Below.refl W.heap.size W)⟩ | exact ⟨rfl, Lib.hid (below_drewN (Below.refl W.heap.size W) _)⟩
    case rest =>
      obtain ⟨rfl, hcb⟩ := hcut
      have B4 := Lib.hid (below_of B3.out B3.out.size hcb.out)
      have K4 := Lib.hid (K3.out.below hcb.out)
      have KT4 := Lib.hid (KT.out.below hcb.out)
      have RT4 := Lib.hid (RT.out.below hcb.out)
      have IT4 := Lib.hid (IntsAt.below IT.out hcb.out)
      clear hcb K3 KT RT IT
      have Hok2 := Lib.hid (show okCnf ⟨n, tidyR xss, ts⟩ = true by have h := Hok.out; simp only [okCnf, Bool.and_eq_true] at h ⊢; exact ⟨h.1, okRows_tidy h.2⟩)
      have cT := Lib.hid (tidy_calls n Ac cc (tidyR xss) At2 ct2 ts wc RT4.out IT4.out (by omega) (by omega) (fun l hl => (HLt2.out l hl).1) hcc (HTab.out.below B4.out))
      rw [Hok2.out, tidyR_twice] at cT
      simp only [if_true] at cT
      have m0 : wc.cell? ⟨w2.heap.size, 0, none⟩ = some (.int .i64 n) := by have := KT4.out.cell 0; simpa using this
      have m1 : wc.cell? ⟨w2.heap.size, 1, none⟩ = some (.slice Ac (tidyR xss).length cc) := by have := KT4.out.cell 1; simpa using this
      have m2 : wc.cell? ⟨w2.heap.size, 2, none⟩ = some (.slice At2 ts.length ct2) := by have := KT4.out.cell 2; simpa using this
      go_wp2_with fail
      refine cT.out.mono ?_
      rintro e w5 ⟨vc5, vt5, vs5, rfl, hOC5, hOT5, _, _, hb5⟩
      have B5 := Lib.hid (below_of B4.out B4.out.size hb5)
      have K5 := Lib.hid (K4.out.below hb5)
      have KT5 := Lib.hid (KT4.out.below hb5)
      have RT5 := Lib.hid (RT4.out.below hb5)
      have IT5 := Lib.hid (IntsAt.below IT4.out hb5)
      clear m0 m1 m2 cT K4 KT4 RT4 IT4 hb5
      obtain ⟨Au, cu, rfl, hcu, _, hRu⟩ := hOC5.rows
      obtain ⟨Atu, ctu, rfl, hItu⟩ := ownI_form hOT5
      have HRu := Lib.hid hRu
      have HItu := Lib.hid hItu
      clear hRu hItu hOC5 hOT5
      obtain ⟨W5, hW5⟩ : ∃ W5, W5 = w5.alloc (.cells #[.int .i64 n, .slice Au (tidyR xss).length cu, .slice Atu ts.length ctu] 54) := ⟨_, rfl⟩
      have hz5 := (Below.refl w5.heap.size w5).alloc (Nat.le_refl _) (.cells #[.int .i64 n, .slice Au (tidyR xss).length cu, .slice Atu ts.length ctu] 54)
      have B6 := Lib.hid (B5.out.alloc B5.out.size (.cells #[.int .i64 n, .slice Au (tidyR xss).length cu, .slice Atu ts.length ctu] 54))
      have K6 := Lib.hid (K5.out.below hz5)
      have KT6 := Lib.hid (KT5.out.below hz5)
      have RT6 := Lib.hid (RT5.out.below hz5)
      have IT6 := Lib.hid (IntsAt.below IT5.out hz5)
      have KU6 := Lib.hid (Blk.new w5 54 #[.int .i64 n, .slice Au (tidyR xss).length cu, .slice Atu ts.length ctu])
      have RU6 := Lib.hid (HRu.out.below hz5)
      have IU6 := Lib.hid (IntsAt.below HItu.out hz5)
      have hS5 : W5.heap.size = w5.heap.size + 1 := by rw [hW5]; simp
      have HS5 := Lib.hid hS5
      rw [← hW5] at B6 K6 KT6 RT6 IT6 KU6 RU6 IU6
      have k0 : W5.cell? ⟨w.heap.size, 0, none⟩ = some (.int .i64 n) := by have := K6.out.cell 0; simpa using this
      have k1 : W5.cell? ⟨w.heap.size, 1, none⟩ = some (.slice A xss.length c) := by have := K6.out.cell 1; simpa using this
      have k2 : W5.cell? ⟨w.heap.size, 2, none⟩ = some (.slice At ts.length ct) := by have := K6.out.cell 2; simpa using this
      clear K5 KT5 RT5 IT5 HRu HItu hz5 hS5
      go_upto_region 9 with fail
      rw [← hW5]
      clear hW5
      have KD := Lib.hid (Blk.new W5 54 #[.int .i64 n, .slice none 0 0, .slice At ts.length ct])
      have BD := Lib.hid ((Below.refl W5.heap.size W5).alloc (Nat.le_refl _) (.cells #[.int .i64 n, .slice none 0 0, .slice At ts.length ct] 54))
      go_upto_region 10 with fail
      obtain ⟨W6, hW6⟩ : ∃ W6, W6 = W5.alloc (.cells #[.int .i64 n, .slice none 0 0, .slice At ts.length ct] 54) := ⟨_, rfl⟩
      rw [← hW6]
      rw [← hW6] at KD BD
      clear hW6
      have q1 : W6.cell? ⟨w.heap.size, 1, none⟩ = some (.slice A xss.length c) := cell_kept BD.out k1
      have hKn := Lib.hid (show w.heap.size < W5.heap.size from K6.out.lt)
      clear k0 k1 k2
      go_wp2_with fail
      go_loopw [10] (fun i wr => ∃ (q : Nat) (vc : Value) (vs : List Value), q ≤ xss.length ∧ i = .int .i64 ((q : Int) - 1) ∧ Hid (OwnC wr W5.heap.size vc vs ((xss.drop q).reverse.map List.reverse)) ∧
        Hid (Blk wr W5.heap.size 54 #[.int .i64 n, vc, .slice At ts.length ct]) ∧ Hid (Below W5.heap.size W5 wr)) (fun i _ => (intOf i + 1).toNat)
      case atStart => exact ⟨xss.length, .slice none 0 0, [], Nat.le_refl _, rfl, ⟨World.ownsRow_nil _ _ _ _, by simpa using All2.nil _⟩, KD.out, BD.out⟩
      case round =>
        obtain ⟨q, vc, vs6, hq, rfl, hown, hB3, hb⟩ := hrel
        clear KD BD q1
        obtain ⟨wo, rfl⟩ : ∃ wo : World, wo = wr := ⟨_, rfl⟩
        have Ko := Lib.hid (K6.out.below hb.out)
        have Xo := Lib.hid ((HX.out.below B6.out).below hb.out)
        have k1 : wo.cell? ⟨w.heap.size, 1, none⟩ = some (.slice A xss.length c) := by have := Ko.out.cell 1; simpa using this
        have g1 : wo.cell? ⟨W5.heap.size, 1, none⟩ = some vc := by have := hB3.out.cell 1; simpa using this
        cases q with
        | zero =>
          have e0 : ((0 : Nat) : Int) - 1 = -1 := by omega
          rw [e0]
          have hO0 := Lib.hid (show OwnC wo W5.heap.size vc vs6 (xss.reverse.map List.reverse) by have := hown.out; simpa using this)
          clear hown
          go_upto_if 96 with fail
          go_cut [] from 93 to 112 (fun wx => ∃ (vc2 : Value) (vs7 : List Value), Hid (OwnC wx W5.heap.size vc2 vs7 (turned xss)) ∧ Hid (Blk wx W5.heap.size 54 #[.int .i64 n, vc2, .slice At ts.length ct]) ∧ Hid (Below W5.heap.size W5 wx))
          case first =>
            by_cases hlt : 0 < xss.length
            · have hd : decide ((xss.length : Int) > 0) = true := decide_eq_true (by omega)
              have hlz : 0 < (xss.length : Int) := by omega
              obtain ⟨ad, A1, c1, l, rfl, hcell', _, _, Hl, Hi5⟩ := (HX.out.below B6.out).get (k := 0) hlt
              have hcell5 : W5.cell? ad = some (.slice A1 l.length c1) := by simpa [Addr.add] using hcell'
              have hcell : wo.cell? ad = some (.slice A1 l.length c1) := cell_kept hb.out hcell5
              have Hi := Lib.hid (IntsAt.below Hi5.out hb.out)
              have HC5 := Lib.hid hcell5
              clear hcell' hcell5 Hi5
              have hl1 : l.length ≤ 1048576 := HL.out l (List.mem_of_getElem? Hl.out)
              have hvl6 : vs6.length ≤ 1048576 := by have := hO0.out.2.1; simp at this; omega
              have hbA := Lib.hid (show ∀ o, Below wo.heap.size wo (wo.alloc o) from fun o => (Below.refl _ wo).alloc (Nat.le_refl _) o)
              have q1 : ∀ o, (wo.alloc o).cell? ⟨w.heap.size, 1, none⟩ = some (.slice (some ad) xss.length c) := fun o => cell_kept (hbA.out o) k1
              have q31 : ∀ o, (wo.alloc o).cell? ⟨W5.heap.size, 1, none⟩ = some vc := fun o => cell_kept (hbA.out o) g1
              have qc : ∀ o, (wo.alloc o).cell? ad = some (.slice A1 l.length c1) := fun o => cell_kept (hbA.out o) hcell
              have Own0 := Lib.hid (show (wo.alloc (.cells #[] 3)).ownsRow wo.heap.size 3 1 (.slice (some ⟨wo.heap.size, 0, none⟩) 0 0) 0 [] by
                have h := World.ownsRow_lit wo (e := 3) (size := 1) (base := wo.heap.size) #[] 0 (Nat.le_refl _) (by simp) (by simp)
                simpa using h)
              go_wp2_with fail
              have hS := Lib.hid (show ∀ w', Hid (Below wo.heap.size wo w') → w'.cell? ⟨w.heap.size, 1, none⟩ = some (.slice (some ad) xss.length c) ∧ w'.cell? ad = some (.slice A1 l.length c1) from fun w' h =>
                ⟨cell_kept h.out k1, cell_kept h.out hcell⟩)
              have hb0 := Lib.hid (Below.refl wo.heap.size wo)
              clear q1 qc
              have hml := ld98_eq
              rw [← hml]
              go_region_held3 (fun w' => w'.cell? ⟨w.heap.size, 1, none⟩ = some (.slice (some ad) xss.length c) ∧ w'.cell? ad = some (.slice A1 l.length c1))
                (first
                  | exact hS.out _ (by assumption)
                  | exact hS.out _ (Lib.hid (Below.drew (Hid.out (by assumption))))
                  | exact hS.out _ (Lib.hid (hbA.out _))
                  | exact hS.out _ (Lib.hid (hbA.out _).drew)
                  | exact hS.out _ (Lib.hid ((Hid.out hb4).alloc (Hid.out hb4).size _))
                  | exact ⟨p5, p5c⟩
                  | exact ⟨p6 _, p6c _⟩
                  | go_keep)
                (first
                  | (refine stepN (w0 := wo) wo.heap.size (by rfl) (.tmp 99) (.tmp 103) 25 3 (.int .i64 0) 8 (by rfl) Tryz.underlying25 info_int rfl (.slice (some ⟨wo.heap.size, 0, none⟩) 0 0) 0 [] (l.map (Value.int .i64)) A1 c1 (by rfl) (by rw [List.length_map]; rfl) (by simp [Value.oneCell']) Own0.out (by first | exact IntsAt.below Hi.out (hbA.out _) | exact IntsAt.below Hi.out (hbA.out _).drew) (by first | exact hbA.out _ | exact (hbA.out _).drew) (by simp) (by simp; omega) (by simp; omega) ?_
                     intro v3 w3 own3 hb3' _
                     have own3' : OwnI w3 wo.heap.size 3 v3 l := by unfold OwnI; simpa using own3
                     have Own3 := Lib.hid own3'
                     have hb3 := Lib.hid hb3'
                     have I3 := Lib.hid (IntsAt.below Hi.out hb3')
                     have s31 : w3.cell? ⟨W5.heap.size, 1, none⟩ = some vc := cell_kept hb3' g1
                     obtain ⟨A3, c3, rfl, _⟩ := ownI_form own3'
                     have Own3 := Lib.hid (show w3.ownsRow wo.heap.size 3 1 (.slice A3 l.length c3) l.length (l.map (Value.int .i64)) from own3')
                     clear own3 own3' hb3')
                  | (refine stepN (w0 := wo) wo.heap.size (by rfl) (.tmp 104) (.tmp 108) 25 3 (.int .i64 0) 8 (by rfl) Tryz.underlying25 info_int rfl (.slice A3 l.length c3) l.length (l.map (Value.int .i64)) (l.map (Value.int .i64)) A1 c1 (by rfl) (by rw [List.length_map]; rfl) (by simp [Value.oneCell']) Own3.out I3.out (by exact hb3.out) hb3.out.size (by simp; omega) (by simp; omega) ?_
                     intro v4 w4 own4 hb4' _
                     have own4' : OwnI w4 wo.heap.size 3 v4 (l ++ l) := by unfold OwnI; simpa using own4
                     have Own4 := Lib.hid (own4'.lower hb.out.size)
                     have C4 := Lib.hid (hO0.out.below hb4')
                     have B43 := Lib.hid (hB3.out.below hb4')
                     have Bx4 := Lib.hid (below_of hb.out hb.out.size hb4')
                     have hb4 := Lib.hid hb4'
                     have s41 : w4.cell? ⟨W5.heap.size, 1, none⟩ = some vc := cell_kept hb4' g1
                     have q42 : ∀ o, (w4.alloc o).cell? ⟨W5.heap.size, 1, none⟩ = some vc := fun o => cell_kept ((Below.refl _ w4).alloc (Nat.le_refl _) o) s41
                     obtain ⟨A4, c4, hv4, _⟩ := ownI_form own4'
                     rw [List.length_append] at hv4
                     subst hv4
                     clear own4 own4' hb4')
                  | (refine stepS (w0 := W5) (W := w4) W5.heap.size (by rfl) (.tmp 98) (.tmp 110) 29 25 (.slice none 0 0) 1 24 1 (by rfl) Tryz.underlying29 info_ints rfl (by decide) vc vs6.length vs6 [.slice A4 (l.length + l.length) c4] rfl (by rfl) (by rfl) (by simp [Value.oneCell']) C4.out.1 Bx4.out Bx4.out.size (by omega) (by omega) ?_
                     intro v5 w7 own5 hb5 hg5
                     have G1 := Lib.hid (show All2 (fun u l => OwnI w7 W5.heap.size 3 u l) (vs6 ++ [.slice A4 (l.length + l.length) c4]) (turned xss) by
                       rw [turned_first Hl.out]
                       exact (C4.out.2.imp fun _ _ _ _ h => own_grown_row h C4.out.1 (by decide) hg5).snoc (own_grown_row Own4.out C4.out.1 (by decide) hg5))
                     have D5 := Lib.hid (Blk.grown_row B43.out C4.out.1 (by decide) hg5)
                     have B57 := Lib.hid hb5
                     have s5 : w7.cell? ⟨W5.heap.size, 1, none⟩ = some vc := by have := D5.out.cell 1; simpa using this
                     have f5 : ∀ i, w7.frozen? ⟨W5.heap.size, i, none⟩ = false := fun i => D5.out.frozen i
                     have p5 : w7.cell? ⟨w.heap.size, 1, none⟩ = some (.slice (some ad) xss.length c) := by have := (K6.out.below hb5).cell 1; simpa using this
                     have p5c : w7.cell? ad = some (.slice A1 l.length c1) := cell_kept hb5 HC5.out
                     have p6 : ∀ u, (w7.setCell ⟨W5.heap.size, 1, none⟩ u).cell? ⟨w.heap.size, 1, none⟩ = some (.slice (some ad) xss.length c) := fun u => by have := (K6.out.below (hb5.setCell (p := ⟨W5.heap.size, 1, none⟩) (by simp) u)).cell 1; simpa using this
                     have p6c : ∀ u, (w7.setCell ⟨W5.heap.size, 1, none⟩ u).cell? ad = some (.slice A1 l.length c1) := fun u => cell_kept (hb5.setCell (p := ⟨W5.heap.size, 1, none⟩) (by simp) u) HC5.out
                     obtain ⟨g5, c5, rfl, _, _⟩ := own5.form (by simp)
                     have O5 := Lib.hid own5
                     clear own5 hb5 hg5))
              all_goals
                go_wp2_with fail
                go_meet
                have D6 := Lib.hid (D5.out.set_ 1 (.slice (some ⟨g5, 0, none⟩) (vs6.length + 1) c5))
                refine ⟨.slice (some ⟨g5, 0, none⟩) (vs6.length + 1) c5, vs6 ++ [.slice A4 (l.length + l.length) c4], ?_, ?_, ?_⟩
                · refine ⟨?_, G1.out.imp fun _ _ _ _ h => own_setCell_blk h D5.out (by decide) 1 _⟩
                  rw [List.length_append]
                  exact own_setCell_blk O5.out D5.out (by decide) 1 _
                · have h := D6.out; simpa [Hid] using h
                · exact B57.out.setCell (p := ⟨W5.heap.size, 1, none⟩) (by simp) _
            · have hd : decide ((xss.length : Int) > 0) = false := decide_eq_false (by omega)
              have hlz : ¬ 0 < (xss.length : Int) := by omega
              have hnil : xss = [] := List.eq_nil_of_length_eq_zero (by omega)
              have hO1 := Lib.hid (show OwnC wo W5.heap.size vc vs6 (turned xss) by have h := hO0.out; rw [hnil] at h ⊢; exact h)
              clear hnil
              go_wp2_with fail
              go_meet
              exact ⟨vc, vs6, hO1, hB3, hb⟩
          case rest =>
            obtain ⟨vc2, vs7, hO, hD, hbx⟩ := hcut
            obtain ⟨Ad, cd, rfl, hcd, hcdm, hRd⟩ := hO.out.rows
            have Hok3 := Lib.hid (show okCnf ⟨n, turned xss, ts⟩ = true by have h := Hok.out; simp only [okCnf, Bool.and_eq_true] at h ⊢; exact ⟨h.1, okRows_turned h.2⟩)
            have Bx := Lib.hid (below_of B6.out B6.out.size hbx.out)
            have htu := turned_length xss
            have cT := Lib.hid (tidy_calls n Ad cd (turned xss) At ct ts wc hRd (IntsAt.below HT.out Bx.out) (by omega) (by omega) (fun l hl => by have := turned_lists HL.out l hl; omega) hcd (HTab.out.below Bx.out))
            rw [Hok3.out, tidyR_turned] at cT
            simp only [if_true] at cT
            have d0 : wc.cell? ⟨W5.heap.size, 0, none⟩ = some (.int .i64 n) := by have := hD.out.cell 0; simpa using this
            have d1 : wc.cell? ⟨W5.heap.size, 1, none⟩ = some (.slice Ad (turned xss).length cd) := by have := hD.out.cell 1; simpa using this
            have d2 : wc.cell? ⟨W5.heap.size, 2, none⟩ = some (.slice At ts.length ct) := by have := hD.out.cell 2; simpa using this
            have KTx := Lib.hid (KT6.out.below hbx.out)
            have RTx := Lib.hid (RT6.out.below hbx.out)
            have ITx := Lib.hid (IntsAt.below IT6.out hbx.out)
            have KUx := Lib.hid (KU6.out.below hbx.out)
            have RUx := Lib.hid (RU6.out.below hbx.out)
            have IUx := Lib.hid (IntsAt.below IU6.out hbx.out)
            clear hRd
            go_wp2_with fail
            refine cT.out.mono ?_
            rintro e w8 ⟨vc8, vt8, vs8, rfl, hOC8, hOT8, _, _, hb8⟩
            obtain ⟨A8, c8, rfl, _, _, hR8⟩ := hOC8.rows
            obtain ⟨At8, ct8, rfl, hIt8⟩ := ownI_form hOT8
            have HR8 := Lib.hid hR8
            have HI8 := Lib.hid hIt8
            have B8 := Lib.hid (below_of Bx.out Bx.out.size hb8)
            have KT8 := Lib.hid (KTx.out.below hb8)
            have RT8 := Lib.hid (RTx.out.below hb8)
            have IT8 := Lib.hid (IntsAt.below ITx.out hb8)
            have KU8 := Lib.hid (KUx.out.below hb8)
            have RU8 := Lib.hid (RUx.out.below hb8)
            have IU8 := Lib.hid (IntsAt.below IUx.out hb8)
            clear d0 d1 d2 hb8 cT hR8 hIt8 hOC8 hOT8
            obtain ⟨W8, hW8⟩ : ∃ W8, W8 = w8.alloc (.cells #[.int .i64 n, .slice A8 (tidyR xss).length c8, .slice At8 ts.length ct8] 54) := ⟨_, rfl⟩
            have hz8 := (Below.refl w8.heap.size w8).alloc (Nat.le_refl _) (.cells #[.int .i64 n, .slice A8 (tidyR xss).length c8, .slice At8 ts.length ct8] 54)
            have KV9 := Lib.hid (Blk.new w8 54 #[.int .i64 n, .slice A8 (tidyR xss).length c8, .slice At8 ts.length ct8])
            have B9 := Lib.hid (B8.out.alloc B8.out.size (.cells #[.int .i64 n, .slice A8 (tidyR xss).length c8, .slice At8 ts.length ct8] 54))
            have KT9 := Lib.hid (KT8.out.below hz8)
            have RT9 := Lib.hid (RT8.out.below hz8)
            have IT9 := Lib.hid (IntsAt.below IT8.out hz8)
            have KU9 := Lib.hid (KU8.out.below hz8)
            have RU9 := Lib.hid (RU8.out.below hz8)
            have IU9 := Lib.hid (IntsAt.below IU8.out hz8)
            have RV9 := Lib.hid (HR8.out.below hz8)
            have IV9 := Lib.hid (IntsAt.below HI8.out hz8)
            rw [← hW8] at KV9 B9 KT9 RT9 IT9 KU9 RU9 IU9 RV9 IV9
            clear hz8
            have cS := Lib.hid (same_calls n Ac cc (tidyR xss) At2 ct2 ts n Au cu (tidyR xss) Atu ctu ts W8 RT9.out IT9.out RU9.out IU9.out (by omega) (by omega) (by omega) (by omega))
            rw [show decide (n = n ∧ tidyR xss = tidyR xss ∧ ts = ts) = true by simp] at cS
            have t0 : W8.cell? ⟨w2.heap.size, 0, none⟩ = some (.int .i64 n) := by have := KT9.out.cell 0; simpa using this
            have t1 : W8.cell? ⟨w2.heap.size, 1, none⟩ = some (.slice Ac (tidyR xss).length cc) := by have := KT9.out.cell 1; simpa using this
            have t2 : W8.cell? ⟨w2.heap.size, 2, none⟩ = some (.slice At2 ts.length ct2) := by have := KT9.out.cell 2; simpa using this
            have s0 : W8.cell? ⟨w5.heap.size, 0, none⟩ = some (.int .i64 n) := by have := KU9.out.cell 0; simpa using this
            have s1 : W8.cell? ⟨w5.heap.size, 1, none⟩ = some (.slice Au (tidyR xss).length cu) := by have := KU9.out.cell 1; simpa using this
            have s2 : W8.cell? ⟨w5.heap.size, 2, none⟩ = some (.slice Atu ts.length ctu) := by have := KU9.out.cell 2; simpa using this
            go_upto_region 22 with fail
            rw [← hW8]
            clear hW8
            go_wp2_with fail
            refine cS.out.mono ?_
            rintro e w9 ⟨rfl, hb9⟩
            have cS2 := Lib.hid (same_calls n Ac cc (tidyR xss) At2 ct2 ts n A8 c8 (tidyR xss) At8 ct8 ts w9 (RT9.out.below hb9) (IntsAt.below IT9.out hb9) (RV9.out.below hb9) (IntsAt.below IV9.out hb9) (by omega) (by omega) (by omega) (by omega))
            rw [show decide (n = n ∧ tidyR xss = tidyR xss ∧ ts = ts) = true by simp] at cS2
            have y0 : w9.cell? ⟨w2.heap.size, 0, none⟩ = some (.int .i64 n) := cell_kept hb9 t0
            have y1 : w9.cell? ⟨w2.heap.size, 1, none⟩ = some (.slice Ac (tidyR xss).length cc) := cell_kept hb9 t1
            have y2 : w9.cell? ⟨w2.heap.size, 2, none⟩ = some (.slice At2 ts.length ct2) := cell_kept hb9 t2
            have z0 : w9.cell? ⟨w8.heap.size, 0, none⟩ = some (.int .i64 n) := by have := (KV9.out.below hb9).cell 0; simpa using this
            have z1 : w9.cell? ⟨w8.heap.size, 1, none⟩ = some (.slice A8 (tidyR xss).length c8) := by have := (KV9.out.below hb9).cell 1; simpa using this
            have z2 : w9.cell? ⟨w8.heap.size, 2, none⟩ = some (.slice At8 ts.length ct8) := by have := (KV9.out.below hb9).cell 2; simpa using this
            have B10 := Lib.hid (below_of B9.out B9.out.size hb9)
            clear t0 t1 t2 s0 s1 s2 hb9
            go_wp2_with fail
            refine cS2.out.mono ?_
            rintro e w10 ⟨rfl, hb10⟩
            have B11 := Lib.hid (below_of B10.out B10.out.size hb10)
            clear hb10
            go_wp2_with fail
            go_ret
            exact ⟨rfl, B11.out⟩
        | succ p =>
          have e0 : ((p + 1 : Nat) : Int) - 1 = (p : Int) := by omega
          rw [e0]
          have hp0 : 0 ≤ (p : Int) := by omega
          have hlt : p < xss.length := by omega
          have hltz : (p : Int) < xss.length := by omega
          obtain ⟨ad, A1, c1, l, rfl, hcell, h1, h2, Hl, Hi⟩ := Xo.out.get hlt
          have hl1 : l.length ≤ 1048576 := HL.out l (List.mem_of_getElem? Hl.out)
          have hlz0 : 0 ≤ (l.length : Int) := by omega
          go_wp2_with fail
          go_loopw [11, 12] (fun v j wr => ∃ (r : Nat) (vl : Value), r ≤ l.length ∧ vl = v ∧ j = .int .i64 ((r : Int) - 1) ∧ Hid (OwnI wr wo.heap.size 3 vl (l.drop r).reverse) ∧ Hid (Below wo.heap.size wo wr)) (fun _ j _ => (intOf j + 1).toNat)
          case atStart => exact ⟨l.length, _, Nat.le_refl _, rfl, rfl, by simpa [Hid] using OwnI.nil wo wo.heap.size 3, Below.refl _ _⟩
          case round =>
            obtain ⟨r, vl, hr, rfl, rfl, hv, hb2⟩ := hrel
            obtain ⟨wi, rfl⟩ : ∃ wi : World, wi = wr := ⟨_, rfl⟩
            have ki1 : wi.cell? ⟨w.heap.size, 1, none⟩ = some (.slice (some ad) xss.length c) := cell_kept hb2.out k1
            have kic : wi.cell? (ad.add p) = some (.slice A1 l.length c1) := cell_kept hb2.out hcell
            have Hii := Lib.hid (IntsAt.below Hi.out hb2.out)
            have Bi := Lib.hid (below_of hb.out hb.out.size hb2.out)
            clear k1 hcell
            cases r with
            | zero =>
              have e1 : ((0 : Nat) : Int) - 1 = -1 := by omega
              rw [e1]
              have hv' : OwnI wi wo.heap.size 3 vl l.reverse := by have := hv.out; simpa using this
              obtain ⟨A3, c3, hvf, _⟩ := ownI_form hv'
              rw [List.length_reverse] at hvf
              subst hvf
              have Hv := Lib.hid (hv'.lower hb.out.size)
              have Oi := Lib.hid (hown.out.below hb2.out)
              have Di := Lib.hid (hB3.out.below hb2.out)
              have gi1 : wi.cell? ⟨W5.heap.size, 1, none⟩ = some vc := cell_kept hb2.out g1
              have hvl6 : vs6.length ≤ 1048576 := by have := hown.out.2.1; simp at this; omega
              clear g1 hv'
              go_wp2_with ((
                at_builtin
                go_loud (refine app1 (w0 := W5) W5.heap.size rfl (.tmp 88) (.tmp 90) 29 25 (.slice none 0 0) 24 rfl Tryz.underlying29 info_ints rfl vc vs6.length vs6 (.slice A3 l.length c3) rfl ?hx rfl Oi.out.1 Bi.out Bi.out.size (by omega) (by omega) ?_)
                case hx => rfl
                intro v5 w7 own5 hb5 hg5 _
                have D5 := Lib.hid (Blk.grown_row Di.out Oi.out.1 (by decide) hg5)
                have O5 := Lib.hid own5
                have B57 := Lib.hid hb5
                have C5 := Lib.hid (rows_turned hlt Hl.out (Oi.out.2.imp fun _ _ _ _ h => own_grown_row h Oi.out.1 (by decide) hg5) (own_grown_row Hv.out Oi.out.1 (by decide) hg5))
                have s5 : w7.cell? ⟨W5.heap.size, 1, none⟩ = some vc := by have := D5.out.cell 1; simpa using this
                have f5 : ∀ i, w7.frozen? ⟨W5.heap.size, i, none⟩ = false := fun i => D5.out.frozen i
                obtain ⟨g5, c5, rfl, _, _⟩ := own5.form (by simp)
                clear own5 hb5 hg5))
              have D6 := Lib.hid (D5.out.set_ 1 (.slice (some ⟨g5, 0, none⟩) (vs6.length + 1) c5))
              go_wp2_with fail
              refine ⟨⟨p, .slice (some ⟨g5, 0, none⟩) (vs6.length + 1) c5, vs6 ++ [.slice A3 l.length c3], by omega, rfl, ?_, ?_, ?_⟩, by simp [intOf]⟩
              · refine ⟨?_, C5.out.imp fun _ _ _ _ h => own_setCell_blk h D5.out (by decide) 1 _⟩
                rw [List.length_append]
                exact own_setCell_blk O5.out D5.out (by decide) 1 _
              · have h := D6.out; simpa [Hid] using h
              · exact B57.out.setCell (p := ⟨W5.heap.size, 1, none⟩) (by simp) _
            | succ r =>
              have e1 : ((r + 1 : Nat) : Int) - 1 = (r : Int) := by omega
              rw [e1]
              have hr0 : 0 ≤ (r : Int) := by omega
              have hrl : r < l.length := by omega
              have hrz : (r : Int) < l.length := by omega
              obtain ⟨ad1, x, rfl, hx1, Hx1⟩ := IntsAt.get Hii.out hrl
              have hdl : (l.drop (r + 1)).reverse.length ≤ 1048576 := by simp; omega
              go_wp2_with ((at_builtin; refine app1 (w0 := wo) wo.heap.size rfl (.tmp 76) (.tmp 85) 25 3 (.int .i64 0) 8 rfl Tryz.underlying25 info_int rfl vl _ ((l.drop (r + 1)).reverse.map (Value.int .i64)) (.int .i64 x) rfl rfl rfl hv.out hb2.out hb2.out.size (by omega) (by omega) ?_; intro v5 w7 own5 hb5 hg5 _; have O5 := Lib.hid own5; have B57 := Lib.hid hb5; clear own5 hb5 hg5))
              go_wp2_with fail
              refine ⟨⟨r, v5, by omega, rfl, rfl, ?_, B57.out⟩, by simp [intOf]⟩
              rw [List.drop_eq_getElem_cons hrl, List.reverse_cons]
              have e := Hx1.out
              rw [List.getElem?_eq_getElem hrl] at e
              injection e with e
              rw [e]
              show OwnI _ _ _ _ _
              unfold OwnI
              have := O5.out
              simpa using this

end Go.Proofs.YtnadmnhkfdkafaaGreatDoor
