/- Contract: cnf.Show. -/
import Derived.Test.YtnadmnhkfdkafaaDoorLine
import Derived.Test.YtnadmnhkfdkafaaDoorReadE
import Derived.Test.YtnadmnhkfdkafaaDoorBlk
import Derived.Deep.RegionWith
import Derived.Deep.CutRange
namespace Go.Proofs.YtnadmnhkfdkafaaDoor
open Go.RowKit
set_option linter.unusedVariables false
set_option linter.unusedSimpArgs false

theorem Below.lower_ {B B' : Nat} {w w' : World} (h : Below B w w') (hB : B' ≤ B) : Below B' w w' := ⟨h.os, h.tape, h.output, h.size, fun k hk => h.block k (Nat.lt_of_lt_of_le hk hB)⟩
theorem Blk.belowB {w w' : World} {B g t : Nat} {cs : Array Value} (h : Blk w g t cs) (hb : Below B w w') (hg : g < B) : Blk w' g t cs := (hb.block g hg).trans h
theorem IsB.lt {w : World} {B b : Nat} {l : List UInt8} (h : IsB w B b l) : b < w.heap.size := h.elim (fun h => h.lt) (fun h => h.lt)

def headB (n m : Int) : List UInt8 := [112, 32, 99, 110, 102, 32] ++ Lib.itoa n ++ [32] ++ Lib.itoa m ++ [10]
def rowsB (xss : List (List Int)) : List UInt8 := xss.flatMap fun l => lineB l ++ [48, 10]
def tailB (ts : List Int) : List UInt8 := if ts.length = 0 then [] else [97, 32] ++ (lineB ts ++ [48, 10])
def showB (n : Int) (xss : List (List Int)) (ts : List Int) : List UInt8 := headB n xss.length ++ rowsB xss ++ tailB ts
theorem rowsB_take {xss : List (List Int)} {k : Nat} {l : List Int} (h : xss[k]? = some l) : rowsB (xss.take (k + 1)) = rowsB (xss.take k) ++ (lineB l ++ [48, 10]) := by
  unfold rowsB
  rw [List.take_add_one, h, List.flatMap_append]
  simp
theorem rowsB_length : ∀ (xss : List (List Int)), (∀ l ∈ xss, l.length ≤ 1048576 ∧ ∀ x ∈ l, -1000000 ≤ x ∧ x ≤ 1000000) → (rowsB xss).length ≤ 23068674 * xss.length
  | [], _ => by simp [rowsB]
  | l :: xss, h => by
    have h1 := rowsB_length xss (fun y hy => h y (List.mem_cons_of_mem _ hy))
    obtain ⟨h2, h3⟩ := h l List.mem_cons_self
    have h4 := lineB_length l h3
    unfold rowsB at *
    rw [List.flatMap_cons]
    simp only [List.length_append, List.length_cons, List.length_nil] at *
    omega
theorem headB_length (n m : Int) (h0 : -1000000 ≤ n) (h1 : n ≤ 1000000) (h2 : 0 ≤ m) (h3 : m ≤ 9223372036854775807) : (headB n m).length ≤ 60 := by
  have h4 := Lib.itoa_length_le n (by omega) (by omega)
  have h5 := Lib.itoa_length_le m (by omega) (by omega)
  unfold headB; simp only [List.length_append, List.length_cons, List.length_nil]; omega
theorem tailB_length (ts : List Int) (hl : ts.length ≤ 1048576) (h : ∀ x ∈ ts, -1000000 ≤ x ∧ x ≤ 1000000) : (tailB ts).length ≤ 23068676 := by
  have := lineB_length ts h
  unfold tailB; split <;> simp only [List.length_append, List.length_cons, List.length_nil] <;> omega

theorem okCnf_parts {n : Int} {xss : List (List Int)} {ts : List Int} (h : okCnf ⟨n, xss, ts⟩ = true) :
    (0 ≤ n ∧ n ≤ 1000000) ∧ (∀ l ∈ xss, ∀ x ∈ l, -1000000 ≤ x ∧ x ≤ 1000000) ∧ ∀ x ∈ ts, -1000000 ≤ x ∧ x ≤ 1000000 := by
  simp only [okCnf, Bool.and_eq_true, okVars, decide_eq_true_eq] at h
  obtain ⟨⟨hv, ht⟩, hr⟩ := h
  refine ⟨hv, ?_, ?_⟩
  · simp only [okRows, List.all_eq_true, okLit, decide_eq_true_eq] at hr
    intro l hl x hx
    have := hr l hl x hx
    simp at this
    omega
  · simp only [List.all_eq_true, okLit, decide_eq_true_eq] at ht
    intro x hx
    have := ht x hx
    simp at this
    omega

set_option maxHeartbeats 4000000 in
set_option maxRecDepth 100000 in
theorem show_calls (n : Int) (A : Option Addr) (c : Nat) (xss : List (List Int)) (At : Option Addr) (ct : Nat) (ts : List Int) (w : World)
    (hx : RowsAt w A xss) (ht : IntsAt w At ts) (hl : xss.length ≤ 1048576) (htl : ts.length ≤ 1048576) (hxl : ∀ l ∈ xss, l.length ≤ 1048576) (hc : xss.length ≤ c) (htab : Tab w) :
    Calls Tryd.prog 12 #[.agg #[.int .i64 n, .slice A xss.length c, .slice At ts.length ct]] w fun e w' =>
      e = .returned (.tuple #[.string (if okCnf ⟨n, xss, ts⟩ then textOf (showB n xss ts) else textOf []), .int .i64 (if okCnf ⟨n, xss, ts⟩ then 0 else 62)]) ∧ Below w.heap.size w w' := by
  have hbW := (Below.refl w.heap.size w).alloc (Nat.le_refl _) (.cells #[.int .i64 n, .slice A xss.length c, .slice At ts.length ct] 25)
  have hB1 := Blk.new w 25 #[.int .i64 n, .slice A xss.length c, .slice At ts.length ct]
  have ct1 := Lib.hid (check_calls n A c xss At ct ts _ (hx.below hbW) (ht.below hbW) (by omega) (by omega) hc)
  generalize hok : okCnf ⟨n, xss, ts⟩ = ok at ct1 ⊢
  have HX0 := Lib.hid (hx.below hbW)
  have HXw := Lib.hid hx
  have HTw := Lib.hid ht
  have HTabw := Lib.hid htab
  have HT := Lib.hid (ht.below hbW)
  have HTab := Lib.hid (htab.below hbW)
  have HBW := Lib.hid hbW
  have HB1 := Lib.hid hB1
  have HL := Lib.hid hxl
  clear hx ht hbW hB1 hxl htab
  have Hok := Lib.hid hok
  clear hok
  cases ok
  case false =>
    go_enter Tryd.func12, Tryd.ntmps12
    go_wp2_with fail
    refine ct1.out.mono ?_
    rintro e w1 ⟨rfl, hb1⟩
    have Hb1 := Lib.hid (below_of HBW.out HBW.out.size hb1)
    clear hb1
    go_wp2_with fail
    go_ret2
    exact ⟨rfl, Hb1.out⟩
  case true =>
    obtain ⟨⟨hv0, hv1⟩, hbd, htbd⟩ := okCnf_parts Hok.out
    have HBD := Lib.hid hbd
    have HTD := Lib.hid htbd
    clear hbd htbd Hok
    go_enter Tryd.func12, Tryd.ntmps12
    go_wp2_with fail
    refine ct1.out.mono ?_
    rintro e w1 ⟨rfl, hb1⟩
    have Hb1 := Lib.hid (below_of HBW.out HBW.out.size hb1)
    have HB1' := Lib.hid (HB1.out.below hb1)
    have HX1 := Lib.hid (HX0.out.below hb1)
    have HT1 := Lib.hid (HT.out.below hb1)
    have HTab1 := Lib.hid (HTab.out.below hb1)
    have HB1lt := HB1'.out.lt
    have HB1lt : w.heap.size < w1.heap.size := HB1lt
    clear hb1 ct1 HX0 HT HTab HB1 HBW
    go_wp2_with fail
    obtain ⟨W, hW⟩ : ∃ W, W = w1.alloc (.cells #[.pointer none, .slice none 0 0] 73) := ⟨_, rfl⟩
    have hbW1 : Below w1.heap.size w1 W := by rw [hW]; exact (Below.refl _ w1).alloc (Nat.le_refl _) _
    have Hbu := Lib.hid (show IsB W w1.heap.size w1.heap.size [] by rw [hW]; exact IsB.fresh w1)
    rw [← hW]
    have HbW := Lib.hid (below_of Hb1.out Hb1.out.size hbW1)
    have HB1W := Lib.hid (HB1'.out.below hbW1)
    have HX2 := Lib.hid (HX1.out.below hbW1)
    have HT2 := Lib.hid (HT1.out.below hbW1)
    have HTab2 := Lib.hid (HTab1.out.below hbW1)
    have hsz1 : w1.heap.size ≤ W.heap.size := hbW1.size
    have hc0 : W.cell? ⟨w.heap.size, 0, none⟩ = some (.int .i64 n) := by have := HB1W.out.cell 0; simpa using this
    have hc1 : W.cell? ⟨w.heap.size, 1, none⟩ = some (.slice A xss.length c) := by have := HB1W.out.cell 1; simpa using this
    clear hbW1 hW HB1' HX1 HT1 HTab1 Hb1
    have hn0 : -9223372036854775808 ≤ n := by omega
    have hn1 : n ≤ 9223372036854775807 := by omega
    have hm0 : -9223372036854775808 ≤ (xss.length : Int) := by omega
    have hm1 : (xss.length : Int) ≤ 9223372036854775807 := by omega
    have hhl : ([] : List UInt8).length + (headB n xss.length).length ≤ 140737488355328 := by have := headB_length n xss.length (by omega) (by omega) (by omega) (by omega); simp; omega
    have hi1 := Lib.itoa_length_le n hn0 hn1
    have hi2 := Lib.itoa_length_le xss.length hm0 hm1
    have hs1 : ¬ 9223372036854775807 < 6 + (textOf (Lib.itoa n)).size := by simp only [textOf_size]; omega
    have hs2 : ¬ 9223372036854775807 < 6 + (textOf (Lib.itoa n)).size + 1 := by simp only [textOf_size]; omega
    have hs3 : ¬ 9223372036854775807 < 6 + (textOf (Lib.itoa n)).size + 1 + (textOf (Lib.itoa xss.length)).size := by simp only [textOf_size]; omega
    have hs4 : ¬ 9223372036854775807 < 6 + (textOf (Lib.itoa n)).size + 1 + (textOf (Lib.itoa xss.length)).size + 1 := by simp only [textOf_size]; omega
    have hh := Lib.hid (show ⟨#[112, 32, 99, 110, 102, 32]⟩ ++ textOf (Lib.itoa n) ++ ⟨#[32]⟩ ++ textOf (Lib.itoa xss.length) ++ ⟨#[10]⟩ = textOf (headB n xss.length) by
      unfold headB; simp only [← textOf_append]; rfl)
    clear hi1 hi2
    have hlt0 : w.heap.size < w1.heap.size := HB1lt
    go_cut [] from 10 to 21 (fun wx => Hid (IsB wx w1.heap.size w1.heap.size (headB n xss.length)) ∧ Hid (Blk wx w.heap.size 25 #[.int .i64 n, .slice A xss.length c, .slice At ts.length ct]) ∧ Hid (Below w.heap.size w wx))
    case first =>
     go_region_with (first
      | (go_at_call_of 37 (Value.int IntKind.i64 n)
         refine (itoa_calls n hn0 hn1 _ ?_).mono ?_
         exact HTab2.out.below (by first | exact Below.refl _ _ | exact (Below.refl _ _).drew)
         rintro e w2 ⟨rfl, hb2⟩
         have Hb2 := Lib.hid (show Below W.heap.size W w2 by first | exact hb2 | exact (Below.refl _ W).drew.trans hb2)
         have hc2 : w2.cell? ⟨w.heap.size, 1, none⟩ = some (.slice A xss.length c) := cell_kept Hb2.out hc1
         clear hb2)
      | (go_at_call_of 37 (Value.int IntKind.i64 (xss.length : Int))
         refine (itoa_calls xss.length hm0 hm1 _ ?_).mono ?_
         exact HTab2.out.below Hb2.out
         rintro e w3 ⟨rfl, hb3⟩
         have Hb3 := Lib.hid (below_of Hb2.out Hb2.out.size hb3)
         clear hb3)
      | (go_at_call 36
         rw [hh.out]
         refine (writeS w1.heap.size w1.heap.size [] _ _ (IsB.below Hbu.out Hb3.out) hhl (Nat.le_trans hsz1 Hb3.out.size)).mono ?_
         rintro e w4 ⟨rfl, hbu4, hb4⟩
         have Hbu4 := Lib.hid hbu4
         have Hb4 := Lib.hid hb4
         clear hbu4 hb4))
     all_goals (go_wp2_with fail; go_meet; exact ⟨Hbu4.out, (HB1W.out.below Hb3.out).belowB Hb4.out hlt0, (below_of HbW.out HbW.out.size Hb3.out).trans (Below.lower_ Hb4.out (Nat.le_of_lt hlt0))⟩)
    case rest =>
    obtain ⟨Hbu, HB, Hb⟩ := hcut
    clear hs1 hs2 hs3 hs4 hh hhl hn0 hn1 hm0 hm1 hc0 hc1 hsz1 HTab2 HT2 HX2 HB1W HbW
    obtain ⟨wo, rfl⟩ : ∃ wo : World, wo = wc := ⟨_, rfl⟩
    have hc1 : wo.cell? ⟨w.heap.size, 1, none⟩ = some (.slice A xss.length c) := by have := HB.out.cell 1; simpa using this
    go_wp2_with fail
    go_loopw [25] (fun i wr => ∃ k : Nat, k ≤ xss.length ∧ i = .int .i64 k ∧ Hid (IsB wr w1.heap.size w1.heap.size (headB n xss.length ++ rowsB (xss.take k))) ∧ Hid (Blk wr w.heap.size 25 #[.int .i64 n, .slice A xss.length c, .slice At ts.length ct]) ∧ Hid (Below w.heap.size w wr)) (fun i _ => (xss.length - intOf i).toNat)
    case atStart => exact ⟨0, Nat.zero_le _, rfl, by simpa [rowsB, Hid] using Hbu.out, HB.out, Hb.out⟩
    case round =>
      obtain ⟨k, hk, rfl, hbu, hB, hb⟩ := hrel
      clear Hbu HB Hb hc1
      obtain ⟨wq, rfl⟩ : ∃ wq : World, wq = wr := ⟨_, rfl⟩
      have hln : (headB n xss.length ++ rowsB (xss.take k)).length ≤ 60 + 23068674 * k := by
        have h := rowsB_length (xss.take k) (fun l hl => ⟨HL.out l (List.mem_of_mem_take hl), HBD.out l (List.mem_of_mem_take hl)⟩)
        have h2 := headB_length n xss.length (by omega) (by omega) (by omega) (by omega)
        simp only [List.length_append, List.length_take] at *; omega
      by_cases hlt : k < xss.length
      · obtain ⟨ad, A1, c1, l, rfl, hcell, h1, h2, Hl, Hi⟩ := (HXw.out.below hb.out).get hlt
        have Hst := Lib.hid (rowsB_take Hl.out)
        have hl1 : l.length ≤ 1048576 := HL.out l (List.mem_of_getElem? Hl.out)
        have Hbd := Lib.hid (HBD.out l (List.mem_of_getElem? Hl.out))
        have hll : (lineB l ++ [48, 10]).length ≤ 23068674 := by have := lineB_length l Hbd.out; simp only [List.length_append, List.length_cons, List.length_nil]; omega
        have hlz : (k : Int) < xss.length := by omega
        go_wp2_with fail
        refine (line_calls A1 c1 l _ Hi.out hl1 Hbd.out (HTabw.out.below hb.out)).mono ?_
        rintro e w2 ⟨rfl, hb2⟩
        have Hbu2 := Lib.hid (IsB.below hbu.out hb2)
        have HB2 := Lib.hid (hB.out.below hb2)
        have Hb2 := Lib.hid (below_of hb.out hb.out.size hb2)
        clear hb2
        go_wp2_with fail
        refine (writeS w1.heap.size w1.heap.size _ (lineB l ++ [48, 10]) _ Hbu2.out (by omega) (Nat.le_of_lt Hbu2.out.lt)).mono ?_
        rintro e w3 ⟨rfl, hbu3, hb3⟩
        have Hbu3 := Lib.hid hbu3
        have HB3 := Lib.hid (HB2.out.belowB hb3 hlt0)
        have Hb3 := Lib.hid (Hb2.out.trans (Below.lower_ hb3 (Nat.le_of_lt hlt0)))
        clear hbu3 hb3
        go_wp2_with fail
        exact ⟨⟨k + 1, by omega, by go_num, by rw [Hst.out, ← List.append_assoc]; exact Hbu3.out, HB3.out, Hb3.out⟩, by simp [intOf]; omega⟩
      · have Hkk := Lib.hid (show xss.take k = xss from List.take_of_length_le (by omega))
        have hc2 : wq.cell? ⟨w.heap.size, 2, none⟩ = some (.slice At ts.length ct) := by have := hB.out.cell 2; simpa using this
        obtain ⟨l0, hl0⟩ : ∃ l0, l0 = headB n xss.length ++ rowsB (xss.take k) := ⟨_, rfl⟩
        rw [← hl0] at hbu hln
        have Hl0 := Lib.hid hl0
        clear hl0
        by_cases hts : ts.length = 0
        · have hg : decide ((0 : Int) < (ts.length : Int)) = false := decide_eq_false (by omega)
          have hg2 : decide (0 < ts.length) = false := decide_eq_false (by omega)
          have Htl := Lib.hid (show showB n xss ts = l0 by rw [Hl0.out]; unfold showB tailB; rw [if_pos hts, Hkk.out]; simp)
          clear hts
          go_wp2_with fail
          refine (string_calls w1.heap.size w1.heap.size _ _ hbu.out (Nat.le_of_lt hbu.out.lt)).mono ?_
          rintro e w2 ⟨rfl, hb2⟩
          have Hb2 := Lib.hid (hb.out.trans (Below.lower_ hb2 (Nat.le_of_lt hlt0)))
          clear hb2
          go_wp2_with fail
          go_ret2
          exact ⟨by rw [Htl.out]; rfl, Hb2.out⟩
        · have hg : decide ((0 : Int) < (ts.length : Int)) = true := decide_eq_true (by omega)
          have hg2 : decide (0 < ts.length) = true := decide_eq_true (by omega)
          have Htl := Lib.hid (show showB n xss ts = l0 ++ ([97, 32] ++ (lineB ts ++ [48, 10])) by rw [Hl0.out]; unfold showB tailB; rw [if_neg hts, Hkk.out])
          have hll : (lineB ts).length ≤ 22 * ts.length := lineB_length ts HTD.out
          have hs1 : ¬ 9223372036854775807 < 2 + (lineT ts).size := by show ¬ _ < 2 + (lineB ts ++ [48, 10]).length; simp only [List.length_append, List.length_cons, List.length_nil]; omega
          have Hh := Lib.hid (show ⟨#[97, 32]⟩ ++ lineT ts = textOf ([97, 32] ++ (lineB ts ++ [48, 10])) by rw [← textOf_append]; rfl)
          have hlt1 : ([97, 32] ++ (lineB ts ++ [48, 10])).length ≤ 22 * ts.length + 4 := by simp only [List.length_append, List.length_cons, List.length_nil]; omega
          obtain ⟨l1, hl1⟩ : ∃ l1, l1 = [97, 32] ++ (lineB ts ++ [48, 10]) := ⟨_, rfl⟩
          rw [← hl1] at Htl Hh hlt1
          obtain ⟨l2, hl2⟩ : ∃ l2, l2 = l0 ++ l1 := ⟨_, rfl⟩
          rw [← hl2] at Htl
          have Hl2 := Lib.hid hl2
          clear hts hl1 hl2
          go_wp2_with fail
          refine (line_calls At ct ts _ (HTw.out.below hb.out) htl HTD.out (HTabw.out.below hb.out)).mono ?_
          rintro e w2 ⟨rfl, hb2⟩
          have Hbu2 := Lib.hid (IsB.below hbu.out hb2)
          have Hb2 := Lib.hid (below_of hb.out hb.out.size hb2)
          clear hb2
          go_wp2_with fail
          rw [Hh.out]
          refine (writeS w1.heap.size w1.heap.size _ l1 _ Hbu2.out (by omega) (Nat.le_of_lt Hbu2.out.lt)).mono ?_
          rintro e w3 ⟨rfl, hbu3, hb3⟩
          rw [← Hl2.out] at hbu3
          have Hbu3 := Lib.hid hbu3
          have Hb3 := Lib.hid (Hb2.out.trans (Below.lower_ hb3 (Nat.le_of_lt hlt0)))
          clear hbu3 hb3
          go_wp2_with fail
          refine (string_calls w1.heap.size w1.heap.size _ _ Hbu3.out (Nat.le_of_lt Hbu3.out.lt)).mono ?_
          rintro e w4 ⟨rfl, hb4⟩
          have Hb4 := Lib.hid (Hb3.out.trans (Below.lower_ hb4 (Nat.le_of_lt hlt0)))
          clear hb4
          go_wp2_with fail
          go_ret2
          exact ⟨by rw [Htl.out]; rfl, Hb4.out⟩

end Go.Proofs.YtnadmnhkfdkafaaDoor
