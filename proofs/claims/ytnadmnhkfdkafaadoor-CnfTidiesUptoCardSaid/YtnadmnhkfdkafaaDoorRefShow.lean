/- Contract: the document's Show. -/
import Derived.Test.YtnadmnhkfdkafaaDoorShow
import Derived.Deep.RegionLaw
namespace Go.Proofs.YtnadmnhkfdkafaaDoor
open Go.RowKit
set_option linter.unusedVariables false
set_option linter.unusedSimpArgs false

theorem wp_append_str {o : Oper} {a : Act} {w : World} {K : Act → World → Prop} {Q : Exit → Act → World → Prop} (s x : Operand)
    (ho : o.op = .call { callee := .builtin .append, args := #[s, x], argTypes := #[69, 9] })
    (B : Nat) (v : Value) (l : List UInt8) (hs : a.eval s = v) (hown : w.ownsRow B 5 1 v l.length (Lib.byteCells l)) (y : List UInt8) (hx : a.eval x = .string (textOf y)) (hy : y ≠ [])
    (hbytes : l.length + y.length ≤ 140737488355328) (hbase : B ≤ w.heap.size)
    (h : ∀ g cap w', w'.ownsRow B 5 1 (.slice (some ⟨g, 0, none⟩) (l ++ y).length cap) (l ++ y).length (Lib.byteCells (l ++ y)) → w.grownBy w' v.ownBlock → K (a.put o.dst (.slice (some ⟨g, 0, none⟩) (l ++ y).length cap)) w') : o.wp Tryd.prog a w K Q := by
  obtain ⟨i0, hi, hz0, hz1, hz2⟩ := info_parts byte_info
  obtain ⟨v', w', hr, h2, h3, h4⟩ := Lib.run_append_own_string (P := Tryd.prog) w B 69 9 o.type 5 i0 Tryd.underlying69 Tryd.underlying9 hi hz0 hz1 hz2 v l.length _ hown (textOf y) (by simp only [textOf_size, maxLen]; omega) hbytes hbase
  rw [strCells_textOf, ← Lib.byteCells_append, textOf_size, ← List.length_append] at h2
  obtain ⟨g, cap, rfl, _, _⟩ := h2.form (by cases y with | nil => exact absurd rfl hy | cons b y => simp; omega)
  unfold Oper.wp execOp
  simp only [ho, resolve, invoke, builtin, Sem.run_bind, Sem.run_pure, Result.andThen_ok, List.map_toArray, List.map_cons, List.map_nil, hs, hx, hr]
  exact h g cap w' h2 h3

theorem step_append_str {ops : Array Oper} {o : Oper} {a : Act} {w : World} {K : Act → World → Prop} {Q : Exit → Act → World → Prop} {E : Prop} (hgd : o.guard = none) (s x : Operand)
    (ho : o.op = .call { callee := .builtin .append, args := #[s, x], argTypes := #[69, 9] })
    (B : Nat) (v : Value) (l : List UInt8) (hs : a.eval s = v) (hown : w.ownsRow B 5 1 v l.length (Lib.byteCells l)) (y : List UInt8) (hx : a.eval x = .string (textOf y)) (hy : y ≠ [])
    (hbytes : l.length + y.length ≤ 140737488355328) (hbase : B ≤ w.heap.size)
    (h : ∀ g cap w', w'.ownsRow B 5 1 (.slice (some ⟨g, 0, none⟩) (l ++ y).length cap) (l ++ y).length (Lib.byteCells (l ++ y)) → w.grownBy w' v.ownBlock → K (a.put o.dst (.slice (some ⟨g, 0, none⟩) (l ++ y).length cap)) w') :
    if Region.wanted o (yielded ops a.tmps) = true then Oper.wp Tryd.prog o a w K Q else E := by
  have hw : Region.wanted o (yielded ops a.tmps) = true := by simp [Region.wanted, hgd]
  rw [if_pos hw]
  exact wp_append_str s x ho B v l hs hown y hx hy hbytes hbase h

theorem wpList_append_str {ops : Array Oper} {rest : List Oper} {o : Oper} {a : Act} {w : World} {Q : Exit → Act → World → Prop} (hgd : o.guard = none) (s x : Operand)
    (ho : o.op = .call { callee := .builtin .append, args := #[s, x], argTypes := #[69, 9] })
    (B : Nat) (v : Value) (l : List UInt8) (hs : a.eval s = v) (hown : w.ownsRow B 5 1 v l.length (Lib.byteCells l)) (y : List UInt8) (hx : a.eval x = .string (textOf y)) (hy : y ≠ [])
    (hbytes : l.length + y.length ≤ 140737488355328) (hbase : B ≤ w.heap.size)
    (h : ∀ g cap w', w'.ownsRow B 5 1 (.slice (some ⟨g, 0, none⟩) (l ++ y).length cap) (l ++ y).length (Lib.byteCells (l ++ y)) → w.grownBy w' v.ownBlock → wpList Tryd.prog ops Q rest (a.put o.dst (.slice (some ⟨g, 0, none⟩) (l ++ y).length cap)) w') : wpList Tryd.prog ops Q (o :: rest) a w :=
  wpList_plain hgd fun K hK => wp_append_str s x ho B v l hs hown y hx hy hbytes hbase fun g cap w' h2 h3 => hK _ _ (h g cap w' h2 h3)

theorem conv_own {w : World} {B g cap : Nat} {l : List UInt8} (h : w.ownsRow B 5 1 (.slice (some ⟨g, 0, none⟩) l.length cap) l.length (Lib.byteCells l)) :
    (convert 69 9 (.slice (some ⟨g, 0, none⟩) l.length cap)).run Tryd.prog w = .ok (.string (textOf l)) w := by
  refine run_convert_bytes_back (P := Tryd.prog) w 69 9 5 ⟨g, 0, none⟩ cap l Tryd.underlying69 Tryd.underlying5 Tryd.underlying9 ?_
  intro j hj
  exact h.cells (g := g) rfl j _ (by simp [Lib.byteCells, List.getElem?_eq_getElem hj])
def OwnB (w : World) (B : Nat) (v : Value) (l : List UInt8) : Prop := w.ownsRow B 5 1 v l.length (Lib.byteCells l)

set_option maxHeartbeats 4000000 in
set_option maxRecDepth 100000 in
theorem refShow_calls (n : Int) (A : Option Addr) (c : Nat) (xss : List (List Int)) (At : Option Addr) (ct : Nat) (ts : List Int) (w : World)
    (hx : RowsAt w A xss) (ht : IntsAt w At ts) (hl : xss.length ≤ 1048576) (htl : ts.length ≤ 1048576) (hxl : ∀ l ∈ xss, l.length ≤ 1048576) (hc : xss.length ≤ c) :
    Calls Tryd.prog 11 #[.agg #[.int .i64 n, .slice A xss.length c, .slice At ts.length ct]] w fun e w' =>
      e = .returned (.tuple #[.string (if okCnf ⟨n, xss, ts⟩ then textOf (showB n xss ts) else textOf []), .int .i64 (if okCnf ⟨n, xss, ts⟩ then 0 else 62)]) ∧ Below w.heap.size w w' := by
  have hbW := (Below.refl w.heap.size w).alloc (Nat.le_refl _) (.cells #[.int .i64 n, .slice A xss.length c, .slice At ts.length ct] 25)
  have hB1 := Blk.new w 25 #[.int .i64 n, .slice A xss.length c, .slice At ts.length ct]
  have ct1 := Lib.hid (refCheck_calls n A c xss At ct ts _ (hx.below hbW) (ht.below hbW) (by omega) (by omega))
  generalize hok : okCnf ⟨n, xss, ts⟩ = ok at ct1 ⊢
  have HXw := Lib.hid hx
  have HTw := Lib.hid ht
  have HBW := Lib.hid hbW
  have HB1 := Lib.hid hB1
  have HL := Lib.hid hxl
  clear hx ht hbW hB1 hxl
  have Hok := Lib.hid hok
  clear hok
  cases ok
  case false =>
    go_enter Tryd.func11, Tryd.ntmps11
    go_wp2_with fail
    refine ct1.out.mono ?_
    rintro e w1 ⟨rfl, hb1⟩
    have Hb1 := Lib.hid (below_of HBW.out HBW.out.size hb1)
    clear hb1
    go_wp2_with fail
    go_ret2
    exact ⟨rfl, Hb1.out⟩
  case true =>
    obtain ⟨⟨hv0, hv1⟩, hbd, htbd⟩ := okCnf_parts Hok.out
    have HBD := Lib.hid hbd
    have HTD := Lib.hid htbd
    clear hbd htbd Hok
    go_enter Tryd.func11, Tryd.ntmps11
    go_wp2_with fail
    refine ct1.out.mono ?_
    rintro e W ⟨rfl, hb1⟩
    have HbW := Lib.hid (below_of HBW.out HBW.out.size hb1)
    have HB1W := Lib.hid (HB1.out.below hb1)
    have hc0 : W.cell? ⟨w.heap.size, 0, none⟩ = some (.int .i64 n) := by have := HB1W.out.cell 0; simpa using this
    have hc1 : W.cell? ⟨w.heap.size, 1, none⟩ = some (.slice A xss.length c) := by have := HB1W.out.cell 1; simpa using this
    clear hb1 ct1 HB1 HBW
    go_wp2_with fail
    have hn0 : (0 : Int) ≤ n := by omega
    have hn1 : n ≤ 9223372036854775807 := by omega
    have hm0 : (0 : Int) ≤ (xss.length : Int) := by omega
    have hm1 : (xss.length : Int) ≤ 9223372036854775807 := by omega
    have hi1 := dec_size n hn0 hn1
    have hi2 := dec_size xss.length hm0 hm1
    have hs1 : ¬ 9223372036854775807 < 6 + (textOf (Lib.decDigits n.toNat)).size := by omega
    have hs2 : ¬ 9223372036854775807 < 6 + (textOf (Lib.decDigits n.toNat)).size + 1 := by omega
    have hs3 : ¬ 9223372036854775807 < 6 + (textOf (Lib.decDigits n.toNat)).size + 1 + (textOf (Lib.decDigits xss.length)).size := by simp at hi2; omega
    have hs4 : ¬ 9223372036854775807 < 6 + (textOf (Lib.decDigits n.toNat)).size + 1 + (textOf (Lib.decDigits xss.length)).size + 1 := by simp at hi2; omega
    have hh := Lib.hid (show ⟨#[112, 32, 99, 110, 102, 32]⟩ ++ textOf (Lib.decDigits n.toNat) ++ ⟨#[32]⟩ ++ textOf (Lib.decDigits xss.length) ++ ⟨#[10]⟩ = textOf (headB n xss.length) by
      unfold headB Lib.itoa; rw [if_neg (by omega), if_neg (by omega)]; simp only [← textOf_append, Int.toNat_natCast]; rfl)
    have hhl : (headB n xss.length).length ≤ 60 := headB_length n xss.length (by omega) (by omega) (by omega) (by omega)
    have hne : headB n xss.length ≠ [] := by unfold headB; simp
    clear hi1 hi2
    go_cut [4] from 9 to 21 (fun s4 wx => ∃ g cap, s4 = .slice (some ⟨g, 0, none⟩) (headB n xss.length).length cap ∧ Hid (OwnB wx w.heap.size (.slice (some ⟨g, 0, none⟩) (headB n xss.length).length cap) (headB n xss.length)) ∧ Hid (Blk wx w.heap.size 25 #[.int .i64 n, .slice A xss.length c, .slice At ts.length ct]) ∧ Hid (Below w.heap.size w wx))
    case first =>
     go_region_law (first
      | (go_simp
         go_at_call_of 34 (Value.int IntKind.i64 n)
         refine (digits_calls n hn0 hn1 _).mono ?_
         rintro e w2 ⟨rfl, hb2⟩
         have Hb2 := Lib.hid (show Below W.heap.size W w2 by first | exact hb2 | exact (Below.refl _ W).drew.trans hb2)
         have hc2 : w2.cell? ⟨w.heap.size, 1, none⟩ = some (.slice A xss.length c) := cell_kept Hb2.out hc1
         clear hb2)
      | (go_simp
         go_at_call_of 34 (Value.int IntKind.i64 (xss.length : Int))
         refine (digits_calls xss.length hm0 hm1 _).mono ?_
         rintro e w3 ⟨rfl, hb3⟩
         have Hb3 := Lib.hid (below_of Hb2.out Hb2.out.size hb3)
         clear hb3)
      | (refine step_append_str rfl (.tmp 9) (.tmp 20) rfl w.heap.size (.slice none 0 0) [] rfl ?_ (headB n xss.length) ?_ hne ?_ ?_ ?_
         exact World.ownsRow_nil _ _ _ _
         exact congrArg Value.string hh.out
         simp; omega
         exact Nat.le_trans HbW.out.size Hb3.out.size
         intro g cap w4 own4 hg4
         have Own4 := Lib.hid own4
         have Hg4 := Lib.hid hg4
         clear own4 hg4))
     all_goals (go_wp2_with fail; go_meet; exact ⟨g, cap, rfl, Own4.out, (HB1W.out.below Hb3.out).grown Hg4.out (by simp [Value.ownBlock]), (below_of HbW.out HbW.out.size Hb3.out).grown Hg4.out (Nat.le_trans HbW.out.size Hb3.out.size) (by simp [Value.ownBlock])⟩)
    case rest =>
    obtain ⟨g0, cap0, rfl, Hown, HB, Hb⟩ := hcut
    clear hs1 hs2 hs3 hs4 hh hne hn0 hn1 hm0 hm1 hc0 hc1 HB1W HbW
    obtain ⟨L0, hL0⟩ : ∃ L0, L0 = headB n xss.length := ⟨_, rfl⟩
    rw [← hL0] at Hown hhl ⊢
    have HL0 := Lib.hid hL0
    clear hL0
    go_wp2_with fail
    go_loopw [4, 5] (fun s4 i wr => ∃ (k g cap : Nat) (L : List UInt8), k ≤ xss.length ∧ i = .int .i64 k ∧ s4 = .slice (some ⟨g, 0, none⟩) L.length cap ∧ Hid (L = L0 ++ rowsB (xss.take k)) ∧ Hid (OwnB wr w.heap.size (.slice (some ⟨g, 0, none⟩) L.length cap) L) ∧ Hid (Blk wr w.heap.size 25 #[.int .i64 n, .slice A xss.length c, .slice At ts.length ct]) ∧ Hid (Below w.heap.size w wr)) (fun _ i _ => (xss.length - intOf i).toNat)
    case atStart => exact ⟨0, g0, cap0, L0, Nat.zero_le _, rfl, rfl, by simp [rowsB, Hid], Hown.out, HB.out, Hb.out⟩
    case round =>
      obtain ⟨k, g, cap, L, hk, rfl, rfl, hL, hown, hB, hb⟩ := hrel
      clear Hown HB Hb
      obtain ⟨wq, rfl⟩ : ∃ wq : World, wq = wr := ⟨_, rfl⟩
      have hln : L.length ≤ 60 + 23068674 * k := by
        have h := rowsB_length (xss.take k) (fun l hl => ⟨HL.out l (List.mem_of_mem_take hl), HBD.out l (List.mem_of_mem_take hl)⟩)
        rw [hL.out]
        simp only [List.length_append, List.length_take] at *; omega
      have hc1 : wq.cell? ⟨w.heap.size, 1, none⟩ = some (.slice A xss.length c) := by have := hB.out.cell 1; simpa using this
      have hc2 : wq.cell? ⟨w.heap.size, 2, none⟩ = some (.slice At ts.length ct) := by have := hB.out.cell 2; simpa using this
      by_cases hlt : k < xss.length
      · obtain ⟨ad, A1, c1, l, rfl, hcell, h1, h2, Hl, Hi⟩ := (HXw.out.below hb.out).get hlt
        have Hst := Lib.hid (rowsB_take Hl.out)
        have hl1 : l.length ≤ 1048576 := HL.out l (List.mem_of_getElem? Hl.out)
        have Hbd := Lib.hid (HBD.out l (List.mem_of_getElem? Hl.out))
        have hll : (lineB l ++ [48, 10]).length ≤ 23068674 := by have := lineB_length l Hbd.out; simp only [List.length_append, List.length_cons, List.length_nil]; omega
        have hlz : (k : Int) < xss.length := by omega
        go_wp2_with fail
        refine (refLine_calls A1 c1 l _ Hi.out (by omega) Hbd.out).mono ?_
        rintro e w2 ⟨rfl, hb2⟩
        have Own2 := Lib.hid (show OwnB w2 w.heap.size (.slice (some ⟨g, 0, none⟩) L.length cap) L from own_below hown.out hb2)
        have HB2 := Lib.hid (hB.out.below hb2)
        have Hb2 := Lib.hid (below_of hb.out hb.out.size hb2)
        clear hb2
        go_wp2_with ((
          at_builtin
          refine wpList_append_str rfl (.tmp 29) (.tmp 35) rfl w.heap.size (.slice (some ⟨g, 0, none⟩) L.length cap) L rfl ?_ (lineB l ++ [48, 10]) ?_ ?_ ?_ ?_ ?_
          exact Own2.out
          rfl
          simp
          omega
          exact Hb2.out.size
          intro g3 cap3 w3 own3 hg3
          have Own3 := Lib.hid own3
          have HB3 := Lib.hid (Blk.grown_row HB2.out Own2.out (by decide) hg3)
          have Hb3 := Lib.hid (Hb2.out.grown hg3 Hb2.out.size (fun k hk => (Own2.out.lt k hk).1))
          obtain ⟨L3, hL3⟩ : ∃ L3, L3 = L ++ (lineB l ++ [48, 10]) := ⟨_, rfl⟩
          rw [← hL3] at Own3 ⊢
          have HL3 := Lib.hid hL3
          clear own3 hg3 hL3))
        exact ⟨⟨k + 1, g3, cap3, L3, by omega, by go_num, rfl, by rw [HL3.out, hL.out, Hst.out, List.append_assoc]; rfl, Own3.out, HB3.out, Hb3.out⟩, by simp [intOf]; omega⟩
      · have Hkk := Lib.hid (show xss.take k = xss from List.take_of_length_le (by omega))
        by_cases hts : ts.length = 0
        · have hg : decide ((0 : Int) < (ts.length : Int)) = false := decide_eq_false (by omega)
          have hg2 : decide (0 < ts.length) = false := decide_eq_false (by omega)
          have Htl := Lib.hid (show showB n xss ts = L by rw [hL.out, HL0.out]; unfold showB tailB; rw [if_pos hts, Hkk.out]; simp)
          have hcv := conv_own hown.out
          clear hts
          go_wp2_with fail
          go_ret2
          exact ⟨by rw [Htl.out]; rfl, hb.out⟩
        · have hg : decide ((0 : Int) < (ts.length : Int)) = true := decide_eq_true (by omega)
          have hg2 : decide (0 < ts.length) = true := decide_eq_true (by omega)
          have Htl := Lib.hid (show showB n xss ts = L ++ ([97, 32] ++ (lineB ts ++ [48, 10])) by rw [hL.out, HL0.out]; unfold showB tailB; rw [if_neg hts, Hkk.out])
          have hll : (lineB ts).length ≤ 22 * ts.length := lineB_length ts HTD.out
          have hs1 : ¬ 9223372036854775807 < 2 + (lineT ts).size := by show ¬ _ < 2 + (lineB ts ++ [48, 10]).length; simp only [List.length_append, List.length_cons, List.length_nil]; omega
          have Hh := Lib.hid (show ⟨#[97, 32]⟩ ++ lineT ts = textOf ([97, 32] ++ (lineB ts ++ [48, 10])) by rw [← textOf_append]; rfl)
          have hlt1 : ([97, 32] ++ (lineB ts ++ [48, 10])).length ≤ 22 * ts.length + 4 := by simp only [List.length_append, List.length_cons, List.length_nil]; omega
          have hlne : [97, 32] ++ (lineB ts ++ [48, 10]) ≠ [] := by simp
          obtain ⟨l1, hl1⟩ : ∃ l1, l1 = [97, 32] ++ (lineB ts ++ [48, 10]) := ⟨_, rfl⟩
          rw [← hl1] at Htl Hh hlt1 hlne
          clear hts hl1
          go_wp2_with fail
          refine (refLine_calls At ct ts _ (HTw.out.below hb.out) (by omega) HTD.out).mono ?_
          rintro e w2 ⟨rfl, hb2⟩
          have Own2 := Lib.hid (show OwnB w2 w.heap.size (.slice (some ⟨g, 0, none⟩) L.length cap) L from own_below hown.out hb2)
          have Hb2 := Lib.hid (below_of hb.out hb.out.size hb2)
          clear hb2
          go_wp2_with ((
            at_builtin
            refine wpList_append_str rfl (.tmp 41) (.tmp 45) rfl w.heap.size (.slice (some ⟨g, 0, none⟩) L.length cap) L rfl ?_ l1 ?_ hlne ?_ ?_ ?_
            exact Own2.out
            exact congrArg Value.string Hh.out
            omega
            exact Hb2.out.size
            intro g3 cap3 w3 own3 hg3
            have Own3 := Lib.hid own3
            have Hb3 := Lib.hid (Hb2.out.grown hg3 Hb2.out.size (fun k hk => (Own2.out.lt k hk).1))
            obtain ⟨L3, hL3⟩ : ∃ L3, L3 = L ++ l1 := ⟨_, rfl⟩
            rw [← hL3] at Own3 Htl ⊢
            have hcv := conv_own Own3.out
            clear own3 hg3 hL3))
          go_ret2
          exact ⟨by rw [Htl.out]; rfl, Hb3.out⟩

end Go.Proofs.YtnadmnhkfdkafaaDoor
