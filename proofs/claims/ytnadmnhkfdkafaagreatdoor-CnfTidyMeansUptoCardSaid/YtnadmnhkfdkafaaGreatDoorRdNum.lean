/- Contracts: number, literal of the program's reader; strings.Trim by digits, strconv.Atoi at digits. -/
import Derived.Test.YtnadmnhkfdkafaaGreatDoorRdRune
import Derived.Stop.LaidErr
import Derived.Shelf.Small.Wraps
namespace Go.Proofs.YtnadmnhkfdkafaaGreatDoor
open Go.RowKit
set_option linter.unusedVariables false
set_option linter.unusedSimpArgs false

/-! ### plain -/
def digs : List UInt8 := [48, 49, 50, 51, 52, 53, 54, 55, 56, 57]
theorem contains_dig (b : UInt8) : digs.contains b = digB b := by
  unfold digB digs
  rw [Bool.eq_iff_iff]
  simp only [List.contains_iff_mem, List.mem_cons, List.not_mem_nil, or_false, Bool.and_eq_true, decide_eq_true_eq, UInt8.le_iff_toNat_le, ← UInt8.toNat_inj]
  simp
  omega
theorem dropWhile_nil {p : UInt8 → Bool} : ∀ {l : List UInt8}, l.dropWhile p = [] ↔ l.all p = true
  | [] => by simp
  | b :: l => by
    rw [List.dropWhile_cons, List.all_cons]
    cases hb : p b
    · simp
    · simp [dropWhile_nil (l := l)]
theorem trim_digs (l : List UInt8) : (Lib.trimS l digs = []) ↔ l.all digB = true := by
  have e : (fun b => digs.contains b) = digB := funext contains_dig
  unfold Lib.trimS Lib.trimLeftS Lib.trimRightS
  rw [e, dropWhile_nil, List.all_reverse]
  constructor
  · intro h
    have h2 : (l.reverse.dropWhile digB) = [] := by
      by_cases hn : l.reverse.dropWhile digB = []
      · exact hn
      · exfalso
        have h3 := List.head_dropWhile_not digB (l := l.reverse) hn
        have h4 := List.all_eq_true.1 h _ (List.head_mem hn)
        rw [h4] at h3
        cases h3
    rw [dropWhile_nil, List.all_reverse] at h2
    exact h2
  · intro h
    have h2 : (l.reverse.dropWhile digB) = [] := by rw [dropWhile_nil, List.all_reverse]; exact h
    rw [h2]; rfl
def digStep (n : Nat) (b : UInt8) : Nat := n * 10 + (b.toNat - 48)
theorem foldl_ge (l : List UInt8) : ∀ acc, acc ≤ l.foldl digStep acc := by
  induction l with
  | nil => intro acc; exact Nat.le_refl _
  | cons b l ih => intro acc; have := ih (digStep acc b); rw [List.foldl_cons]; unfold digStep at this ⊢; omega
theorem parse_digs : ∀ (l : List UInt8) (acc : Nat), l.all digB = true → acc < 18446744073709551616 →
    Lib.parseUint10 acc l = if l.foldl digStep acc < 18446744073709551616 then .ok (l.foldl digStep acc) else .range
  | [], acc, _, h => by simp [Lib.parseUint10, h]
  | b :: l, acc, ha, h => by
    rw [List.all_cons, Bool.and_eq_true] at ha
    have hb : 48 ≤ b.toNat ∧ b.toNat ≤ 57 := by
      have := ha.1
      unfold digB at this
      rw [Bool.and_eq_true, decide_eq_true_eq, decide_eq_true_eq, UInt8.le_iff_toNat_le, UInt8.le_iff_toNat_le] at this
      exact this
    have hge := foldl_ge l (digStep acc b)
    rw [List.foldl_cons, Lib.parseUint10, if_pos hb]
    have hs : digStep acc b = acc * 10 + (b.toNat - 48) := rfl
    by_cases h1 : 1844674407370955162 ≤ acc
    · rw [if_pos h1, if_neg (by omega)]
    · rw [if_neg h1]
      by_cases h2 : 18446744073709551616 ≤ acc * 10 + (b.toNat - 48)
      · rw [if_pos h2, if_neg (by omega)]
      · rw [if_neg h2]
        exact parse_digs l _ ha.2 (by omega)
theorem valN_eq (l : List UInt8) : valN l = l.foldl digStep 0 := rfl
theorem isNum_parts {l : List UInt8} (h : isNum l = true) : l ≠ [] ∧ l.all digB = true := by
  unfold isNum at h
  simp only [Bool.and_eq_true] at h
  refine ⟨?_, h.2⟩
  rintro rfl
  simp at h
theorem atoi_num {l : List UInt8} (h : isNum l = true) : Lib.atoiAll l = if valN l < 9223372036854775808 then .ok (valN l : Int) else .range := by
  obtain ⟨h1, h2⟩ := isNum_parts h
  cases l with
  | nil => exact absurd rfl h1
  | cons c r =>
    have hc : 48 ≤ c.toNat ∧ c.toNat ≤ 57 := by
      rw [List.all_cons, Bool.and_eq_true] at h2
      have := h2.1
      unfold digB at this
      rw [Bool.and_eq_true, decide_eq_true_eq, decide_eq_true_eq, UInt8.le_iff_toNat_le, UInt8.le_iff_toNat_le] at this
      exact this
    have hp := parse_digs (c :: r) 0 h2 (by omega)
    rw [← valN_eq] at hp
    unfold Lib.atoiAll
    simp only
    rw [if_neg (by omega), Lib.parseMag, if_neg (by simp), hp]
    have hc45 : ¬ c.toNat = 45 := by omega
    by_cases h3 : valN (c :: r) < 18446744073709551616
    · rw [if_pos h3]
      simp only [hc45, not_false_eq_true, true_and, false_and, if_false]
      by_cases h4 : valN (c :: r) < 9223372036854775808
      · rw [if_neg (by omega), if_pos h4]
      · rw [if_pos (by omega), if_neg h4]
    · rw [if_neg h3, if_neg (by omega)]

/-! ### the library -/
def RangeV (w : World) : Prop := ∃ tp p, w.var? Tryz.prog "strconv.ErrRange" = some #[.iface tp p]
theorem gRange : Tryz.prog.globalNamed "strconv.ErrRange" = some 2 := by kernel_rfl
theorem RangeV.below {w w' : World} (h : RangeV w) (hb : Below w.heap.size w w') : RangeV w' := by
  obtain ⟨tp, p, h⟩ := h
  have hc : w.cell? ⟨2, 0, none⟩ = some (.iface tp p) := by have := World.var?_cell gRange h 0; simpa using this
  exact ⟨tp, p, var?_below hb gRange (World.block_lt_of_cell? w _ hc) h⟩

theorem textOf_data (l : List UInt8) : (⟨l.toArray⟩ : ByteArray).toList = l := by rw [Lib.toList_data]
theorem trimDig_calls (s : ByteArray) (w : World) (hs : s.size ≤ 1048576) :
    Calls Tryz.prog 111 #[.string s, .string ⟨#[48, 49, 50, 51, 52, 53, 54, 55, 56, 57]⟩] w fun e w' => (∃ t : ByteArray, e = .returned (.string t) ∧ t.toList.isEmpty = s.data.toList.all digB) ∧ Below w.heap.size w w' := by
  refine (Any.strings_Trim_laid Tryz.laysTrim (by kernel_rfl) s ⟨#[48, 49, 50, 51, 52, 53, 54, 55, 56, 57]⟩ w (by omega) (by decide) (ascii_of_all (by decide))).mono ?_
  rintro e w' ⟨rfl, hb⟩
  refine ⟨⟨_, rfl, ?_⟩, hb⟩
  rw [textOf_data, Bool.eq_iff_iff, List.isEmpty_iff]
  exact trim_digs _

theorem atoi_calls (s : ByteArray) (w : World) (hs : s.size ≤ 1048576) (h : isNum s.data.toList = true) (hr : RangeV w) :
    Calls Tryz.prog 142 #[.string s] w fun e w' => (if valN s.data.toList < 9223372036854775808 then e = .returned (.tuple #[.int .i64 (valN s.data.toList), .nilIface]) else ∃ v t p, e = .returned (.tuple #[.int .i64 v, .iface t p])) ∧ Below w.heap.size w w' := by
  have ha := atoi_num h
  by_cases hv : valN s.data.toList < 9223372036854775808
  · rw [if_pos hv] at ha
    refine (Any.strconv_Atoi_ok Tryz.laysAtoi s (by omega) _ ha w).mono ?_
    rintro e w' ⟨rfl, hw⟩
    rw [if_pos hv]
    refine ⟨rfl, ?_⟩
    rcases hw with rfl | ⟨t, rfl⟩
    · exact Below.refl _ _
    · exact Lib.bytesWorld_below _ _ _
  · rw [if_neg hv] at ha
    obtain ⟨tp, p, hr⟩ := hr
    refine (Any.strconv_Atoi_range_var Tryz.laysAtoi s (by omega) ha tp p w hr).mono ?_
    rintro e w' ⟨N, rfl, _, _, hb⟩
    rw [if_neg hv]
    exact ⟨⟨_, _, _, rfl⟩, hb⟩

theorem empty_of_size {s : ByteArray} (h : s.size = 0) : s.toList.isEmpty = true := by
  rw [Lib.toList_data]
  have : s.data.toList.length = 0 := by rw [← Lib.size_eq]; exact h
  rw [List.eq_nil_of_length_eq_zero this]; rfl
theorem nonempty_of_size {s : ByteArray} (h : 0 < s.size) : s.toList.isEmpty = false := by
  rw [Lib.toList_data]
  cases e : s.data.toList with
  | nil => have := Lib.size_eq s; rw [e, List.length_nil] at this; omega
  | cons _ _ => rfl

set_option maxHeartbeats 1000000 in
theorem number_calls (s : ByteArray) (most : Int) (w : World) (hs : s.size ≤ 1048576) (h0 : 0 ≤ most) (h1 : most ≤ 1048576) (hr : RangeV w) :
    Calls Tryz.prog 110 #[.string s, .int .i64 most] w fun e w' => e = .returned (.int .i64 (valI s.data.toList most)) ∧ Below w.heap.size w w' := by
  have HR := Lib.hid hr
  clear hr
  have cT := Lib.hid (trimDig_calls s w hs)
  have hsz := Lib.size_eq s
  by_cases hz : s.size = 0
  · have hl : s.data.toList = [] := List.eq_nil_of_length_eq_zero (by omega)
    have Hv := Lib.hid (show valI s.data.toList most = -1 by rw [hl]; rfl)
    have hemp := empty_of_size hz
    clear hl hsz
    go_enter Tryz.func110, Tryz.ntmps110
    go_wp2_with fail
    go_ret
    exact ⟨ret_i64 Hv.out.symm, Below.refl _ _⟩
  have hemp := nonempty_of_size (s := s) (by omega)
  cases had : s.data.toList.all digB with
  | false =>
    have Hv := Lib.hid (show valI s.data.toList most = -1 by unfold valI isNum; rw [had]; simp)
    rw [had] at cT
    clear hsz had
    go_enter Tryz.func110, Tryz.ntmps110
    go_wp2_with fail
    refine cT.out.mono ?_
    rintro e w1 ⟨⟨t, rfl, ht⟩, hb⟩
    have Hb := Lib.hid hb
    clear hb
    go_wp2_with fail
    go_ret
    exact ⟨ret_i64 Hv.out.symm, Hb.out⟩
  | true =>
    rw [had] at cT
    have h0s : 0 < s.size := by omega
    obtain ⟨x, hx⟩ : ∃ x : UInt8, s[0]'h0s = x := ⟨_, rfl⟩
    have hxl : s.data.toList[0]? = some x := by rw [← hx]; exact Lib.data_getElem? s 0 h0s
    have hhd : s.data.toList.head? = some x := by rw [List.head?_eq_getElem?]; exact hxl
    have h0z : (0 : Int) < (s.size : Int) := by omega
    by_cases hlead : x = 48 ∧ 1 < s.size
    · obtain ⟨hx48, h1s⟩ := hlead
      have Hv := Lib.hid (show valI s.data.toList most = -1 by
        unfold valI isNum
        rw [hhd, hx48, decide_eq_true (show 1 < s.data.toList.length by omega)]; simp)
      have b1 : ((x.toNat : Int) == 48) = true := by rw [hx48]; rfl
      have b2 : decide ((1 : Int) < (s.size : Int)) = true := decide_eq_true (by omega)
      clear hsz had hxl hhd hx48 h1s
      go_enter Tryz.func110, Tryz.ntmps110
      go_wp2_with fail
      refine cT.out.mono ?_
      rintro e w1 ⟨⟨t, rfl, ht⟩, hb⟩
      have Hb := Lib.hid hb
      clear hb
      go_wp2_with fail
      go_ret
      exact ⟨ret_i64 Hv.out.symm, Hb.out⟩
    · have hnum : isNum s.data.toList = true := by
        unfold isNum
        rw [had, hhd]
        have e1 : s.data.toList.isEmpty = false := by
          cases e : s.data.toList with
          | nil => rw [e, List.length_nil] at hsz; omega
          | cons _ _ => rfl
        rw [e1]
        by_cases h48 : x = 48
        · have : ¬ 1 < s.size := fun h => hlead ⟨h48, h⟩
          simp; right; omega
        · simp [h48]
      have b12 : ((x.toNat : Int) == 48) = false ∨ (((x.toNat : Int) == 48) = true ∧ decide ((1 : Int) < (s.size : Int)) = false) := by
        by_cases h48 : x = 48
        · right
          have h9 : ¬ 1 < s.size := fun h => hlead ⟨h48, h⟩
          exact ⟨by rw [h48]; rfl, decide_eq_false (by omega)⟩
        · left
          rw [beq_eq_false_iff_ne]
          intro e
          apply h48
          apply UInt8.toNat_inj.1
          have : x.toNat = 48 := by omega
          rw [this]; rfl
      have cA := Lib.hid (fun W hW => atoi_calls s W hs hnum hW)
      have Hn := Lib.hid hnum
      clear hsz had hxl hhd hlead hnum
      by_cases hv : valN s.data.toList < 9223372036854775808
      · have Hv := Lib.hid (show valI s.data.toList most = if (valN s.data.toList : Int) ≤ most then (valN s.data.toList : Int) else -1 by
          unfold valI; rw [Hn.out, Bool.true_and]
          by_cases h : (valN s.data.toList : Int) ≤ most
          · rw [if_pos h, if_pos (decide_eq_true h)]
          · rw [if_neg h, if_neg (by rw [decide_eq_true_eq]; exact h)])
        have Hlt := Lib.hid hv
        clear hv
        generalize hV : valN s.data.toList = V at Hv Hlt
        have HV := Lib.hid hV
        clear hV
        rcases b12 with b12 | ⟨b12, b13⟩
        all_goals
          go_enter Tryz.func110, Tryz.ntmps110
          go_wp2_with fail
          refine cT.out.mono ?_
          rintro e w1 ⟨⟨t, rfl, ht⟩, hb⟩
          have Hb := Lib.hid hb
          clear hb
          go_wp2_with fail
          refine (cA.out _ (HR.out.below Hb.out)).mono ?_
          rintro e w2 ⟨h2, hb2⟩
          rw [HV.out, if_pos Hlt.out] at h2
          obtain rfl := h2
          have Hb2 := Lib.hid (below_of Hb.out Hb.out.size hb2)
          clear hb2
          by_cases hm : (V : Int) ≤ most
          · have b3 : decide (most < (V : Int)) = false := decide_eq_false (by omega)
            have Hr := Lib.hid (show valI s.data.toList most = V by rw [Hv.out, if_pos hm])
            clear hm
            go_wp2_with fail
            go_ret
            exact ⟨ret_i64 Hr.out.symm, Hb2.out⟩
          · have b3 : decide (most < (V : Int)) = true := decide_eq_true (by omega)
            have Hr := Lib.hid (show valI s.data.toList most = -1 by rw [Hv.out, if_neg hm])
            clear hm
            go_wp2_with fail
            go_ret
            exact ⟨ret_i64 Hr.out.symm, Hb2.out⟩
      · have Hr := Lib.hid (show valI s.data.toList most = -1 by
          unfold valI; rw [if_neg]
          rw [Bool.and_eq_true, decide_eq_true_eq]
          intro h; have := h.2; omega)
        have Hlt := Lib.hid hv
        clear hv
        rcases b12 with b12 | ⟨b12, b13⟩
        all_goals
          go_enter Tryz.func110, Tryz.ntmps110
          go_wp2_with fail
          refine cT.out.mono ?_
          rintro e w1 ⟨⟨t, rfl, ht⟩, hb⟩
          have Hb := Lib.hid hb
          clear hb
          go_wp2_with fail
          refine (cA.out _ (HR.out.below Hb.out)).mono ?_
          rintro e w2 ⟨h2, hb2⟩
          rw [if_neg Hlt.out] at h2
          obtain ⟨v, tt, p, rfl⟩ := h2
          have Hb2 := Lib.hid (below_of Hb.out Hb.out.size hb2)
          clear hb2
          go_wp2_with fail
          go_ret
          exact ⟨ret_i64 Hr.out.symm, Hb2.out⟩

theorem cut_calls (s : ByteArray) (w : World) :
    Calls Tryz.prog 202 #[.string s, .string ⟨#[45]⟩] w fun e w' => (∃ t : ByteArray, e = .returned (.tuple #[.string t, .bool (decide (s.data.toList.head? = some 45))]) ∧ (s.data.toList.head? = some 45 → t.data.toList = s.data.toList.drop 1 ∧ t.size ≤ s.size)) ∧ w' = w := by
  refine (Any.strings_CutPrefix Tryz.laysCut s ⟨#[45]⟩ w).mono ?_
  rintro e w' ⟨rfl, hw⟩
  refine ⟨⟨⟨(Lib.trimPrefix s.data.toList [45]).toArray⟩, ?_, ?_⟩, hw⟩
  · have e1 : Lib.hasPrefix s.data.toList [45] = decide (s.data.toList.head? = some 45) := by
      cases s.data.toList with
      | nil => rfl
      | cons b r =>
        unfold Lib.hasPrefix
        rw [List.isPrefixOf, List.isPrefixOf, Bool.and_true, Bool.eq_iff_iff, beq_iff_eq, decide_eq_true_eq]
        simp [eq_comm]
    show Ending.returned (.tuple #[.string _, .bool (Lib.hasPrefix s.data.toList [45])]) = _
    rw [e1]
  · intro h
    cases hl : s.data.toList with
    | nil => rw [hl] at h; cases h
    | cons b r =>
      rw [hl] at h
      injection h with h
      subst h
      have e2 : Lib.trimPrefix (45 :: r) [45] = r := rfl
      show (Lib.trimPrefix (45 :: r) [45]).toArray.toList = r ∧ (Lib.trimPrefix (45 :: r) [45]).toArray.size ≤ s.size
      rw [e2, Lib.size_eq s, hl]
      exact ⟨by simp, by simp⟩

theorem valI_bd (l : List UInt8) (n : Int) (h : 0 ≤ n) : -1 ≤ valI l n ∧ valI l n ≤ n := by
  unfold valI
  split
  · rename_i h1
    rw [Bool.and_eq_true, decide_eq_true_eq] at h1
    omega
  · omega

set_option maxHeartbeats 1000000 in
theorem rdLiteral_calls (s : ByteArray) (n : Int) (w : World) (hs : s.size ≤ 1048576) (h0 : 0 ≤ n) (h1 : n ≤ 1048576) (hr : RangeV w) :
    Calls Tryz.prog 150 #[.string s, .int .i64 n] w fun e w' => e = .returned (.int .i64 (litI s.data.toList n)) ∧ Below w.heap.size w w' := by
  have cC := Lib.hid (cut_calls s w)
  by_cases hp : s.data.toList.head? = some 45
  · rw [decide_eq_true hp] at cC
    have Hp := Lib.hid hp
    clear hp
    go_enter Tryz.func150, Tryz.ntmps150
    go_wp2_with fail
    refine cC.out.mono ?_
    rintro e w1 ⟨⟨t, rfl, ht⟩, rfl⟩
    obtain ⟨ht1, ht2⟩ := ht Hp.out
    clear ht
    have Hl := Lib.hid (show litI s.data.toList n = - posI (valI t.data.toList n) by unfold litI; rw [if_pos Hp.out, ht1])
    have cN := Lib.hid (number_calls t n w1 (by omega) h0 h1 hr)
    obtain ⟨hb1, hb2⟩ := valI_bd t.data.toList n h0
    clear ht1 ht2 hr
    generalize valI t.data.toList n = v at *
    go_wp2_with fail
    refine cN.out.mono ?_
    rintro e w2 ⟨rfl, hb⟩
    have Hb := Lib.hid hb
    clear hb
    by_cases hv : v ≤ 0
    · have Hr := Lib.hid (show litI s.data.toList n = 0 by rw [Hl.out]; unfold posI; rw [if_pos hv]; rfl)
      go_wp2_with fail
      go_ret
      exact ⟨ret_i64 (by rw [Hr.out]; first | rfl | omega), Hb.out⟩
    · have Hr := Lib.hid (show litI s.data.toList n = -v by rw [Hl.out]; unfold posI; rw [if_neg hv])
      go_wp2_with fail
      go_ret
      exact ⟨ret_i64 (by rw [Hr.out]; first | rfl | omega), Hb.out⟩
  · rw [decide_eq_false hp] at cC
    have Hl := Lib.hid (show litI s.data.toList n = posI (valI s.data.toList n) by unfold litI; rw [if_neg hp])
    have cN := Lib.hid (number_calls s n w hs h0 h1 hr)
    obtain ⟨hb1, hb2⟩ := valI_bd s.data.toList n h0
    clear hp hr
    generalize valI s.data.toList n = v at *
    go_enter Tryz.func150, Tryz.ntmps150
    go_wp2_with fail
    refine cC.out.mono ?_
    rintro e w1 ⟨⟨t, rfl, ht⟩, rfl⟩
    clear ht
    go_wp2_with fail
    refine cN.out.mono ?_
    rintro e w2 ⟨rfl, hb⟩
    have Hb := Lib.hid hb
    clear hb
    by_cases hv : v ≤ 0
    · have Hr := Lib.hid (show litI s.data.toList n = 0 by rw [Hl.out]; unfold posI; rw [if_pos hv])
      go_wp2_with fail
      go_ret
      exact ⟨ret_i64 (by rw [Hr.out]; first | rfl | omega), Hb.out⟩
    · have Hr := Lib.hid (show litI s.data.toList n = v by rw [Hl.out]; unfold posI; rw [if_neg hv])
      go_wp2_with fail
      go_ret
      exact ⟨ret_i64 (by rw [Hr.out]; first | rfl | omega), Hb.out⟩

end Go.Proofs.YtnadmnhkfdkafaaGreatDoor
