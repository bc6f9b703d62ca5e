/- Contracts: the document's white, IsNumber, Value, AsLiteral. -/
import Derived.Test.YtnadmnhkfdkafaaDoorRdNext
namespace Go.Proofs.YtnadmnhkfdkafaaDoor
open Go.RowKit
set_option linter.unusedVariables false
set_option linter.unusedSimpArgs false

theorem byte_eq (x : UInt8) (k : Nat) (hk : k < 256) : ((x.toNat : Int) == (k : Int)) = (x == UInt8.ofNat k) := by
  rw [Bool.eq_iff_iff, beq_iff_eq, beq_iff_eq, ← UInt8.toNat_inj]
  simp
  omega

theorem white_calls (x : UInt8) (w : World) : Calls Tryd.prog 65 #[.int .u8 x.toNat] w fun e w' => e = .returned (.bool (whiteB x)) ∧ w = w' := by
  have e9 : ((x.toNat : Int) == 9) = (x == 9) := byte_eq x 9 (by omega)
  have e10 : ((x.toNat : Int) == 10) = (x == 10) := byte_eq x 10 (by omega)
  have e13 : ((x.toNat : Int) == 13) = (x == 13) := byte_eq x 13 (by omega)
  have e32 : ((x.toNat : Int) == 32) = (x == 32) := byte_eq x 32 (by omega)
  unfold whiteB
  cases h9 : x == 9
  case true =>
    rw [h9] at e9
    clear h9 e10 e13 e32
    go_enter Tryd.func65, Tryd.ntmps65
    go_wp2
    go_ret
    exact ⟨rfl, rfl⟩
  cases h10 : x == 10
  case true =>
    rw [h9] at e9; rw [h10] at e10
    clear h9 h10 e13 e32
    go_enter Tryd.func65, Tryd.ntmps65
    go_wp2
    go_ret
    exact ⟨rfl, rfl⟩
  cases h13 : x == 13
  case true =>
    rw [h9] at e9; rw [h10] at e10; rw [h13] at e13
    clear h9 h10 h13 e32
    go_enter Tryd.func65, Tryd.ntmps65
    go_wp2
    go_ret
    exact ⟨rfl, rfl⟩
  cases h32 : x == 32
  all_goals
    rw [h9] at e9; rw [h10] at e10; rw [h13] at e13; rw [h32] at e32
    clear h9 h10 h13 h32
    go_enter Tryd.func65, Tryd.ntmps65
    go_wp2
    go_ret
    exact ⟨rfl, rfl⟩

theorem digB_iff (x : UInt8) : digB x = true ↔ 48 ≤ x.toNat ∧ x.toNat ≤ 57 := by
  unfold digB
  rw [Bool.and_eq_true, decide_eq_true_eq, decide_eq_true_eq, UInt8.le_iff_toNat_le, UInt8.le_iff_toNat_le]
  exact Iff.rfl

theorem isNum_lead {l : List UInt8} {x : UInt8} (h0 : l[0]? = some x) (h : x = 48 ∧ 1 < l.length) : isNum l = false := by
  unfold isNum
  rw [List.head?_eq_getElem?, h0, h.1, decide_eq_true h.2]
  simp
theorem isNum_not {l : List UInt8} (h : l.all digB = false) : isNum l = false := by unfold isNum; rw [h]; simp
theorem isNum_yes {l : List UInt8} {x : UInt8} (h0 : l[0]? = some x) (h : ¬ (x = 48 ∧ 1 < l.length)) (ha : l.all digB = true) : isNum l = true := by
  unfold isNum
  rw [ha, List.head?_eq_getElem?, h0]
  have e1 : l.isEmpty = false := by cases l with | nil => simp at h0 | cons _ _ => rfl
  rw [e1]
  by_cases h48 : x = 48
  · have : ¬ 1 < l.length := fun hl => h ⟨h48, hl⟩
    simp [this]
  · simp [h48]

set_option maxHeartbeats 1000000 in
theorem isNumber_calls (s : ByteArray) (w : World) (hs : s.size ≤ 1048576) : Calls Tryd.prog 46 #[.string s] w fun e w' => e = .returned (.bool (isNum s.data.toList)) ∧ w = w' := by
  have hsz := Lib.size_eq s
  by_cases hz : s.size = 0
  · have hl : s.data.toList = [] := List.eq_nil_of_length_eq_zero (by omega)
    have Hv := Lib.hid (show isNum s.data.toList = false by rw [hl]; rfl)
    have hemp := empty_of_size hz
    clear hl hsz
    go_enter Tryd.func46, Tryd.ntmps46
    go_wp2_with fail
    go_ret
    exact ⟨ret_bool Hv.out.symm, rfl⟩
  have hemp := nonempty_of_size (s := s) (by omega)
  have h0s : 0 < s.size := by omega
  have h0z : (0 : Int) < (s.size : Int) := by omega
  obtain ⟨x, hx⟩ : ∃ x : UInt8, s[0]'h0s = x := ⟨_, rfl⟩
  have hxl : s.data.toList[0]? = some x := by rw [← hx]; exact Lib.data_getElem? s 0 h0s
  have e48 : ((x.toNat : Int) == 48) = (x == 48) := byte_eq x 48 (by omega)
  by_cases hlead : x = 48 ∧ 1 < s.size
  · have Hv := Lib.hid (isNum_lead hxl (by rw [← hsz]; exact hlead))
    have b1 : ((x.toNat : Int) == 48) = true := by rw [e48, hlead.1]; rfl
    have b2 : decide ((1 : Int) < (s.size : Int)) = true := decide_eq_true (by have := hlead.2; omega)
    clear hsz hxl e48 hlead
    go_enter Tryd.func46, Tryd.ntmps46
    go_wp2_with fail
    go_ret
    exact ⟨ret_bool Hv.out.symm, rfl⟩
  have HX := Lib.hid hxl
  have HL := Lib.hid hlead
  have HS := Lib.hid hsz
  have b12 : ((x.toNat : Int) == 48) = false ∨ (((x.toNat : Int) == 48) = true ∧ decide ((1 : Int) < (s.size : Int)) = false) := by
    rw [e48]
    by_cases h48 : x = 48
    · right; exact ⟨by rw [h48]; rfl, decide_eq_false (fun h => hlead ⟨h48, by omega⟩)⟩
    · left; simpa using h48
  clear hxl hlead hsz e48
  generalize hr : isNum s.data.toList = r
  have HR := Lib.hid hr
  clear hr
  rcases b12 with b1 | ⟨b1, b2⟩
  all_goals
    go_enter Tryd.func46, Tryd.ntmps46
    go_wp2_with fail
    go_loop [3] (fun i => ∃ k : Nat, k ≤ s.size ∧ i = .int .i64 k ∧ Hid ((s.data.toList.take k).all digB = true)) (fun i => s.size - (intOf i).toNat)
    case atStart => exact ⟨0, Nat.zero_le _, rfl, by simp [Hid]⟩
    case round =>
      obtain ⟨k, hk, rfl, HA⟩ := hrel
      by_cases hlt : k < s.size
      · obtain ⟨y, hy⟩ : ∃ y : UInt8, s[k]'hlt = y := ⟨_, rfl⟩
        have HY := Lib.hid (show s.data.toList[k]? = some y by rw [← hy]; exact Lib.data_getElem? s k hlt)
        have hlz : (k : Int) < (s.size : Int) := by omega
        by_cases h1 : y.toNat < 48
        · have c1 : decide ((y.toNat : Int) < 48) = true := decide_eq_true (by omega)
          have Hs := Lib.hid (show r = false by rw [← HR.out]; exact isNum_not (all_false HY.out (by rw [← Bool.not_eq_true, digB_iff]; omega)))
          go_wp2
          go_ret
          exact ⟨ret_bool Hs.out.symm, rfl⟩
        · have c1 : decide ((y.toNat : Int) < 48) = false := decide_eq_false (by omega)
          by_cases h2 : 57 < y.toNat
          · have c2 : decide ((57 : Int) < (y.toNat : Int)) = true := decide_eq_true (by omega)
            have Hs := Lib.hid (show r = false by rw [← HR.out]; exact isNum_not (all_false HY.out (by rw [← Bool.not_eq_true, digB_iff]; omega)))
            go_wp2
            go_ret
            exact ⟨ret_bool Hs.out.symm, rfl⟩
          · have c2 : decide ((57 : Int) < (y.toNat : Int)) = false := decide_eq_false (by omega)
            have Hs := Lib.hid (show (s.data.toList.take (k + 1)).all digB = true by rw [all_take_succ HY.out, HA.out, (digB_iff y).2 (by omega)]; rfl)
            go_wp2
            go_round
            case rel => exact ⟨k + 1, by omega, by go_num, Hs⟩
            case measure => simp [intOf]; omega
      · have Hs := Lib.hid (show r = true by
          rw [← HR.out]
          exact isNum_yes HX.out (by rw [← HS.out]; exact HL.out) (all_done HA.out (by rw [← HS.out]; omega)))
        go_wp2
        go_ret
        exact ⟨ret_bool Hs.out.symm, rfl⟩

theorem foldl_lt : ∀ (l : List UInt8) (acc k : Nat), acc < 10 ^ k → l.all digB = true → l.foldl digStep acc < 10 ^ (k + l.length)
  | [], acc, k, h, _ => by simpa using h
  | b :: l, acc, k, h, ha => by
    rw [List.all_cons, Bool.and_eq_true, digB_iff] at ha
    have := foldl_lt l (digStep acc b) (k + 1) (by unfold digStep; rw [Nat.pow_succ]; omega) ha.2
    rw [List.foldl_cons, List.length_cons, show k + (l.length + 1) = k + 1 + l.length by omega]
    exact this
theorem foldl_ge_pow : ∀ (l : List UInt8) (acc : Nat), acc * 10 ^ l.length ≤ l.foldl digStep acc
  | [], acc => by simp
  | b :: l, acc => by
    have := foldl_ge_pow l (digStep acc b)
    rw [List.foldl_cons, List.length_cons, Nat.pow_succ]
    have h2 : acc * 10 * 10 ^ l.length ≤ digStep acc b * 10 ^ l.length := Nat.mul_le_mul_right _ (by unfold digStep; omega)
    calc acc * (10 ^ l.length * 10) = acc * 10 * 10 ^ l.length := by rw [Nat.mul_comm (10 ^ l.length) 10, Nat.mul_assoc]
      _ ≤ _ := h2
      _ ≤ _ := this
/-- a number of more than 18 digits is great -/
theorem valN_great {l : List UInt8} (h : isNum l = true) (hl : 18 < l.length) : 1048576 < valN l := by
  obtain ⟨h1, h2⟩ := isNum_parts h
  cases l with
  | nil => exact absurd rfl h1
  | cons b r =>
    rw [List.all_cons, Bool.and_eq_true, digB_iff] at h2
    have hb : b ≠ 48 := by
      intro e
      rw [isNum_lead (l := b :: r) (x := b) rfl ⟨e, by omega⟩] at h
      cases h
    have hb2 : 48 < b.toNat := by
      have : b.toNat ≠ 48 := fun e => hb (UInt8.toNat_inj.1 (by rw [e]; rfl))
      omega
    have h3 := foldl_ge_pow r (digStep 0 b)
    have h4 : valN (b :: r) = r.foldl digStep (digStep 0 b) := rfl
    rw [h4]
    have h5 : 10 ^ 18 ≤ 10 ^ r.length := Nat.pow_le_pow_right (by omega) (by simp at hl; omega)
    have h6 : 1 * 10 ^ r.length ≤ digStep 0 b * 10 ^ r.length := Nat.mul_le_mul_right _ (by unfold digStep; omega)
    have h7 : (10 : Nat) ^ 18 = 1000000000000000000 := by decide
    omega
theorem valN_take {l : List UInt8} {k : Nat} {x : UInt8} (h : l[k]? = some x) : valN (l.take (k + 1)) = valN (l.take k) * 10 + (x.toNat - 48) := by
  rw [List.take_add_one, h, valN_eq, valN_eq, Option.toList_some, List.foldl_append]; rfl

set_option maxHeartbeats 1000000 in
theorem value_calls (s : ByteArray) (lid : Int) (w : World) (hs : s.size ≤ 1048576) (h0 : 0 ≤ lid) (h1 : lid ≤ 1048576) : Calls Tryd.prog 45 #[.string s, .int .i64 lid] w fun e w' => e = .returned (.int .i64 (valI s.data.toList lid)) ∧ w = w' := by
  have cI := Lib.hid (isNumber_calls s w hs)
  have hsz := Lib.size_eq s
  cases hn : isNum s.data.toList with
  | false =>
    rw [hn] at cI
    have Hv := Lib.hid (show valI s.data.toList lid = -1 by unfold valI; rw [hn]; simp)
    clear hn hsz
    go_enter Tryd.func45, Tryd.ntmps45
    go_wp2_with fail
    refine cI.out.mono ?_
    rintro e w' ⟨rfl, rfl⟩
    go_wp2_with fail
    go_ret
    exact ⟨ret_i64 Hv.out.symm, rfl⟩
  | true =>
    rw [hn] at cI
    by_cases hl : 18 < s.size
    · have Hv := Lib.hid (show valI s.data.toList lid = -1 by
        have := valN_great hn (by rw [← hsz]; exact hl)
        unfold valI; rw [hn, if_neg (by rw [Bool.true_and, decide_eq_true_eq]; omega)])
      have b1 : decide ((18 : Int) < (s.size : Int)) = true := decide_eq_true (by omega)
      clear hn hsz
      go_enter Tryd.func45, Tryd.ntmps45
      go_wp2_with fail
      refine cI.out.mono ?_
      rintro e w' ⟨rfl, rfl⟩
      go_wp2_with fail
      go_ret
      exact ⟨ret_i64 Hv.out.symm, rfl⟩
    · have b1 : decide ((18 : Int) < (s.size : Int)) = false := decide_eq_false (by omega)
      have HD := Lib.hid (isNum_parts hn).2
      have Hv := Lib.hid (show valI s.data.toList lid = if (valN s.data.toList : Int) ≤ lid then (valN s.data.toList : Int) else -1 by
        unfold valI; rw [hn, Bool.true_and]
        by_cases h : (valN s.data.toList : Int) ≤ lid
        · rw [if_pos h, if_pos (decide_eq_true h)]
        · rw [if_neg h, if_neg (by rw [decide_eq_true_eq]; exact h)])
      have HS := Lib.hid hsz
      clear hn hsz
      go_enter Tryd.func45, Tryd.ntmps45
      go_wp2_with fail
      refine cI.out.mono ?_
      rintro e w' ⟨rfl, rfl⟩
      go_wp2_with fail
      go_loop [5, 6] (fun n i => ∃ (k m : Nat), k ≤ s.size ∧ i = .int .i64 k ∧ n = .int .i64 m ∧ Hid (valN (s.data.toList.take k) = m)) (fun _ i => s.size - (intOf i).toNat)
      case atStart => exact ⟨0, 0, Nat.zero_le _, rfl, rfl, by simp [Hid, valN]⟩
      case round =>
        obtain ⟨k, m, hk, rfl, rfl, HM⟩ := hrel
        by_cases hlt : k < s.size
        · obtain ⟨y, hy⟩ : ∃ y : UInt8, s[k]'hlt = y := ⟨_, rfl⟩
          have hyl : s.data.toList[k]? = some y := by rw [← hy]; exact Lib.data_getElem? s k hlt
          have hyd := (digB_iff y).1 (List.all_eq_true.1 HD.out y (List.mem_of_getElem? hyl))
          have hlz : (k : Int) < (s.size : Int) := by omega
          have HM2 := Lib.hid (show valN (s.data.toList.take (k + 1)) = m * 10 + (y.toNat - 48) by rw [valN_take hyl, HM.out])
          have hml : m < 100000000000000000 := by
            have h2 := foldl_lt (s.data.toList.take k) 0 0 (by simp) (by rw [List.all_eq_true]; intro z hz; exact List.all_eq_true.1 HD.out z (List.mem_of_mem_take hz))
            rw [← valN_eq, HM.out] at h2
            have h3 : 10 ^ (0 + (s.data.toList.take k).length) ≤ 10 ^ 17 := Nat.pow_le_pow_right (by omega) (by simp; omega)
            have h4 : (10 : Nat) ^ 17 = 100000000000000000 := by decide
            omega
          obtain ⟨hy1, hy2⟩ := hyd
          have hy3 : (48 : Int) ≤ (y.toNat : Int) := by omega
          clear hyl
          go_wp2
          go_round
          case rel => exact ⟨k + 1, m * 10 + (y.toNat - 48), by omega, by go_num, i64_eq (by omega), HM2⟩
          case measure => simp [intOf]; omega
        · have hm : valN s.data.toList = m := by
            have h2 := HM.out
            rwa [List.take_of_length_le (by rw [← HS.out]; omega)] at h2
          rw [hm] at Hv
          clear hm
          by_cases hml : (m : Int) ≤ lid
          · have b2 : decide (lid < (m : Int)) = false := decide_eq_false (by omega)
            have Hr := Lib.hid (show valI s.data.toList lid = m by rw [Hv.out, if_pos hml])
            go_wp2
            go_ret
            exact ⟨ret_i64 Hr.out.symm, rfl⟩
          · have b2 : decide (lid < (m : Int)) = true := decide_eq_true (by omega)
            have Hr := Lib.hid (show valI s.data.toList lid = -1 by rw [Hv.out, if_neg hml])
            go_wp2
            go_ret
            exact ⟨ret_i64 Hr.out.symm, rfl⟩

set_option maxHeartbeats 1000000 in
theorem asLiteral_calls (s : ByteArray) (n : Int) (w : World) (hs : s.size ≤ 1048576) (h0 : 0 ≤ n) (h1 : n ≤ 1048576) : Calls Tryd.prog 99 #[.string s, .int .i64 n] w fun e w' => e = .returned (.int .i64 (litI s.data.toList n)) ∧ w = w' := by
  have hsz := Lib.size_eq s
  have tail : ∀ (t : ByteArray) (r : Int), t.size ≤ 1048576 → r = posI (valI t.data.toList n) → True := fun _ _ _ _ => trivial
  by_cases hp : s.data.toList.head? = some 45
  · have h0s : 0 < s.size := by
      rcases Nat.eq_zero_or_pos s.size with h | h
      · rw [hsz] at h
        rw [List.eq_nil_of_length_eq_zero h] at hp; cases hp
      · exact h
    have hemp := nonempty_of_size h0s
    have h0z : (0 : Int) < (s.size : Int) := by omega
    obtain ⟨x, hx⟩ : ∃ x : UInt8, s[0]'h0s = x := ⟨_, rfl⟩
    have hx45 : x = 45 := by
      have := Lib.data_getElem? s 0 h0s
      rw [List.head?_eq_getElem?, this, hx] at hp
      injection hp
    have b1 : ((x.toNat : Int) == 45) = true := by rw [hx45]; rfl
    have hl1 : (1 : Int) ≤ (s.size : Int) := by omega
    have hl1n : 1 ≤ s.size := by omega
    have Hl := Lib.hid (show litI s.data.toList n = - posI (valI (s.extract 1 s.size).data.toList n) by unfold litI; rw [if_pos hp, Lib.extract_to_end])
    have cV := Lib.hid (fun W => value_calls (s.extract 1 s.size) n W (by simp; omega) h0 h1)
    obtain ⟨v1, v2⟩ := valI_bd (s.extract 1 s.size).data.toList n h0
    generalize valI (s.extract 1 s.size).data.toList n = v at *
    clear hp hsz hx45 tail
    go_enter Tryd.func99, Tryd.ntmps99
    go_wp2_with fail
    refine (cV.out _).mono ?_
    rintro e w' ⟨rfl, rfl⟩
    by_cases hv : v ≤ 0
    · have b2 : decide (v ≤ 0) = true := decide_eq_true hv
      have Hr := Lib.hid (show litI s.data.toList n = 0 by rw [Hl.out]; unfold posI; rw [if_pos hv]; rfl)
      go_wp2_with fail
      go_ret
      exact ⟨ret_i64 Hr.out.symm, rfl⟩
    · have b2 : decide (v ≤ 0) = false := decide_eq_false hv
      have Hr := Lib.hid (show litI s.data.toList n = -v by rw [Hl.out]; unfold posI; rw [if_neg hv])
      go_wp2_with fail
      go_ret
      exact ⟨ret_i64 Hr.out.symm, rfl⟩
  · have Hl := Lib.hid (show litI s.data.toList n = posI (valI s.data.toList n) by unfold litI; rw [if_neg hp])
    have cV := Lib.hid (fun W => value_calls s n W hs h0 h1)
    obtain ⟨v1, v2⟩ := valI_bd s.data.toList n h0
    have HC : (s.toList.isEmpty = true) ∨ (s.toList.isEmpty = false ∧ ∃ h0 : 0 < s.size, (((s[0]'h0).toNat : Int) == 45) = false) := by
      by_cases hz : s.size = 0
      · exact .inl (empty_of_size hz)
      · right
        refine ⟨nonempty_of_size (by omega), by omega, ?_⟩
        have := Lib.data_getElem? s 0 (by omega)
        rw [List.head?_eq_getElem?, this] at hp
        exact (byte_eq _ 45 (by omega)).trans (by simpa using hp)
    generalize valI s.data.toList n = v at *
    clear hp hsz tail
    rcases HC with hemp | ⟨hemp, h0s, b1⟩
    all_goals
      try (have h0z : (0 : Int) < (s.size : Int) := by omega)
      go_enter Tryd.func99, Tryd.ntmps99
      go_wp2_with fail
      refine (cV.out _).mono ?_
      rintro e w' ⟨rfl, rfl⟩
      by_cases hv : v ≤ 0
      · have b2 : decide (v ≤ 0) = true := decide_eq_true hv
        have Hr := Lib.hid (show litI s.data.toList n = 0 by rw [Hl.out]; unfold posI; rw [if_pos hv])
        go_wp2_with fail
        go_ret
        exact ⟨ret_i64 Hr.out.symm, rfl⟩
      · have b2 : decide (v ≤ 0) = false := decide_eq_false hv
        have Hr := Lib.hid (show litI s.data.toList n = v by rw [Hl.out]; unfold posI; rw [if_neg hv])
        go_wp2_with fail
        go_ret
        exact ⟨ret_i64 Hr.out.symm, rfl⟩

end Go.Proofs.YtnadmnhkfdkafaaDoor
