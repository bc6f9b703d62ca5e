/- Contract: the document's Words. -/
import Derived.Test.YtnadmnhkfdkafaaDoorRfNum
import Derived.Test.YtnadmnhkfdkafaaDoorRdClause
import Derived.Test.YtnadmnhkfdkafaaDoorRooms
namespace Go.Proofs.YtnadmnhkfdkafaaDoor
open Go.RowKit
set_option linter.unusedVariables false
set_option linter.unusedSimpArgs false

theorem info_word : (Tryd.prog.info? 89).map (fun i => (i.zero, i.size, i.bytes)) = some (some (.agg #[.string ⟨#[]⟩, .int .i64 0]), 2, 24) := by kernel_rfl
/-- a word as it lies in a row -/
def wordV (s : ByteArray) (q : Nat × Nat) : List Value := [.string (s.extract q.1 q.2), .int .i64 q.1]
theorem wordV_length (s : ByteArray) : ∀ (D : List (Nat × Nat)), (D.flatMap (wordV s)).length = D.length * 2
  | [] => rfl
  | q :: D => by rw [List.flatMap_cons, List.length_append, wordV_length s D, List.length_cons]; simp [wordV]; omega

set_option maxHeartbeats 8000000 in
set_option maxRecDepth 100000 in
theorem words_calls (s : ByteArray) (w : World) (hs : s.size ≤ 1048576) : Calls Tryd.prog 44 #[.string s] w fun e w' => ∃ v, e = .returned v ∧
    w'.ownsRow w.heap.size 89 2 v (words s.data.toList 0).length ((words s.data.toList 0).flatMap (wordV s)) ∧ Below w.heap.size w w' := by
  have HS := Lib.hid (Lib.size_eq s)
  go_enter Tryd.func44, Tryd.ntmps44
  go_wp2_with fail
  go_loopg [3, 4, 5] s.size (fun g v iv _ wx => ∃ (i : Nat) (D : List (Nat × Nat)), iv = .int .i64 i ∧ i ≤ s.size ∧ s.size ≤ i + g ∧ D.length ≤ i ∧ Hid (words s.data.toList 0 = D ++ words s.data.toList i) ∧
    Hid (wx.ownsRow w.heap.size 89 2 v D.length (D.flatMap (wordV s))) ∧ Hid (Below w.heap.size w wx))
  case atStart => exact ⟨0, [], rfl, Nat.zero_le _, by omega, Nat.le_refl _, rfl, World.ownsRow_nil _ _ _ _, Below.refl _ _⟩
  case round =>
    obtain ⟨i, D, rfl, hi, hig, hDi, HD, HO, HB⟩ := hrel
    obtain ⟨wo, rfl⟩ : ∃ wo : World, wo = wr := ⟨_, rfl⟩
    by_cases hlt : i < s.size
    · obtain ⟨x, hx⟩ : ∃ x : UInt8, s[i]'hlt = x := ⟨_, rfl⟩
      have Hx := Lib.hid (show s.data.toList[i]? = some x by rw [← hx]; exact Lib.data_getElem? s i hlt)
      have hiz : (i : Int) < (s.size : Int) := by omega
      have hil : i < s.data.toList.length := by rw [← HS.out]; exact hlt
      cases hc : cmt s.data.toList i with
      | true =>
        obtain ⟨b1, hT⟩ := cmt_yes hlt hx hc
        have HD2 := Lib.hid (show words s.data.toList 0 = D ++ words s.data.toList (scan eolB s.data.toList i) by rw [HD.out, words_cmt hil hc, cmt_scan hc])
        have Hge := Lib.hid (show i + 1 ≤ scan eolB s.data.toList i by rw [cmt_scan hc]; exact scan_ge)
        clear hc Hx hil
        rcases hT with b2 | ⟨j, hj, hji, b2, b3 | ⟨b3, b4⟩⟩
        all_goals
          try (have hji2 : (i : Int) - 1 = (j : Int) := by omega)
          try clear hji
          go_wp2_with fail
          go_loop [4] (fun t => ∃ j : Nat, t = .int .i64 j ∧ i ≤ j ∧ j ≤ s.size ∧ Hid (scan eolB s.data.toList j = scan eolB s.data.toList i)) (fun t => s.size - (intOf t).toNat)
          case atStart => exact ⟨i, rfl, Nat.le_refl _, hi, rfl⟩
          case round =>
            obtain ⟨j1, rfl, hij, hjs, HJ⟩ := hrel
            by_cases hjl : j1 < s.size
            · obtain ⟨y, hy⟩ : ∃ y : UInt8, s[j1]'hjl = y := ⟨_, rfl⟩
              have Hy := Lib.hid (show s.data.toList[j1]? = some y by rw [← hy]; exact Lib.data_getElem? s j1 hjl)
              have hjz : (j1 : Int) < (s.size : Int) := by omega
              cases he : eolB y with
              | true =>
                have HQ := Lib.hid (show scan eolB s.data.toList i = j1 by rw [← HJ.out]; exact scan_hit Hy.out he)
                have hlt1 : i + 1 ≤ j1 := by have := Hge.out; rw [HQ.out] at this; exact this
                have HD3 := Lib.hid (show words s.data.toList 0 = D ++ words s.data.toList j1 by rw [← HQ.out]; exact HD2.out)
                have h12 : (((y.toNat : Int) != 10) = false) ∨ ((((y.toNat : Int) != 10) = true) ∧ (((y.toNat : Int) != 13) = false)) := by
                  unfold eolB at he
                  by_cases h10 : y = 10
                  · left; rw [h10]; rfl
                  · right
                    have h13 : y = 13 := by simpa [h10] using he
                    rw [h13]; exact ⟨rfl, rfl⟩
                clear he
                rcases h12 with b5 | ⟨b5, b6⟩
                all_goals
                  go_wp2_with fail
                  go_roundg (s.size - j1)
                  case measure => omega
                  case rel => exact ⟨j1, D, rfl, by omega, by omega, by omega, HD3, HO, HB⟩
              | false =>
                have HJ2 := Lib.hid (show scan eolB s.data.toList (j1 + 1) = scan eolB s.data.toList i by rw [← HJ.out, ← scan_step Hy.out he])
                have b5 : ((y.toNat : Int) != 10) = true := by
                  rw [bne_iff_ne]; intro h
                  have : y = 10 := UInt8.toNat_inj.1 (by simp; omega)
                  rw [this] at he; simp [eolB] at he
                have b6 : ((y.toNat : Int) != 13) = true := by
                  rw [bne_iff_ne]; intro h
                  have : y = 13 := UInt8.toNat_inj.1 (by simp; omega)
                  rw [this] at he; simp [eolB] at he
                clear he
                go_wp2_with fail
                go_round
                case rel => exact ⟨j1 + 1, by go_num, by omega, by omega, HJ2⟩
                case measure => simp [intOf]; omega
            · have hjz : ¬ ((j1 : Int) < (s.size : Int)) := by omega
              have HQ := Lib.hid (show scan eolB s.data.toList i = j1 by rw [← HJ.out]; exact scan_end (by rw [← HS.out]; omega))
              have hlt1 : i + 1 ≤ j1 := by have := Hge.out; rw [HQ.out] at this; exact this
              have HD3 := Lib.hid (show words s.data.toList 0 = D ++ words s.data.toList j1 by rw [← HQ.out]; exact HD2.out)
              go_wp2_with fail
              go_roundg (s.size - j1)
              case measure => omega
              case rel => exact ⟨j1, D, rfl, by omega, by omega, by omega, HD3, HO, HB⟩
      | false =>
        have hT := cmt_no hlt hx hc
        cases hw : whiteB x with
        | true =>
          have HD2 := Lib.hid (show words s.data.toList 0 = D ++ words s.data.toList (i + 1) by rw [HD.out, words_white Hx.out hc hw])
          have cW := Lib.hid (fun W => white_calls x W)
          rw [hw] at cW
          clear hc Hx hil hw
          rcases hT with b1 | ⟨b1, b2, j, hj, hji, b3, b4⟩
          all_goals
            try (have hji2 : (i : Int) - 1 = (j : Int) := by omega)
            try clear hji
            go_wp2_with fail
            refine (cW.out _).mono ?_
            rintro e w1 ⟨rfl, rfl⟩
            go_wp2_with fail
            go_roundg (s.size - (i + 1))
            case measure => omega
            case rel => exact ⟨i + 1, D, by go_num, by omega, by omega, by omega, HD2, HO, HB⟩
        | false =>
          have HD2 := Lib.hid (show words s.data.toList 0 = D ++ (i, scan whiteB s.data.toList i) :: words s.data.toList (scan whiteB s.data.toList i) by rw [HD.out, words_word Hx.out hc hw, scan_step Hx.out hw])
          have Hgt := Lib.hid (scan_lt_of Hx.out hw)
          have cW := Lib.hid (fun W => white_calls x W)
          rw [hw] at cW
          clear hc Hx hil hw
          rcases hT with b1 | ⟨b1, b2, j, hj, hji, b3, b4⟩
          all_goals
            try (have hji2 : (i : Int) - 1 = (j : Int) := by omega)
            try clear hji
            go_wp2_with fail
            refine (cW.out _).mono ?_
            rintro e w1 ⟨rfl, rfl⟩
            go_wp2_with fail
            go_loop [5] (fun t => ∃ j : Nat, t = .int .i64 j ∧ i ≤ j ∧ j ≤ s.size ∧ Hid (scan whiteB s.data.toList j = scan whiteB s.data.toList i)) (fun t => s.size - (intOf t).toNat)
            case atStart => exact ⟨i, rfl, Nat.le_refl _, hi, rfl⟩
            case round =>
              obtain ⟨j1, rfl, hij, hjs, HJ⟩ := hrel
              by_cases hjl : j1 < s.size
              · obtain ⟨y, hy⟩ : ∃ y : UInt8, s[j1]'hjl = y := ⟨_, rfl⟩
                have Hy := Lib.hid (show s.data.toList[j1]? = some y by rw [← hy]; exact Lib.data_getElem? s j1 hjl)
                have hjz : (j1 : Int) < (s.size : Int) := by omega
                have cY := Lib.hid (fun W => white_calls y W)
                cases he : whiteB y with
                | true =>
                  rw [he] at cY
                  have HQ := Lib.hid (show scan whiteB s.data.toList i = j1 by rw [← HJ.out]; exact scan_hit Hy.out he)
                  have hlt1 : i + 1 ≤ j1 := by have := Hgt.out; rw [HQ.out] at this; exact this
                  have HD3 := Lib.hid (show words s.data.toList 0 = (D ++ [(i, j1)]) ++ words s.data.toList j1 by rw [HD2.out, HQ.out]; simp)
                  clear he
                  go_wp2_with fail
                  refine (cY.out _).mono ?_
                  rintro e w1 ⟨rfl, rfl⟩
                  go_wp2_with ((
                    at_builtin
                    refine appS (w0 := w) (W := wo) w.heap.size rfl (.tmp 70) (.tmp 77) 86 89 (.agg #[.string ⟨#[]⟩, .int .i64 0]) 2 24 1 rfl Tryd.underlying86 info_word rfl (by decide) _ D.length (D.flatMap (wordV s)) (wordV s (i, j1)) rfl rfl ?hx (by simp [wordV, Value.oneCell']) HO.out HB.out HB.out.size (by omega) (by omega) ?_
                    case hx => simp [Act.eval]
                    intro v9 w9 own9 hb9 hg9
                    have O9 := Lib.hid (show w9.ownsRow w.heap.size 89 2 v9 (D ++ [(i, j1)]).length ((D ++ [(i, j1)]).flatMap (wordV s)) by simpa using own9)
                    have B9 := Lib.hid hb9
                    clear own9 hb9 hg9))
                  go_roundg (s.size - j1)
                  case measure => omega
                  case rel => exact ⟨j1, D ++ [(i, j1)], rfl, by omega, by omega, by simp; omega, HD3, O9, B9⟩
                | false =>
                  rw [he] at cY
                  have HJ2 := Lib.hid (show scan whiteB s.data.toList (j1 + 1) = scan whiteB s.data.toList i by rw [← HJ.out, ← scan_step Hy.out he])
                  clear he
                  go_wp2_with fail
                  refine (cY.out _).mono ?_
                  rintro e w1 ⟨rfl, rfl⟩
                  go_wp2_with fail
                  go_round
                  case rel => exact ⟨j1 + 1, by go_num, by omega, by omega, HJ2⟩
                  case measure => simp [intOf]; omega
              · have hjz : ¬ ((j1 : Int) < (s.size : Int)) := by omega
                have HQ := Lib.hid (show scan whiteB s.data.toList i = j1 by rw [← HJ.out]; exact scan_end (by rw [← HS.out]; omega))
                have hlt1 : i + 1 ≤ j1 := by have := Hgt.out; rw [HQ.out] at this; exact this
                have HD3 := Lib.hid (show words s.data.toList 0 = (D ++ [(i, j1)]) ++ words s.data.toList j1 by rw [HD2.out, HQ.out]; simp)
                go_wp2_with ((
                  at_builtin
                  refine appS (w0 := w) (W := wo) w.heap.size rfl (.tmp 70) (.tmp 77) 86 89 (.agg #[.string ⟨#[]⟩, .int .i64 0]) 2 24 1 rfl Tryd.underlying86 info_word rfl (by decide) _ D.length (D.flatMap (wordV s)) (wordV s (i, j1)) rfl rfl ?hx (by simp [wordV, Value.oneCell']) HO.out HB.out HB.out.size (by omega) (by omega) ?_
                  case hx => simp [Act.eval]
                  intro v9 w9 own9 hb9 hg9
                  have O9 := Lib.hid (show w9.ownsRow w.heap.size 89 2 v9 (D ++ [(i, j1)]).length ((D ++ [(i, j1)]).flatMap (wordV s)) by simpa using own9)
                  have B9 := Lib.hid hb9
                  clear own9 hb9 hg9))
                go_roundg (s.size - j1)
                case measure => omega
                case rel => exact ⟨j1, D ++ [(i, j1)], rfl, by omega, by omega, by simp; omega, HD3, O9, B9⟩
    · have hiz : ¬ ((i : Int) < (s.size : Int)) := by omega
      have HD2 := Lib.hid (show words s.data.toList 0 = D by rw [HD.out, words_end (by rw [← HS.out]; omega), List.append_nil])
      go_wp2_with fail
      go_ret
      exact ⟨_, rfl, by rw [HD2.out]; exact HO.out, HB.out⟩

end Go.Proofs.YtnadmnhkfdkafaaDoor
