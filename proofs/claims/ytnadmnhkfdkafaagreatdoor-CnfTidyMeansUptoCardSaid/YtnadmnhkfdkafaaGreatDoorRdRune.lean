/- Contracts: strings.IndexRune at a rune beyond ASCII in an ASCII text, strings.IndexAny of any text for an ASCII set of two or more. -/
import Derived.Test.YtnadmnhkfdkafaaGreatDoorLaidR
import Derived.Test.YtnadmnhkfdkafaaGreatDoorRdPlain
import Derived.Lib.OthersKept
import Derived.Laws.RangeAny
import Derived.Laws.Runes
import Derived.Deep.LoopGhost
import Derived.Deep.QuietTactic
import Derived.BigQuiet
import Derived.WalkMore
import Derived.IntWalk
import Derived.Lib.IndexBytes
namespace Go.Proofs.YtnadmnhkfdkafaaGreatDoor
open Go.RowKit
set_option linter.unusedVariables false
set_option linter.unusedSimpArgs false

/-! ### plain -/
theorem byte_at (s : ByteArray) (i : Nat) (h : i < s.size) : s.get! i = s[i]'h := by
  simp [ByteArray.get!, getElem!_pos, h]
  rfl
/-- a rune beyond ASCII takes bytes beyond ASCII -/
theorem decode_wide (s : ByteArray) (pos : Nat) (h : pos < s.size) (ha : 128 ≤ (s[pos]'h).toNat) :
    128 ≤ (Utf8.decode s pos).1 ∧ Utf8.valid (Utf8.decode s pos).1 = true ∧ 1 ≤ (Utf8.decode s pos).2 ∧ pos + (Utf8.decode s pos).2 ≤ s.size ∧
      ∀ j, pos ≤ j → j < pos + (Utf8.decode s pos).2 → ∀ hj : j < s.size, 128 ≤ (s[j]'hj).toNat := by
  have hn : ¬ (s[pos]'h).toNat < 128 := by omega
  have c1 : ∀ k, pos + k < s.size → (s.get! (pos + k)).toNat / 64 = 2 → ∀ hj : pos + k < s.size, 128 ≤ (s[pos + k]'hj).toNat := fun k _ e hj => by
    rw [byte_at s _ hj] at e; omega
  have one : ∀ j, pos ≤ j → j < pos + 1 → ∀ hj : j < s.size, 128 ≤ (s[j]'hj).toNat := fun j h1 h2 hj => by
    obtain rfl : j = pos := by omega
    exact ha
  simp only [Utf8.decode, get_at s pos h, hn, if_false]
  split
  · rename_i h1
    simp only [Bool.and_eq_true, beq_iff_eq, decide_eq_true_eq] at h1
    split
    · rename_i hc
      refine ⟨hc, ?_, by simp, by simp; omega, fun j a b hj => ?_⟩
      · simp [Utf8.valid]; omega
      · rcases Nat.lt_or_ge j (pos + 1) with hlt | hge
        · exact one j a hlt hj
        · obtain rfl : j = pos + 1 := by simp at b; omega
          exact c1 1 h1.2.1 h1.2.2 hj
    · exact ⟨by decide, by decide, by simp, by simp; omega, by simpa using one⟩
  · split
    · rename_i h1
      simp only [Bool.and_eq_true, beq_iff_eq, decide_eq_true_eq] at h1
      split
      · rename_i hc
        simp only [Bool.and_eq_true, decide_eq_true_eq] at hc
        refine ⟨by simp; omega, hc.2, by simp, by simp; omega, fun j a b hj => ?_⟩
        rcases Nat.lt_or_ge j (pos + 1) with hlt | hge
        · exact one j a hlt hj
        · simp at b
          rcases Nat.lt_or_ge j (pos + 2) with h2 | h2
          · obtain rfl : j = pos + 1 := by omega
            exact c1 1 h1.1.2.1 h1.1.2.2 hj
          · obtain rfl : j = pos + 2 := by omega
            exact c1 2 h1.2.1 h1.2.2 hj
      · exact ⟨by decide, by decide, by simp, by simp; omega, by simpa using one⟩
    · split
      · rename_i h1
        simp only [Bool.and_eq_true, beq_iff_eq, decide_eq_true_eq] at h1
        split
        · rename_i hc
          simp only [Bool.and_eq_true, decide_eq_true_eq] at hc
          refine ⟨by simp; omega, hc.2, by simp, by simp; omega, fun j a b hj => ?_⟩
          rcases Nat.lt_or_ge j (pos + 1) with hlt | hge
          · exact one j a hlt hj
          · simp at b
            rcases Nat.lt_or_ge j (pos + 2) with h2 | h2
            · obtain rfl : j = pos + 1 := by omega
              exact c1 1 h1.1.1.2.1 h1.1.1.2.2 hj
            · rcases Nat.lt_or_ge j (pos + 3) with h3 | h3
              · obtain rfl : j = pos + 2 := by omega
                exact c1 2 h1.1.2.1 h1.1.2.2 hj
              · obtain rfl : j = pos + 3 := by omega
                exact c1 3 h1.2.1 h1.2.2 hj
        · exact ⟨by decide, by decide, by simp, by simp; omega, by simpa using one⟩
      · exact ⟨by decide, by decide, by simp, by simp; omega, by simpa using one⟩
/-- the bytes of a rune beyond ASCII -/
theorem encode_wide (r : Int) (h : 128 ≤ r) : ∃ (rs : ByteArray) (m : Nat) (hm : m < rs.size), Utf8.encode r = rs ∧ rs.size = m + 1 ∧ 1 ≤ m ∧ m ≤ 3 ∧ 128 ≤ (rs[m]'hm).toNat := by
  have key : ∃ c : Nat, 128 ≤ c ∧ c ≤ 1114111 ∧ Utf8.encode r = (if c < 2048 then ⟨#[UInt8.ofNat (192 + c / 64), UInt8.ofNat (128 + c % 64)]⟩
      else if c < 65536 then ⟨#[UInt8.ofNat (224 + c / 4096), UInt8.ofNat (128 + c / 64 % 64), UInt8.ofNat (128 + c % 64)]⟩
      else ⟨#[UInt8.ofNat (240 + c / 262144), UInt8.ofNat (128 + c / 4096 % 64), UInt8.ofNat (128 + c / 64 % 64), UInt8.ofNat (128 + c % 64)]⟩) := by
    refine ⟨if Utf8.valid r then r.toNat else Utf8.runeError, ?_, ?_, ?_⟩
    · split
      · omega
      · decide
    · split
      · rename_i hv
        simp [Utf8.valid] at hv
        omega
      · decide
    · have h1 : ¬ (if Utf8.valid r then r.toNat else Utf8.runeError) < 128 := by
        split
        · omega
        · decide
      unfold Utf8.encode
      simp only [h1, if_false]
  obtain ⟨c, h1, h2, he⟩ := key
  rw [he]
  by_cases hc : c < 2048
  · rw [if_pos hc]
    refine ⟨_, 1, (by show 1 < 2; decide), rfl, rfl, by omega, by omega, ?_⟩
    show 128 ≤ (UInt8.ofNat (128 + c % 64)).toNat
    simp; omega
  · rw [if_neg hc]
    by_cases hc : c < 65536
    · rw [if_pos hc]
      refine ⟨_, 2, (by show 2 < 3; decide), rfl, rfl, by omega, by omega, ?_⟩
      show 128 ≤ (UInt8.ofNat (128 + c % 64)).toNat
      simp; omega
    · rw [if_neg hc]
      refine ⟨_, 3, (by show 3 < 4; decide), rfl, rfl, by omega, by omega, ?_⟩
      show 128 ≤ (UInt8.ofNat (128 + c % 64)).toNat
      simp; omega

/-! ### the library's own text -/
theorem byte_gone : ∀ (l : List UInt8) (c : UInt8), (∀ (j : Nat) b, l[j]? = some b → b ≠ c) → Lib.indexByte l c = -1
  | [], _, _ => rfl
  | b :: l, c, h => by
    have ih := byte_gone l c (fun j x hx => h (j + 1) x (by simpa using hx))
    have hb : (b == c) = false := by simpa using h 0 b rfl
    rw [Lib.indexByte, hb, ih]
    simp
set_option maxHeartbeats 4000000 in
set_option maxRecDepth 100000 in
/-- in an ASCII text there is no rune beyond ASCII -/
theorem indexRune_wide (s : ByteArray) (r : Int) (w : World) (hs : s.size ≤ 1048576) (ha : ∀ (j : Nat) b, s.data.toList[j]? = some b → b.toNat < 128) (h0 : 128 ≤ r) (hv : Utf8.valid r = true) :
    Calls Tryz.prog 193 #[.string s, .int .i32 r] w fun e w' => e = .returned (.int .i64 (-1)) ∧ Below w.heap.size w w' := by
  have HA := Lib.hid ha
  clear ha
  have b0 : decide ((0 : Int) ≤ r) = true := decide_eq_true (by omega)
  have b1 : decide (r < 128) = false := decide_eq_false (by omega)
  by_cases hr : r = 65533
  · subst hr
    clear hv h0 b0 b1
    have Hb := Lib.hid ((Below.refl w.heap.size w).alloc (Nat.le_refl _) (.stringIter s 0))
    go_enter Tryz.func193, Tryz.ntmps193
    go_wp2_with fail
    go_loopg [5, 6] s.size (fun g _ _ wx => ∃ i : Nat, i + g = s.size ∧ wx = w.iter s i)
    case atStart => exact ⟨0, by omega, rfl⟩
    case round =>
      obtain ⟨i, hig, rfl⟩ := hrel
      cases gk with
      | zero =>
        obtain rfl : i = s.size := by omega
        have hnx := run_next_end (P := Tryz.prog) w s s.size
        go_wp2
        go_ret
        exact ⟨rfl, (Below.refl w.heap.size w).alloc (Nat.le_refl _) _⟩
      | succ g =>
        have hi : i < s.size := by omega
        obtain ⟨x, hx⟩ : ∃ x : UInt8, s[i]'hi = x := ⟨_, rfl⟩
        have hx128 : x.toNat < 128 := HA.out i x (by rw [← hx]; exact Lib.data_getElem? s i hi)
        have hnx := fun ty => run_next_ascii (P := Tryz.prog) w s i ty hi (by rw [hx]; exact hx128)
        rw [hx] at hnx
        have hne : ((x.toNat : Int) == 65533) = false := beq_eq_false_iff_ne.2 (by omega)
        clear hx
        go_wp2
        go_roundg g
        case measure => omega
        case rel => exact ⟨i + 1, by omega, rfl⟩
  · have b2 : (r == 65533) = false := beq_eq_false_iff_ne.2 hr
    have hv' : Lib.validRune r = true := by
      simp [Utf8.valid] at hv
      unfold Lib.validRune
      simp; omega
    clear hr hv
    obtain ⟨rs, m, hm, hen, hsz, m1, m3, hx0⟩ := encode_wide r h0
    obtain ⟨x, hx⟩ : ∃ x : UInt8, rs[m]'hm = x := ⟨_, rfl⟩
    rw [hx] at hx0
    have hsz' : ((rs.size : Int) - 1) = (m : Int) := by omega
    have Hsz := Lib.hid hsz
    clear hsz
    go_enter Tryz.func193, Tryz.ntmps193
    go_wp2_with (first | (go_at_call 235; refine (Any.utf8_ValidRune Tryz.laysValid _ _).mono ?_; rintro e w' ⟨rfl, hw⟩; rw [hw, hv']))
    go_step3
    go_wp2_with fail
    go_loopg [9, 10] 0 (fun g i f wx => i = .int .i64 m ∧ f = .int .i64 0 ∧ wx = w)
    case atStart => exact ⟨rfl, rfl, rfl⟩
    case round =>
      obtain ⟨rfl, rfl, rfl⟩ := hrel
      by_cases hlt : m < s.size
      · obtain ⟨y, hy⟩ : ∃ y : UInt8, s[m]'hlt = y := ⟨_, rfl⟩
        have hy128 : y.toNat < 128 := HA.out m y (by rw [← hy]; exact Lib.data_getElem? s m hlt)
        have hlz : (m : Int) < (s.size : Int) := by omega
        have hne : ((y.toNat : Int) != (x.toNat : Int)) = true := bne_iff_ne.2 (by omega)
        have hmr : (m : Int) < (rs.size : Int) := by omega
        have hms : m + 1 ≤ s.size := by omega
        have cB : ∀ W : World, Calls Tryz.prog 141 #[.string (s.extract (m + 1) s.size), .int .u8 x.toNat] W fun e w' => e = .returned (.int .i64 (-1)) ∧ w' = W := fun W => by
          refine (Any.strings_IndexByte Tryz.laysByte _ _ W).mono ?_
          rintro e w' ⟨rfl, hw⟩
          refine ⟨?_, hw⟩
          rw [byte_gone _ _ (fun j b hb => ?_)]
          have h2 := HA.out
          rw [Lib.extract_to_end, List.getElem?_drop] at hb
          have := h2 _ b hb
          intro e
          rw [e] at this
          simp at this
          omega
        have hmw : IntKind.i64.wrap ((m : Int) + 1) = (m : Int) + 1 := IntWalk.i64_in _ (by omega)
        have hm0 : (0 : Int) ≤ (m : Int) + 1 := by omega
        have hmn : ((m : Int) + 1).toNat = m + 1 := by omega
        have hmz : (m : Int) + 1 ≤ (s.size : Int) := by omega
        go_wp2_with fail
        go_step3
        go_wp2_with fail
        go_quiet (fail)
        go_wp2_with fail
        generalize hW : wr.drewN nq = W
        have Hb := Lib.hid (show Below wr.heap.size wr W by rw [← hW]; exact below_drewN (Below.refl _ _) _)
        clear hW
        go_quiet ((go_at_call 141; exact Calls.quiet_of_same (cB _)))
        go_wp2_with fail
        rw [Exit.noGoto_ret]
        go_wp2_with fail
        try rw [Exit.noGoto_ret]
        try go_wp2_with fail
        go_ret
        exact ⟨rfl, below_drewN Hb.out _⟩
      · have hlz : ¬ ((m : Int) < (s.size : Int)) := by omega
        go_wp2_with fail
        try rw [Exit.noGoto_ret]
        try go_wp2_with fail
        try rw [Exit.noGoto_ret]
        try go_wp2_with fail
        go_ret
        exact ⟨rfl, Below.refl _ _⟩

theorem NoAny.wide {s chars : List UInt8} {i k : Nat} (h : Lib.NoAny s chars i) (hw : ∀ j, i ≤ j → j < i + k → ∀ b, s[j]? = some b → 128 ≤ b.toNat) (ha : ∀ (j : Nat) b, chars[j]? = some b → b.toNat < 128) : Lib.NoAny s chars (i + k) := by
  intro j b hj hb
  rcases Nat.lt_or_ge j i with h1 | h1
  · exact h j b h1 hb
  · have h2 := hw j h1 hj b hb
    cases hc : chars.contains b with
    | false => rfl
    | true =>
      have hm : b ∈ chars := by simpa using hc
      obtain ⟨q, hq⟩ := List.mem_iff_getElem?.1 hm
      have := ha q b hq
      omega

set_option maxHeartbeats 8000000 in
set_option maxRecDepth 1000000 in
/-- a text of at most 8 bytes -/
theorem indexAny_short (s chars : ByteArray) (w : World) (h2 : 2 ≤ chars.size) (hcs : chars.size ≤ 1048576) (h8 : s.size ≤ 8) (hascii : ∀ (j : Nat) b, chars.data.toList[j]? = some b → b.toNat < 128) :
    Calls Tryz.prog 140 #[.string s, .string chars] w fun e w' => e = .returned (.int .i64 (Lib.indexAny s.data.toList chars.data.toList)) ∧ Below w.heap.size w w' := by
  have HA := Lib.hid hascii
  clear hascii
  have hemp : chars.toList.isEmpty = false := by
    rw [Lib.toList_data]
    cases h : chars.data.toList with
    | nil => have := Lib.size_eq chars; rw [h, List.length_nil] at this; omega
    | cons _ _ => rfl
  have hn1 : ((chars.size : Int) == 1) = false := beq_eq_false_iff_ne.2 (by omega)
  have h8z : decide ((8 : Int) < (s.size : Int)) = false := decide_eq_false (by omega)
  go_enter Tryz.func140, Tryz.ntmps140
  go_wp2_with (go_at_call 194; refine (Any.strings_shouldUseASCIISet { Tryz.laysAny with } _ _).mono ?_; rintro e w' ⟨rfl, hw⟩; rw [hw, h8z])
  go_loopg [9, 10] s.size (fun g _ _ wx => ∃ i : Nat, i + g ≤ s.size ∧ s.size ≤ i + g ∧ Hid (wx.heap[w.heap.size]? = some (.stringIter s i)) ∧ Hid (Below w.heap.size w wx) ∧ Hid (Lib.NoAny s.data.toList chars.data.toList i))
  case atStart => exact ⟨0, by omega, by omega, World.iter_heap w s 0, (Below.refl w.heap.size w).alloc (Nat.le_refl _) _, Lib.NoAny.zero _ _⟩
  case round =>
    obtain ⟨i, hig, hig2, HK, HB, HN⟩ := hrel
    by_cases hi : i < s.size
    · obtain ⟨x, hx⟩ : ∃ x : UInt8, s[i]'hi = x := ⟨_, rfl⟩
      have Hx := Lib.hid (show s.data.toList[i]? = some x by rw [← hx]; exact Lib.data_getElem? s i hi)
      by_cases hx128 : x.toNat < 128
      · have hnx := fun ty => Lib.run_next_ascii_at (P := Tryz.prog) wr w.heap.size s i ty HK.out hi (by rw [hx]; exact hx128)
        rw [hx] at hnx
        clear hx
        have HB2 := Lib.hid (Lib.below_iterAt HB.out (Nat.le_refl _) s (i + 1))
        have HK2 := Lib.hid (Lib.iterAt_heap wr w.heap.size s i (i + 1) HK.out)
        have hcon := Lib.contains_iff_indexByte chars.data.toList x
        have hback : ((x.toNat : Int)).toNat.toUInt8 = x := by simp
        cases hin : chars.data.toList.contains x
        · rw [hin] at hcon
          have hlt : ¬ ((0 : Int) ≤ Lib.indexByte chars.data.toList x) := of_decide_eq_false hcon.symm
          have HN2 := Lib.hid (HN.out.succ Hx.out hin)
          clear hcon hin
          go_wp2_with (go_at_call 193; refine (Any.strings_IndexRune_ascii { Tryz.laysAny with } _ _ _ (by omega) (by omega)).mono ?_; rintro e w' ⟨rfl, hw⟩; rw [hw, hback])
          go_roundg (s.size - (i + 1))
          case measure => omega
          case rel => exact ⟨i + 1, by omega, by omega, HK2, HB2, HN2⟩
        · rw [hin] at hcon
          have hge : (0 : Int) ≤ Lib.indexByte chars.data.toList x := of_decide_eq_true hcon.symm
          have Hr := Lib.hid (Lib.indexAny_hit HN.out Hx.out hin)
          clear hcon hin
          go_wp2_with (go_at_call 193; refine (Any.strings_IndexRune_ascii { Tryz.laysAny with } _ _ _ (by omega) (by omega)).mono ?_; rintro e w' ⟨rfl, hw⟩; rw [hw, hback])
          go_ret
          exact ⟨by rw [Hr.out]; rfl, HB2.out⟩
      · have hd := decode_wide s i hi (by rw [hx]; omega)
        have hnx := fun ty => Lib.run_next_any_at (P := Tryz.prog) wr w.heap.size s i ty HK.out hi
        clear hx
        have HB2 := Lib.hid (Lib.below_iterAt HB.out (Nat.le_refl _) s (i + (Utf8.decode s i).2))
        have HK2 := Lib.hid (Lib.iterAt_heap wr w.heap.size s i (i + (Utf8.decode s i).2) HK.out)
        obtain ⟨h1, hv, h3, h4, h5⟩ := hd
        have HN2 := Lib.hid (NoAny.wide (k := (Utf8.decode s i).2) HN.out (fun j a b y hy => by
          have hj : j < s.size := by omega
          have := h5 j a b hj
          rw [Lib.data_getElem? s j hj] at hy
          injection hy with hy
          rw [← hy]; exact this) HA.out)
        have cR := Lib.hid (fun W => indexRune_wide chars ((Utf8.decode s i).1 : Nat) W hcs HA.out (by omega) hv)
        clear h5 hv
        generalize (Utf8.decode s i).1 = r at *
        generalize (Utf8.decode s i).2 = k at *
        generalize hW : wr.iterAt w.heap.size s (i + k) = W at *
        clear hW
        go_wp2_with fail
        refine (cR.out _).mono ?_
        rintro e w1 ⟨rfl, hb1⟩
        have HB3 := Lib.hid (below_of HB2.out HB2.out.size hb1)
        have HK3 := Lib.hid ((hb1.block w.heap.size (Array.getElem?_eq_some_iff.1 HK2.out).1).trans HK2.out)
        clear hb1
        go_wp2_with fail
        go_roundg (s.size - (i + k))
        case measure => omega
        case rel => exact ⟨i + k, by omega, by omega, HK3, HB3, HN2⟩
    · have hnx := fun ty => Lib.run_next_end_at (P := Tryz.prog) wr w.heap.size s i ty HK.out hi
      have Hr := Lib.hid (Lib.indexAny_none (s := s.data.toList) (chars := chars.data.toList) (by
        have := HN.out
        rw [← Lib.size_eq]
        rwa [show i = s.size by omega] at this))
      go_wp2
      go_ret
      exact ⟨by rw [Hr.out]; rfl, HB.out⟩

/-- strings.IndexAny: any text, an ASCII set of two or more -/
theorem indexAny_calls (s chars : ByteArray) (w : World) (h2 : 2 ≤ chars.size) (hcs : chars.size ≤ 1048576) (hs : s.size ≤ 1048576) (hascii : ∀ (j : Nat) b, chars.data.toList[j]? = some b → b.toNat < 128) :
    Calls Tryz.prog 140 #[.string s, .string chars] w fun e w' => e = .returned (.int .i64 (Lib.indexAny s.data.toList chars.data.toList)) ∧ Below w.heap.size w w' := by
  by_cases h8 : s.size ≤ 8
  · exact indexAny_short s chars w h2 hcs h8 hascii
  · have h116 : (Tryz.prog.info? 226).map (fun i => (i.zero, i.size)) = some (some (.agg (Array.replicate 256 (.bool false))), 256) := by kernel_rfl
    refine (Any.strings_IndexAny_long Tryz.laysAny (zero_of_info h116).1 (zero_of_info h116).2 s chars w h2 (by omega) (by omega) (by omega) hascii).mono fun e w' ⟨h1, h2⟩ => ⟨h1, ?_⟩
    rw [h2]
    exact ((Below.refl _ _).alloc (Nat.le_refl _) _).alloc (by simp) _

end Go.Proofs.YtnadmnhkfdkafaaGreatDoor
