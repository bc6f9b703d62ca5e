/- Contracts: the document's Digits, Signed and line (the texts of numbers). -/
import Derived.Test.YtnadmnhkfdkafaaDoorMem
import Derived.Test.YtnadmnhkfdkafaaDoorProg
import Derived.Lib.ItoaNum
import Derived.Lib.ItoaMem
import Derived.Lib.ItoaLen
import Derived.Laws.IdiomStrings
import Derived.Deep.RegionWith
namespace Go.Proofs.YtnadmnhkfdkafaaDoor
open Go.RowKit
set_option linter.unusedVariables false
set_option linter.unusedSimpArgs false

def textOf (l : List UInt8) : ByteArray := ⟨l.toArray⟩
theorem textOf_append (a b : List UInt8) : textOf a ++ textOf b = textOf (a ++ b) := by
  apply ByteArray.ext; simp [textOf]

theorem one_byte (W W' : World) (z : Int) (h0 : 0 ≤ z) (h1 : z ≤ 255) (hb : Below (W.alloc (.cells #[.int .u8 z] 5)).heap.size (W.alloc (.cells #[.int .u8 z] 5)) W') :
    (convert 69 9 (.slice (some ⟨W.heap.size, 0, none⟩) 1 1)).run Tryd.prog W' = .ok (.string (textOf [UInt8.ofNat z.toNat])) W' := by
  have h := run_convert_bytes_back (P := Tryd.prog) W' 69 9 5 ⟨W.heap.size, 0, none⟩ 1 [UInt8.ofNat z.toNat] Tryd.underlying69 Tryd.underlying5 Tryd.underlying9
  refine h ?_
  intro j hj
  obtain rfl : j = 0 := by simpa using hj
  refine cell_kept hb ?_
  have : ((UInt8.ofNat z.toNat).toNat : Int) = z := by
    rw [UInt8.toNat_ofNat_of_lt' (by simp [UInt8.size]; omega)]; omega
  simp only [List.getElem_cons_zero, this]; simp [Addr.add]

theorem dec_size (n : Int) (h0 : 0 ≤ n) (hn : n ≤ 9223372036854775807) : (textOf (Lib.decDigits n.toNat)).size ≤ 21 := by
  have h := Lib.itoa_length_le n (by omega) hn
  unfold Lib.itoa at h
  rw [if_neg (by omega)] at h
  exact h
theorem dig_facts (n : Int) (h0 : 0 ≤ n) (hn : n ≤ 9223372036854775807) (hg : 10 ≤ n) :
    IntKind.i64.wrap (n.tdiv 10) = n / 10 ∧ IntKind.i64.wrap (48 + n.tmod 10) = 48 + n % 10 ∧ IntKind.u8.wrap (48 + n % 10) = 48 + n % 10 := by
  have e1 : n.tdiv 10 = n / 10 := Int.tdiv_eq_ediv_of_nonneg h0
  have e2 : n.tmod 10 = n % 10 := Int.tmod_eq_emod_of_nonneg h0
  rw [e1, e2]
  refine ⟨IntWalk.i64_in _ (by omega), IntWalk.i64_in _ (by omega), ?_⟩
  simp [IntKind.wrap, IntKind.bits, IntKind.signed]
  omega

set_option maxHeartbeats 2000000 in
set_option maxRecDepth 100000 in
theorem digits_calls0 (N : Nat) : ∀ (n : Int), 0 ≤ n → n ≤ 9223372036854775807 → n < N → ∀ w : World,
    Calls Tryd.prog 34 #[.int .i64 n] w fun e w' => e = .returned (.string (textOf (Lib.decDigits n.toNat))) ∧ Below w.heap.size w w' := by
  induction N with
  | zero => intro n h0 _ hN; omega
  | succ N ih =>
    intro n h0 hn hN w
    rcases Int.lt_or_le n 10 with hlt | hge
    · have hlz : decide ((n : Int) < 10) = true := by simp; omega
      have hr1 : IntKind.i64.wrap (48 + n) = 48 + n := IntWalk.i64_in _ (by omega)
      have hr2 : IntKind.u8.wrap (48 + n) = 48 + n := by simp [IntKind.wrap, IntKind.bits, IntKind.signed]; omega
      have hcv := one_byte w _ (48 + n) (by omega) (by omega) (Below.refl _ _)
      have hd := Lib.hid (show Lib.decDigits n.toNat = [UInt8.ofNat (48 + n).toNat] by rw [Lib.decDigits_one (by omega)]; congr 2; omega)
      clear ih hN
      go_enter Tryd.func34, Tryd.ntmps34
      go_wp2_with fail
      go_ret
      exact ⟨ret_str (by rw [hd.out]), (Below.refl _ _).alloc (by omega) _⟩
    · have hlz : decide ((n : Int) < 10) = false := by simp; omega
      obtain ⟨hf1, hf2, hf3⟩ := dig_facts n h0 hn hge
      have IH := Lib.hid (fun w => ih (n / 10) (by omega) (by omega) (by omega) w)
      have hd := Lib.hid (show Lib.decDigits n.toNat = Lib.decDigits (n / 10).toNat ++ [UInt8.ofNat (48 + n % 10).toNat] by
        rw [Lib.decDigits, dif_neg (by omega)]; congr 2; omega; congr 1; omega)
      have hsz : (textOf (Lib.decDigits (n / 10).toNat)).size + (textOf [UInt8.ofNat (48 + n % 10).toNat]).size ≤ 9223372036854775807 := by
        have h1 := dec_size (n / 10) (by omega) (by omega)
        have h2 : (textOf [UInt8.ofNat (48 + n % 10).toNat]).size = 1 := rfl
        omega
      have hz0 : 0 ≤ 48 + n % 10 := by omega
      have hz1 : 48 + n % 10 ≤ 255 := by omega
      clear ih hN
      go_enter Tryd.func34, Tryd.ntmps34
      go_wp2_with fail
      go_region_with (first
        | (go_at_call 34; refine (IH.out _).mono ?_; rintro e w1 ⟨rfl, hb1⟩)
        | (rw [one_byte w _ (48 + n % 10) hz0 hz1 (by first | exact Below.refl _ _ | exact (Below.refl _ _).drew | exact hb1 | exact (Below.refl _ _).drew.trans hb1)]; simp only [Result.andThen]; rw [Oper.upon_value])
        | (rw [one_byte w1 _ (48 + n % 10) hz0 hz1 (by first | exact Below.refl _ _ | exact (Below.refl _ _).drew)]; simp only [Result.andThen]; rw [Oper.upon_value]))
      all_goals (go_wp2_with fail; go_ret)
      all_goals refine ⟨ret_str (by rw [hd.out, textOf_append]), ?_⟩
      · exact ((Below.refl _ w).drew.trans hb1).alloc hb1.size _
      all_goals exact below_of ((Below.refl _ w).alloc (Nat.le_refl _) _).drew (by simp) hb1

theorem digits_calls (n : Int) (h0 : 0 ≤ n) (hn : n ≤ 9223372036854775807) (w : World) :
    Calls Tryd.prog 34 #[.int .i64 n] w fun e w' => e = .returned (.string (textOf (Lib.decDigits n.toNat))) ∧ Below w.heap.size w w' :=
  digits_calls0 (n.toNat + 1) n h0 hn (by omega) w

set_option maxHeartbeats 2000000 in
set_option maxRecDepth 100000 in
theorem signed_calls (n : Int) (h0 : -9223372036854775807 ≤ n) (hn : n ≤ 9223372036854775807) (w : World) :
    Calls Tryd.prog 62 #[.int .i64 n] w fun e w' => e = .returned (.string (textOf (Lib.itoa n))) ∧ Below w.heap.size w w' := by
  rcases Int.lt_or_le n 0 with hlt | hge
  · have hlz : decide (n < 0) = true := by simp; omega
    have hng : IntKind.i64.wrap (-n) = -n := IntWalk.i64_in _ (by omega)
    have hc := Lib.hid (fun w => digits_calls (-n) (by omega) (by omega) w)
    have hsz : ByteArray.size ⟨#[45]⟩ + (textOf (Lib.decDigits (-n).toNat)).size ≤ 9223372036854775807 := by
      have h1 := dec_size (-n) (by omega) (by omega)
      have h2 : ByteArray.size ⟨#[45]⟩ = 1 := rfl
      omega
    have hd := Lib.hid (show Lib.itoa n = [45] ++ Lib.decDigits (-n).toNat by unfold Lib.itoa; rw [if_pos hlt]; simp; congr 1; omega)
    go_enter Tryd.func62, Tryd.ntmps62
    go_wp2_with fail
    refine (hc.out _).mono ?_
    rintro e w' ⟨rfl, hb⟩
    go_wp2_with fail
    go_ret
    exact ⟨ret_str (by rw [hd.out, ← textOf_append]; rfl), hb⟩
  · have hlz : decide (n < 0) = false := by simp; omega
    have hc := Lib.hid (fun w => digits_calls n (by omega) (by omega) w)
    have hd := Lib.hid (show Lib.itoa n = Lib.decDigits n.toNat by unfold Lib.itoa; rw [if_neg (by omega)])
    go_enter Tryd.func62, Tryd.ntmps62
    go_wp2_with fail
    refine (hc.out _).mono ?_
    rintro e w' ⟨rfl, hb⟩
    go_wp2_with fail
    go_ret
    exact ⟨ret_str (by rw [hd.out]), hb⟩

end Go.Proofs.YtnadmnhkfdkafaaDoor
