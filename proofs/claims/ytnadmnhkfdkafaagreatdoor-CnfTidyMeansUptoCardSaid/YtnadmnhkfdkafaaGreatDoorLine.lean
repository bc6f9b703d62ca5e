/- Contracts: the line of literals, the document's and the program's. -/
import Derived.Test.YtnadmnhkfdkafaaGreatDoorText
import Derived.Test.YtnadmnhkfdkafaaGreatDoorPlain2
import Derived.Test.YtnadmnhkfdkafaaGreatDoorBuild
import Derived.Test.YtnadmnhkfdkafaaGreatDoorLaid
import Derived.Lib.AppendIntMem
namespace Go.Proofs.YtnadmnhkfdkafaaGreatDoor
open Go.RowKit
set_option linter.unusedVariables false
set_option linter.unusedSimpArgs false

/-! ### plain -/
theorem lineB_take {xs : List Int} {k : Nat} {x : Int} (h : xs[k]? = some x) : lineB (xs.take (k + 1)) = lineB (xs.take k) ++ Lib.itoa x ++ [32] := by
  unfold lineB
  rw [List.take_add_one, h, List.flatMap_append]
  simp
theorem lineB_length : ∀ (xs : List Int), (∀ x ∈ xs, -1000000 ≤ x ∧ x ≤ 1000000) → (lineB xs).length ≤ 22 * xs.length
  | [], _ => by simp [lineB]
  | x :: xs, h => by
    have h1 := lineB_length xs (fun y hy => h y (List.mem_cons_of_mem _ hy))
    obtain ⟨h2, h3⟩ := h x List.mem_cons_self
    have h4 := Lib.itoa_length_le x (by omega) (by omega)
    unfold lineB at *
    rw [List.flatMap_cons]
    simp only [List.length_append, List.length_cons, List.length_nil] at *
    omega
def lineT (xs : List Int) : ByteArray := textOf (lineB xs ++ [48, 10])
theorem textOf_size (l : List UInt8) : (textOf l).size = l.length := rfl
theorem strCells_textOf (l : List UInt8) : Lib.strCells (textOf l) = Lib.byteCells l := by
  simp [Lib.strCells, Lib.byteCells, textOf]

/-! ### the library -/
def Tab (w : World) : Prop := Lib.TabIs Tryz.prog w "internal/strconv.uint64pow10" .u64 Lib.pow10Tab
theorem Tab.below {w w' : World} (h : Tab w) (hb : Below w.heap.size w w') : Tab w' := Lib.tabBelow_of_tabIs h w' hb
theorem itoa_calls (n : Int) (h0 : -9223372036854775808 ≤ n) (h1 : n ≤ 9223372036854775807) (w : World) (htab : Tab w) :
    Calls Tryz.prog 117 #[.int .i64 n] w fun e w' => e = .returned (.string (textOf (Lib.itoa n))) ∧ Below w.heap.size w w' := by
  have h : Calls Tryz.prog 117 #[.int .i64 n] w fun e w' => e = .returned (.string ⟨(Lib.itoa n).toArray⟩) ∧ ∃ k os, w' = Go.Sort.grow (w.drewN k) os := Any.strconv_Itoa Tryz.laysM171 n h0 h1 w htab
  refine h.mono ?_
  rintro e w' ⟨he, k, os, rfl⟩
  exact ⟨he, Lib.below_grow _ _ (Nat.le_refl _) _ _⟩
theorem bx_extra : Builder.Extra Tryz.prog Tryz.lays169_ren :=
  { sizeBuilder := by kernel_rfl, liesBuilder := by kernel_rfl, t5 := Tryz.underlying5, a5 := Tryz.isAgg5, z5 := Tryz.sizeOf5, v5 := Tryz.zeroValue5,
    infoByte := by kernel_rfl, cellsByte := by kernel_rfl, sizeByte := by kernel_rfl, neB5 := by decide }
theorem string_calls (B b : Nat) (l : List UInt8) (w : World) (h : Lib.IsBuilder 188 5 B b (Lib.byteCells l) w) (hBw : B ≤ w.heap.size) :
    Calls Tryz.prog 119 #[.pointer (some ⟨b, 0, none⟩)] w fun e w' => e = .returned (.string (textOf l)) ∧ Below B w w' := Any.Builder_String_any Tryz.lays169 bx_extra B b l w h hBw

abbrev IsB (w : World) (B b : Nat) (l : List UInt8) : Prop := Lib.IsBuilder 188 5 B b (Lib.byteCells l) w
theorem IsB.below {w w' : World} {B b : Nat} {l : List UInt8} (h : IsB w B b l) (hb : Below w.heap.size w w') : IsB w' B b l := by
  have key : ∀ p, Lib.BuilderAt 188 5 B b p (Lib.byteCells l) w → Lib.BuilderAt 188 5 B b p (Lib.byteCells l) w' := by
    intro p hp
    have hlt := hp.lt
    obtain ⟨h1, v, h2, h3, h4⟩ := hp
    exact ⟨h1, v, (hb.block b hlt).trans h2, own_below h3 hb, h4⟩
  exact h.imp (key _) (key _)
theorem IsB.fresh (w : World) : IsB (w.alloc (.cells #[.pointer none, .slice none 0 0] 188)) w.heap.size w.heap.size [] :=
  .inl ⟨Nat.le_refl _, .slice none 0 0, by show (w.heap.push _)[w.heap.size]? = _; simp, World.ownsRow_nil _ _ _ _, by simp [Value.ownBlock]⟩
theorem writeS (B b : Nat) (l s : List UInt8) (w : World) (h : IsB w B b l) (hlen : l.length + s.length ≤ 140737488355328) (hBw : B ≤ w.heap.size) :
    Calls Tryz.prog 116 #[.pointer (some ⟨b, 0, none⟩), .string (textOf s)] w fun e w' => e = .returned (.tuple #[.int .i64 (textOf s).size, .nilIface]) ∧ IsB w' B b (l ++ s) ∧ Below B w w' := by
  refine (writeString_calls B b _ (textOf s) w h (by simpa [Lib.byteCells, textOf_size] using hlen) hBw).mono ?_
  rintro e w' ⟨he, h1, h2⟩
  refine ⟨he, .inr ?_, h2⟩
  rw [strCells_textOf] at h1
  simpa [Lib.byteCells] using h1
theorem writeB (B b : Nat) (l : List UInt8) (c : UInt8) (w : World) (h : IsB w B b l) (hlen : l.length + 1 ≤ 140737488355328) (hBw : B ≤ w.heap.size) :
    Calls Tryz.prog 118 #[.pointer (some ⟨b, 0, none⟩), .int .u8 c.toNat] w fun e w' => e = .returned .nilIface ∧ IsB w' B b (l ++ [c]) ∧ Below B w w' := by
  refine (writeByte_calls B b _ c.toNat w h (by simpa [Lib.byteCells] using hlen) hBw).mono ?_
  rintro e w' ⟨he, h1, h2⟩
  refine ⟨he, .inr ?_, h2⟩
  simpa [Lib.byteCells] using h1

set_option maxHeartbeats 2000000 in
set_option maxRecDepth 100000 in
/-- the program's line -/
theorem line_calls (A : Option Addr) (c : Nat) (xs : List Int) (w : World) (hx : IntsAt w A xs) (hl : xs.length ≤ 2097152) (hbd : ∀ x ∈ xs, -1000000 ≤ x ∧ x ≤ 1000000) (htab : Tab w) :
    Calls Tryz.prog 73 #[.slice A xs.length c] w fun e w' => e = .returned (.string (lineT xs)) ∧ Below w.heap.size w w' := by
  have HX := Lib.hid hx
  have HD := Lib.hid hbd
  have HT := Lib.hid htab
  clear hx hbd htab
  go_enter Tryz.func73, Tryz.ntmps73
  go_wp2_with fail
  go_loopw [8] (fun i wr => ∃ k : Nat, k ≤ xs.length ∧ i = .int .i64 k ∧ Hid (Lib.IsBuilder 188 5 w.heap.size w.heap.size (Lib.byteCells (lineB (xs.take k))) wr) ∧ Hid (Below w.heap.size w wr)) (fun i _ => (xs.length - intOf i).toNat)
  case atStart => exact ⟨0, Nat.zero_le _, rfl, IsB.fresh w, (Below.refl _ w).alloc (Nat.le_refl _) _⟩
  case round =>
    obtain ⟨k, hk, rfl, hbu, hb⟩ := hrel
    obtain ⟨wo, rfl⟩ : ∃ wo : World, wo = wr := ⟨_, rfl⟩
    have hln : (lineB (xs.take k)).length ≤ 22 * k := by
      have h := lineB_length (xs.take k) (fun x hx => HD.out x (List.mem_of_mem_take hx))
      simp at h; omega
    by_cases hlt : k < xs.length
    · obtain ⟨ad, x, rfl, hcell, Hx⟩ := (HX.out.below hb.out).get hlt
      have Hst := Lib.hid (lineB_take Hx.out)
      obtain ⟨bx0, bx1⟩ := HD.out x (List.mem_of_getElem? Hx.out)
      have hit := Lib.itoa_length_le x (by omega) (by omega)
      have hlz : (k : Int) < xs.length := by omega
      go_wp2_with fail
      refine (itoa_calls x (by omega) (by omega) _ (HT.out.below hb.out)).mono ?_
      rintro e w1 ⟨rfl, hb1⟩
      go_wp2_with fail
      refine (writeS w.heap.size w.heap.size _ _ _ (IsB.below hbu.out hb1) (by omega) (Nat.le_trans hb.out.size hb1.size)).mono ?_
      rintro e w2 ⟨rfl, hbu2, hb2⟩
      have Hbu2 := Lib.hid hbu2
      have Hb2 := Lib.hid ((below_of hb.out hb.out.size hb1).trans hb2)
      clear hbu2 hb2 hb1
      go_wp2_with fail
      refine (writeB w.heap.size w.heap.size _ 32 _ Hbu2.out (by simp; omega) Hb2.out.size).mono ?_
      rintro e w3 ⟨rfl, hbu3, hb3⟩
      have Hbu3 := Lib.hid hbu3
      have Hb3 := Lib.hid (Hb2.out.trans hb3)
      clear hbu3 hb3
      go_wp2_with fail
      exact ⟨⟨k + 1, by omega, by go_num, by rw [Hst.out]; exact Hbu3.out, Hb3.out⟩, by simp [intOf]; omega⟩
    · have hkk := Lib.hid (show xs.take k = xs from List.take_of_length_le (by omega))
      have hs1 : (textOf (lineB (xs.take k))).size + ByteArray.size ⟨#[48, 10]⟩ ≤ 9223372036854775807 := by
        have : ByteArray.size ⟨#[48, 10]⟩ = 2 := rfl
        simp only [textOf_size]; omega
      go_wp2_with fail
      refine (string_calls w.heap.size w.heap.size _ _ hbu.out hb.out.size).mono ?_
      rintro e w1 ⟨rfl, hb1⟩
      have Hb1 := Lib.hid (hb.out.trans hb1)
      clear hb1
      go_wp2_with fail
      go_ret
      exact ⟨ret_str (by rw [hkk.out]; unfold lineT; rw [← textOf_append]; rfl), Hb1.out⟩

end Go.Proofs.YtnadmnhkfdkafaaGreatDoor
