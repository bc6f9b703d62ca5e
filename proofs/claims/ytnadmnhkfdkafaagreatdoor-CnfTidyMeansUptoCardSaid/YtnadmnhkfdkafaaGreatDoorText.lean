/- Contracts: the document's Digits, Signed and line (the texts of numbers). -/
import Derived.Test.YtnadmnhkfdkafaaGreatDoorMem
import Derived.Test.YtnadmnhkfdkafaaGreatDoorProg
import Derived.Lib.ItoaNum
import Derived.Lib.ItoaMem
import Derived.Lib.ItoaLen
import Derived.Laws.IdiomStrings
import Derived.Deep.RegionWith
namespace Go.Proofs.YtnadmnhkfdkafaaGreatDoor
open Go.RowKit
set_option linter.unusedVariables false
set_option linter.unusedSimpArgs false

def textOf (l : List UInt8) : ByteArray := ⟨l.toArray⟩
theorem textOf_append (a b : List UInt8) : textOf a ++ textOf b = textOf (a ++ b) := by
  apply ByteArray.ext; simp [textOf]

theorem one_byte (W W' : World) (z : Int) (h0 : 0 ≤ z) (h1 : z ≤ 255) (hb : Below (W.alloc (.cells #[.int .u8 z] 5)).heap.size (W.alloc (.cells #[.int .u8 z] 5)) W') :
    (convert 186 9 (.slice (some ⟨W.heap.size, 0, none⟩) 1 1)).run Tryz.prog W' = .ok (.string (textOf [UInt8.ofNat z.toNat])) W' := by
  have h := run_convert_bytes_back (P := Tryz.prog) W' 186 9 5 ⟨W.heap.size, 0, none⟩ 1 [UInt8.ofNat z.toNat] Tryz.underlying186 Tryz.underlying5 Tryz.underlying9
  refine h ?_
  intro j hj
  obtain rfl : j = 0 := by simpa using hj
  refine cell_kept hb ?_
  have : ((UInt8.ofNat z.toNat).toNat : Int) = z := by
    rw [UInt8.toNat_ofNat_of_lt' (by simp [UInt8.size]; omega)]; omega
  simp only [List.getElem_cons_zero, this]; simp [Addr.add]

theorem dec_size (n : Int) (h0 : 0 ≤ n) (hn : n ≤ 9223372036854775807) : (textOf (Lib.decDigits n.toNat)).size ≤ 21 := by
  have h := Lib.itoa_length_le n (by omega) hn
  unfold Lib.itoa at h
  rw [if_neg (by omega)] at h
  exact h
theorem dig_facts (n : Int) (h0 : 0 ≤ n) (hn : n ≤ 9223372036854775807) (hg : 10 ≤ n) :
    IntKind.i64.wrap (n.tdiv 10) = n / 10 ∧ IntKind.i64.wrap (48 + n.tmod 10) = 48 + n % 10 ∧ IntKind.u8.wrap (48 + n % 10) = 48 + n % 10 := by
  have e1 : n.tdiv 10 = n / 10 := Int.tdiv_eq_ediv_of_nonneg h0
  have e2 : n.tmod 10 = n % 10 := Int.tmod_eq_emod_of_nonneg h0
  rw [e1, e2]
  refine ⟨IntWalk.i64_in _ (by omega), IntWalk.i64_in _ (by omega), ?_⟩
  simp [IntKind.wrap, IntKind.bits, IntKind.signed]
  omega

end Go.Proofs.YtnadmnhkfdkafaaGreatDoor
