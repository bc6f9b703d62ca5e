/- Contract: cnf.Show. -/
import Derived.Test.YtnadmnhkfdkafaaGreatDoorLine
import Derived.Test.YtnadmnhkfdkafaaGreatDoorReadB
import Derived.Test.YtnadmnhkfdkafaaGreatDoorBlk
import Derived.Deep.RegionWith
import Derived.Deep.CutRange
namespace Go.Proofs.YtnadmnhkfdkafaaGreatDoor
open Go.RowKit
set_option linter.unusedVariables false
set_option linter.unusedSimpArgs false

theorem Below.lower_ {B B' : Nat} {w w' : World} (h : Below B w w') (hB : B' ≤ B) : Below B' w w' := ⟨h.os, h.tape, h.output, h.size, fun k hk => h.block k (Nat.lt_of_lt_of_le hk hB)⟩
theorem Blk.belowB {w w' : World} {B g t : Nat} {cs : Array Value} (h : Blk w g t cs) (hb : Below B w w') (hg : g < B) : Blk w' g t cs := (hb.block g hg).trans h
theorem IsB.lt {w : World} {B b : Nat} {l : List UInt8} (h : IsB w B b l) : b < w.heap.size := h.elim (fun h => h.lt) (fun h => h.lt)

def headB (n m : Int) : List UInt8 := [112, 32, 99, 110, 102, 32] ++ Lib.itoa n ++ [32] ++ Lib.itoa m ++ [10]
def rowsB (xss : List (List Int)) : List UInt8 := xss.flatMap fun l => lineB l ++ [48, 10]
def tailB (ts : List Int) : List UInt8 := if ts.length = 0 then [] else [97, 32] ++ (lineB ts ++ [48, 10])
def showB (n : Int) (xss : List (List Int)) (ts : List Int) : List UInt8 := headB n xss.length ++ rowsB xss ++ tailB ts
theorem rowsB_take {xss : List (List Int)} {k : Nat} {l : List Int} (h : xss[k]? = some l) : rowsB (xss.take (k + 1)) = rowsB (xss.take k) ++ (lineB l ++ [48, 10]) := by
  unfold rowsB
  rw [List.take_add_one, h, List.flatMap_append]
  simp
theorem rowsB_length : ∀ (xss : List (List Int)), (∀ l ∈ xss, l.length ≤ 1048576 ∧ ∀ x ∈ l, -1000000 ≤ x ∧ x ≤ 1000000) → (rowsB xss).length ≤ 23068674 * xss.length
  | [], _ => by simp [rowsB]
  | l :: xss, h => by
    have h1 := rowsB_length xss (fun y hy => h y (List.mem_cons_of_mem _ hy))
    obtain ⟨h2, h3⟩ := h l List.mem_cons_self
    have h4 := lineB_length l h3
    unfold rowsB at *
    rw [List.flatMap_cons]
    simp only [List.length_append, List.length_cons, List.length_nil] at *
    omega
theorem headB_length (n m : Int) (h0 : -1000000 ≤ n) (h1 : n ≤ 1000000) (h2 : 0 ≤ m) (h3 : m ≤ 9223372036854775807) : (headB n m).length ≤ 60 := by
  have h4 := Lib.itoa_length_le n (by omega) (by omega)
  have h5 := Lib.itoa_length_le m (by omega) (by omega)
  unfold headB; simp only [List.length_append, List.length_cons, List.length_nil]; omega
theorem tailB_length (ts : List Int) (hl : ts.length ≤ 1048576) (h : ∀ x ∈ ts, -1000000 ≤ x ∧ x ≤ 1000000) : (tailB ts).length ≤ 23068676 := by
  have := lineB_length ts h
  unfold tailB; split <;> simp only [List.length_append, List.length_cons, List.length_nil] <;> omega

theorem okCnf_parts {n : Int} {xss : List (List Int)} {ts : List Int} (h : okCnf ⟨n, xss, ts⟩ = true) :
    (0 ≤ n ∧ n ≤ 1000000) ∧ (∀ l ∈ xss, ∀ x ∈ l, -1000000 ≤ x ∧ x ≤ 1000000) ∧ ∀ x ∈ ts, -1000000 ≤ x ∧ x ≤ 1000000 := by
  simp only [okCnf, Bool.and_eq_true, okVars, decide_eq_true_eq] at h
  obtain ⟨⟨hv, ht⟩, hr⟩ := h
  refine ⟨hv, ?_, ?_⟩
  · simp only [okRows, List.all_eq_true, okLit, decide_eq_true_eq] at hr
    intro l hl x hx
    have := hr l hl x hx
    simp at this
    omega
  · simp only [List.all_eq_true, okLit, decide_eq_true_eq] at ht
    intro x hx
    have := ht x hx
    simp at this
    omega

end Go.Proofs.YtnadmnhkfdkafaaGreatDoor
