/- Rows of rows of the call's own; the two element types. -/
import Derived.Test.YtnadmnhkfdkafaaGreatDoorProg
import Derived.Test.YtnadmnhkfdkafaaGreatDoorBlk
namespace Go.Proofs.YtnadmnhkfdkafaaGreatDoor
open Go.RowKit
set_option linter.unusedVariables false
set_option linter.unusedSimpArgs false

theorem info_int : (Tryz.prog.info? 3).map (fun i => (i.zero, i.size, i.bytes)) = some (some (.int .i64 0), 1, 8) := by kernel_rfl
theorem info_ints : (Tryz.prog.info? 25).map (fun i => (i.zero, i.size, i.bytes)) = some (some (.slice none 0 0), 1, 24) := by kernel_rfl

/-- Clauses on the way: the row of rows, each row of the call's own. -/
def OwnC (w : World) (B : Nat) (v : Value) (vs : List Value) (R : List (List Int)) : Prop :=
  w.ownsRow B 25 1 v vs.length vs ∧ All2 (fun u l => OwnI w B 3 u l) vs R
theorem OwnC.below {w w' : World} {B : Nat} {v : Value} {vs : List Value} {R : List (List Int)} (h : OwnC w B v vs R) (hb : Below w.heap.size w w') : OwnC w' B v vs R :=
  ⟨own_below h.1 hb, h.2.imp fun _ _ _ _ h => h.below hb⟩
theorem OwnC.rows {w : World} {B : Nat} {v : Value} {vs : List Value} {R : List (List Int)} (h : OwnC w B v vs R) : IsRows w v R := IsRows.of_own h.1 (h.2.imp fun _ _ _ _ h => h.ints)

theorem OwnC.set_blk {w : World} {B g t : Nat} {v : Value} {vs : List Value} {R : List (List Int)} {cs : Array Value} (h : OwnC w B v vs R) (hb : Blk w g t cs) (h1 : 25 ≠ t) (h2 : 3 ≠ t) (i : Nat) (u : Value) :
    OwnC (w.setCell ⟨g, i, none⟩ u) B v vs R := ⟨own_setCell_blk h.1 hb h1 i u, h.2.imp fun _ _ _ _ h => own_setCell_blk h hb h2 i u⟩

def ApartN (vs : List Value) : Prop := vs.Pairwise fun a b => a.ownBlock = none ∨ a.ownBlock ≠ b.ownBlock
end Go.Proofs.YtnadmnhkfdkafaaGreatDoor
