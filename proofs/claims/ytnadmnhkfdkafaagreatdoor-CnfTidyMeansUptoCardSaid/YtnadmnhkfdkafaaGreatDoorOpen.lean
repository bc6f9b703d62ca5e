/- The argument of the row, opened: what a Cnf reads as, and the bounds that its bulk gives. -/
import Derived.Test.YtnadmnhkfdkafaaGreatDoorMem
import Derived.Test.YtnadmnhkfdkafaaGreatDoorProg
import Derived.Test.YtnadmnhkfdkafaaGreatDoorRows
import Derived.Deep.Strs
import Derived.Deep.Matrix
import Derived.Lib.SmallJoins
import Derived.ChangeSlices
namespace Go.Proofs.YtnadmnhkfdkafaaGreatDoor
open Go.RowKit Go.ChangeShapes Go.WideShapes Go.Deep Go.Joins
set_option linter.unusedVariables false
set_option linter.unusedSimpArgs false

/-- the rows that lie behind what 'open_int_rows' tells -/
def rowOf (L : Nat → Nat) (Z : Nat → List Int) (r : Nat) : List Int := (Z r).take (L r)
theorem rows_read {W : World} {a : Addr} {len cap : Nat} {A : Nat → Option Addr} {L C : Nat → Nat} {Z : Nat → List Int} (hlc : len ≤ cap)
    (h : ∀ r, r < cap → W.cell? (a.add r) = some (.slice (A r) (L r) (C r)) ∧ L r ≤ C r ∧ C r ≤ maxLen ∧ (Z r).length = C r ∧ (∀ n ∈ Z r, (Lit.int .i64 n).wf = true) ∧ (A r = none → C r = 0) ∧
      ∀ a', A r = some a' → 0 ≤ a'.block ∧ ∀ c, c < C r → W.cell? (a'.add c) = some (.int .i64 ((Z r).getD c 0))) :
    RowsAt W (some a) ((List.range len).map (rowOf L Z)) := by
  refine ⟨(List.range len).map fun r => .slice (A r) (L r) (C r), .inr ⟨a, rfl, fun j u hu => ?_⟩, by simp, fun k x y hx hy => ?_⟩
  · rw [List.getElem?_map, Option.map_eq_some_iff] at hu
    obtain ⟨r, hr, rfl⟩ := hu
    have hj : j < len := by have := (List.getElem?_eq_some_iff.1 hr).1; simpa using this
    rw [List.getElem?_range hj] at hr
    injection hr with hr
    subst hr
    exact (h j (by omega)).1
  · rw [List.getElem?_map, Option.map_eq_some_iff] at hx hy
    obtain ⟨r, hr, rfl⟩ := hx
    obtain ⟨r', hr', rfl⟩ := hy
    rw [hr] at hr'
    injection hr' with hr'
    subst hr'
    have hk : k < len := by have := (List.getElem?_eq_some_iff.1 hr).1; simpa using this
    rw [List.getElem?_range hk] at hr
    injection hr with hr
    subst hr
    obtain ⟨_, h1, h2, h3, _, h5, h6⟩ := h k (by omega)
    have hrl : (rowOf L Z k).length = L k := by unfold rowOf; rw [List.length_take, h3]; omega
    refine ⟨A k, C k, by rw [hrl], by rw [hrl]; exact h1, by simpa [maxLen] using h2, ?_⟩
    cases hA : A k with
    | none =>
      have hc := h5 hA
      exact .inl (by have : (rowOf L Z k).length = 0 := by rw [hrl]; omega
                     rw [List.eq_nil_of_length_eq_zero this]; rfl)
    | some a' =>
      refine .inr ⟨a', rfl, fun j u hu => ?_⟩
      rw [List.getElem?_map, Option.map_eq_some_iff] at hu
      obtain ⟨z, hz, rfl⟩ := hu
      have hj : j < L k := by have := (List.getElem?_eq_some_iff.1 hz).1; rw [hrl] at this; exact this
      rw [(h6 a' hA).2 j (by omega)]
      unfold rowOf at hz
      rw [List.getElem?_take, if_pos hj] at hz
      rw [List.getD_eq_getElem?_getD, hz]; rfl

/-! ### the bulk -/
theorem bulk_pos {H : Type} (d : DataW H) : 1 ≤ Rows.uptoBulk d := by
  cases d with
  | lit l => cases l <;> simp [Rows.uptoBulk]
  | _ => simp [Rows.uptoBulk]
theorem bulkAll_length {H : Type} : ∀ (l : List (DataW H)), l.length ≤ Rows.uptoBulkAll l
  | [] => by simp [Rows.uptoBulkAll]
  | d :: r => by have := bulkAll_length r; have := bulk_pos d; simp [Rows.uptoBulkAll]; omega
theorem bulk_mem {H : Type} {d : DataW H} : ∀ {l : List (DataW H)}, d ∈ l → Rows.uptoBulk d ≤ Rows.uptoBulkAll l
  | [], h => by simp at h
  | e :: r, h => by
    rw [List.mem_cons] at h
    rcases h with rfl | h
    · simp [Rows.uptoBulkAll]
    · have := bulk_mem h; simp [Rows.uptoBulkAll]; omega

theorem lits_length {H : Type} (k : IntKind) (zs : List Int) : (lits k zs : List (DataW H)).length = zs.length := by simp [lits]

set_option maxRecDepth 100000 in
/-- what a Cnf reads as -/
theorem open_cnf {H : Type} {enc : TypeId × Value → H} {W : World} {r : Reach} {b0 : Nat} {v : Value} {d : DataW H} {p : List MemPlace} (hv : Value.okWide Tryz.prog W r b0 54 v) (h : DataW.Trod enc Tryz.prog W 0 (fun _ => true) true 54 v d p)
    (hb : Rows.uptoBulk d ≤ 1048576) :
    ∃ (n : Int) (A : Option Addr) (c : Nat) (xss : List (List Int)) (At : Option Addr) (ct : Nat) (ts : List Int), v = .agg #[.int .i64 n, .slice A xss.length c, .slice At ts.length ct] ∧ RowsAt W A xss ∧ IntsAt W At ts ∧
      xss.length ≤ c ∧ xss.length ≤ 1048576 ∧ ts.length ≤ 1048576 ∧ ∀ l ∈ xss, l.length ≤ 1048576 := by
  obtain ⟨v0, v1, v2, y0, y1, y2, n, rfl, rfl, _, h0, h1, h2⟩ := open_agg3 (f0 := _) (f1 := _) (f2 := _) Tryz.underlying54 (by kernel_rfl) (by kernel_rfl) hv h
  have hT : ∃ At ct, ∃ ts : List Int, v2 = .slice At ts.length ct ∧ IntsAt W At ts ∧ ts.length ≤ 1048576 := by
    rcases open_ints Tryz.underlying25 Tryz.underlying3 (by kernel_rfl) h2 with ⟨e, _⟩ | ⟨a, len, cap, zs, e, _, hlc, _, hzl, hx, hc, _⟩
    · injection e with e _
      exact ⟨none, 0, [], e, .inl rfl, by simp⟩
    · injection e with e _
      have hzl' : zs.length = cap := by simpa using hzl
      have htl : (zs.take len).length = len := by rw [List.length_take]; omega
      refine ⟨some a, cap, zs.take len, by rw [htl]; exact e, .inr ⟨a, rfl, fun j u hu => ?_⟩, ?_⟩
      · rw [List.getElem?_map, Option.map_eq_some_iff] at hu
        obtain ⟨z, hz, rfl⟩ := hu
        have hj : j < len := by have := (List.getElem?_eq_some_iff.1 hz).1; rw [htl] at this; exact this
        rw [hc j (by omega)]
        rw [List.getElem?_take, if_pos hj] at hz
        rw [List.getD_eq_getElem?_getD, hz]; rfl
      · have h3 := bulk_mem (l := [y0.1, y1.1, y2.1]) (d := y2.1) (by simp)
        rw [hx] at h3
        have h4 := bulkAll_length (lits (H := H) .i64 (zs.take len))
        rw [lits_length] at h4
        simp only [Rows.uptoBulk] at h3 hb
        simp only [hx] at hb
        omega
  have hR : ∃ A c, ∃ xss : List (List Int), v1 = .slice A xss.length c ∧ RowsAt W A xss ∧ xss.length ≤ c ∧ xss.length ≤ 1048576 ∧ ∀ l ∈ xss, l.length ≤ 1048576 := by
    rcases open_int_rows Tryz.underlying29 Tryz.underlying25 Tryz.underlying3 (by kernel_rfl) (by kernel_rfl) h1 with ⟨e, _⟩ | ⟨a, len, cap, A, L, C, Z, e, _, hlc, hcm, hx, hr⟩
    · injection e with e _
      exact ⟨none, 0, [], e, ⟨[], CellsAt.nil _ _, All2.nil _⟩, by simp, by simp, by simp⟩
    · injection e with e _
      have h3 := bulk_mem (l := [y0.1, y1.1, y2.1]) (d := y1.1) (by simp)
      simp only [Rows.uptoBulk] at hb
      have h4 : Rows.uptoBulk y1.1 ≤ 1048576 := by omega
      rw [hx] at h4
      simp only [Rows.uptoBulk] at h4
      refine ⟨some a, cap, (List.range len).map (rowOf L Z), by simpa using e, rows_read hlc hr, by simpa using hlc, ?_, ?_⟩
      · have h5 := bulkAll_length ((List.range len).map fun r => (intRow .i64 (A r) (L r) (Z r) : DataW H))
        simp at h5 ⊢
        omega
      · intro l hl
        rw [List.mem_map] at hl
        obtain ⟨r, hr', rfl⟩ := hl
        have hrl : r < len := by simpa using hr'
        obtain ⟨_, g1, _, g3, _, g5, _⟩ := hr r (by omega)
        have hll : (rowOf L Z r).length = L r := by unfold rowOf; rw [List.length_take]; omega
        rw [hll]
        cases hA : A r with
        | none => have := g5 hA; omega
        | some a' =>
          have h6 := bulk_mem (l := (List.range len).map fun r => (intRow .i64 (A r) (L r) (Z r) : DataW H)) (List.mem_map.2 ⟨r, hr', rfl⟩)
          generalize Rows.uptoBulkAll ((List.range len).map fun r => (intRow .i64 (A r) (L r) (Z r) : DataW H)) = S at h4 h6
          simp only [intRow, hA, Rows.uptoBulk] at h6
          have h7 := bulkAll_length (lits (H := H) .i64 ((Z r).take (L r)))
          rw [lits_length] at h7
          have h8 : ((Z r).take (L r)).length = L r := hll
          omega
  obtain ⟨z, e, _, _⟩ := DataW.trod_int Tryz.underlying3 h0
  injection e with e _
  subst e
  obtain ⟨At, ct, ts, rfl, t1, t2⟩ := hT
  obtain ⟨A, c, xss, rfl, r1, r2, r3, r4⟩ := hR
  exact ⟨z, A, c, xss, At, ct, ts, rfl, r1, t1, r2, r3, t2, r4⟩

end Go.Proofs.YtnadmnhkfdkafaaGreatDoor
