/- Contracts: slices.SortFunc at a clause and at clauses of the call's own, slices.Compact. -/
import Derived.Test.YtnadmnhkfdkafaaGreatDoorSort
import Derived.Test.YtnadmnhkfdkafaaGreatDoorOwnC
namespace Go.Proofs.YtnadmnhkfdkafaaGreatDoor
open Go.RowKit Go.Sort Go.Lib
set_option linter.unusedVariables false
set_option linter.unusedSimpArgs false

theorem sortS_mem (xs : List Int) (z : Int) (h : z ∈ sortS xs) : z ∈ xs := (sortG_mem ltL_total xs z).1 h
theorem sortS_length (xs : List Int) : (sortS xs).length ≤ xs.length := sortG_length xs
/-! ### plain: a sorted list without its doubles -/
theorem compact_sorted {zs : List Int} (hs : zs.Pairwise fun a b => ltL b a = false) : Rises ltL (Lib.compact zs) ∧ ∀ z, z ∈ Lib.compact zs ↔ z ∈ zs := by
  have T := ltL_total
  have hget : ∀ i, i < zs.length → zs.toArray[i]! = zs.getD i 0 := fun i hi => by simp [getElem!_pos, hi]
  have hle : ∀ i j, i < j → j < zs.length → ltL (zs.getD j 0) (zs.getD i 0) = false := fun i j hij hj => by
    have := List.pairwise_iff_getElem.1 hs i j (by omega) hj hij
    simpa [List.getD_eq_getElem?_getD, List.getElem?_eq_getElem hj, List.getElem?_eq_getElem (show i < zs.length by omega)] using this
  have hor : ∀ i j, i < j → j < zs.length → zs.getD i 0 = zs.getD j 0 ∨ ltL (zs.getD i 0) (zs.getD j 0) = true := fun i j hij hj => by
    rcases Classical.em (zs.getD i 0 = zs.getD j 0) with e | e
    · exact .inl e
    · rcases T.tri _ _ e with h | h
      · exact .inr h
      · rw [hle i j hij hj] at h; cases h
  have key : ∀ m, m ≤ zs.length → Rises ltL (Lib.compactUpTo zs.toArray m) ∧ ∀ z, z ∈ Lib.compactUpTo zs.toArray m ↔ ∃ i, i < m ∧ zs.getD i 0 = z := by
    intro m
    induction m with
    | zero => intro _; exact ⟨by simp [Lib.compactUpTo, Rises], by simp [Lib.compactUpTo]⟩
    | succ m ih =>
      intro hm
      obtain ⟨h1, h2⟩ := ih (by omega)
      rw [Lib.compactUpTo_succ]
      by_cases hk : Lib.keeps zs.toArray m = true
      · rw [if_pos hk, hget m (by omega)]
        have hk2 : m = 0 ∨ zs.getD m 0 ≠ zs.getD (m - 1) 0 := by
          unfold Lib.keeps at hk
          rw [decide_eq_true_eq] at hk
          refine hk.imp id fun h => ?_
          rwa [hget m (by omega), hget (m - 1) (by omega)] at h
        have hlow : ∀ i, i < m → ltL (zs.getD i 0) (zs.getD m 0) = true := by
          intro i hi
          rcases hk2 with h0 | hne
          · omega
          · have hlast : ltL (zs.getD (m - 1) 0) (zs.getD m 0) = true := (hor (m - 1) m (by omega) (by omega)).resolve_left (fun e => hne e.symm)
            rcases Nat.lt_or_ge i (m - 1) with h | h
            · rcases hor i (m - 1) h (by omega) with e | e
              · rw [e]; exact hlast
              · exact T.tr _ _ _ e hlast
            · obtain rfl : i = m - 1 := by omega
              exact hlast
        refine ⟨?_, fun z => ?_⟩
        · unfold Rises at *
          rw [List.pairwise_append]
          refine ⟨h1, List.pairwise_singleton _ _, fun a ha b hb => ?_⟩
          obtain ⟨i, hi, rfl⟩ := (h2 a).1 ha
          rw [List.mem_singleton] at hb
          subst hb
          exact hlow i hi
        · rw [List.mem_append, h2, List.mem_singleton]
          constructor
          · rintro (⟨i, hi, e⟩ | e)
            · exact ⟨i, by omega, e⟩
            · exact ⟨m, by omega, e.symm⟩
          · rintro ⟨i, hi, e⟩
            rcases Nat.lt_or_ge i m with h | h
            · exact .inl ⟨i, h, e⟩
            · obtain rfl : i = m := by omega
              exact .inr e.symm
      · rw [if_neg hk, List.append_nil]
        have hk2 : 0 < m ∧ zs.getD m 0 = zs.getD (m - 1) 0 := by
          unfold Lib.keeps at hk
          rw [decide_eq_true_eq] at hk
          rw [not_or, Decidable.not_not] at hk
          have h := hk.2
          rw [hget m (by omega), hget (m - 1) (by omega)] at h
          exact ⟨by omega, h⟩
        refine ⟨h1, fun z => ?_⟩
        rw [h2]
        constructor
        · rintro ⟨i, hi, e⟩
          exact ⟨i, by omega, e⟩
        · rintro ⟨i, hi, e⟩
          rcases Nat.lt_or_ge i m with h | h
          · exact ⟨i, h, e⟩
          · obtain rfl : i = m := by omega
            exact ⟨i - 1, by omega, by rw [← hk2.2]; exact e⟩
  obtain ⟨h1, h2⟩ := key zs.length (Nat.le_refl _)
  refine ⟨h1, fun z => ?_⟩
  show z ∈ Lib.compactUpTo zs.toArray zs.length ↔ _
  rw [h2, List.mem_iff_getElem]
  constructor
  · rintro ⟨i, hi, e⟩
    exact ⟨i, hi, by rw [← e]; simp [List.getD_eq_getElem?_getD, List.getElem?_eq_getElem hi]⟩
  · rintro ⟨i, hi, e⟩
    exact ⟨i, hi, by rw [← e]; simp [List.getD_eq_getElem?_getD, List.getElem?_eq_getElem hi]⟩

/-! ### the worlds behind a sort -/
section
variable {α : Type} [Inhabited α] {enc : α → Value} {w : World} {B g e n cap q : Nat} {os : Array Obj} {zs ys : List α} {d : Array α}
theorem below_grow0 (w : World) (os : Array Obj) : RowKit.Below w.heap.size w (grow w os) := ⟨rfl, rfl, rfl, by simp, fun k hk => heap_grow_old w os hk⟩
theorem own_sortWorld (h : w.ownsRow B e 1 (.slice (some ⟨g, 0, none⟩) n cap) n (zs.map enc)) (hy : ys.length = n) :
    (sortWorld enc w g 0 q ys.toArray os).ownsRow B e 1 (.slice (some ⟨g, 0, none⟩) n cap) n (ys.map enc) := by
  have h1 := Lib.ownsRow_putRow (q := q) (k := n) h hy (Nat.le_refl _)
  rw [List.take_of_length_le (by omega)] at h1
  exact own_below h1 (below_grow0 _ _)
theorem grownBy_putRow : w.grownBy (putRow enc (Sort.ahead w q) g 0 d) (some g) := by
  refine ⟨rfl, rfl, rfl, by simp [putRow, mapBlock, Sort.ahead], fun k hk hne => ?_⟩
  have : g ≠ k := fun e => hne (by rw [e])
  simp [putRow, mapBlock, Sort.ahead, Array.getElem?_modify, this]
theorem grownBy_sortWorld : w.grownBy (sortWorld enc w g 0 q d os) (some g) := by
  refine ⟨rfl, rfl, rfl, by simp [sortWorld, putRow, mapBlock, Sort.ahead], fun k hk hne => ?_⟩
  unfold sortWorld
  rw [heap_grow_old _ _ (by simpa [putRow, mapBlock, Sort.ahead] using hk)]
  exact grownBy_putRow.block k hk hne
theorem perm_of {d d' : Array α} (h : PermIn 0 d.size d d') : d'.toList.Perm d.toList := by
  obtain ⟨h1, _, h3⟩ := h
  have e1 : d'.extract 0 d.size = d' := by rw [← h1]; simp
  have e2 : d.extract 0 d.size = d := by simp
  rwa [e1, e2] at h3
theorem pairwise_of {lt : α → α → Bool} {d d' : Array α} (hp : PermIn 0 d.size d d') (h : SortedIn lt 0 d.size d') : d'.toList.Pairwise fun a b => lt b a = false := by
  rw [List.pairwise_iff_getElem]
  intro i j hi hj hij
  have hi' : i < d'.size := by simpa using hi
  have hj' : j < d'.size := by simpa using hj
  have := h i j (Nat.zero_le _) hij (by rw [← hp.1]; exact hj')
  simpa [getElem!_pos, hi', hj'] using this
end

/-! ### a clause -/
abbrev BInt := {x : Int // -1000000 ≤ x ∧ x ≤ 1000000}
instance : Inhabited BInt := ⟨⟨0, by decide⟩⟩
def encB (x : BInt) : Value := .int .i64 x.1
def cfB (x y : BInt) : Int := rankL x.1 - rankL y.1
theorem cfB_lt (x y : BInt) : ltOf cfB x y = ltL x.1 y.1 := by unfold ltOf cfB ltL; rw [decide_eq_decide]; omega
theorem swoB : SWO (ltOf cfB) where
  irrefl x := by rw [cfB_lt]; exact ltL_total.irr _
  trans x y z h1 h2 := by rw [cfB_lt] at *; exact ltL_total.tr _ _ _ h1 h2
  ntrans x y z h1 h2 := by rw [cfB_lt] at *; exact (swo_of_total ltL_total).ntrans _ _ _ h1 h2
theorem exists_bints : ∀ (xs : List Int), (∀ x ∈ xs, -1000000 ≤ x ∧ x ≤ 1000000) → ∃ zs : List BInt, zs.map (·.1) = xs
  | [], _ => ⟨[], rfl⟩
  | x :: xs, h => by
    obtain ⟨zs, hz⟩ := exists_bints xs (fun y hy => h y (List.mem_cons_of_mem _ hy))
    exact ⟨⟨x, h x List.mem_cons_self⟩ :: zs, by simp [hz]⟩

theorem sortInts_calls (B g cap : Nat) (xs : List Int) (w : World) (hown : w.ownsRow B 3 1 (.slice (some ⟨g, 0, none⟩) xs.length cap) xs.length (xs.map (Value.int .i64)))
    (hbd : ∀ x ∈ xs, -1000000 ≤ x ∧ x ≤ 1000000) (hl : xs.length ≤ 1099511627776) :
    Calls Tryz.prog 70 #[.slice (some ⟨g, 0, none⟩) xs.length cap, .func (.func 71) #[] #[]] w fun e w' => e = .returned (.tuple #[]) ∧
      ∃ ys : List Int, ys.length = xs.length ∧ (∀ z, z ∈ ys ↔ z ∈ xs) ∧ (ys.Pairwise fun a b => ltL b a = false) ∧ w'.ownsRow B 3 1 (.slice (some ⟨g, 0, none⟩) xs.length cap) xs.length (ys.map (Value.int .i64)) ∧ w.grownBy w' (some g) := by
  obtain ⟨zs, rfl⟩ := exists_bints xs hbd
  have ho : w.ownsRow B 3 1 (.slice (some ⟨g, 0, none⟩) zs.length cap) zs.length (zs.map encB) := by
    have h := hown
    rw [List.map_map, List.length_map] at h
    exact h
  obtain ⟨g', cap', hv, hBg, hlt, hnc, hcm, hzl, hH⟩ := Lib.holds_of_ownsRow ho (by simp)
  injection hv with hv1 _ hv3
  injection hv1 with hv1
  injection hv1 with hv1
  subst hv1; subst hv3
  have eg : ∀ args w, (callFunc 71 args).run Tryz.prog w = .ok (.enter 71 args) w := enters_of Tryz.func71 (by kernel_rfl) rfl
  have hcmp : CmpLays1 Tryz.prog 71 #[] encB cfB g 0 zs.toArray.size w := fun m os dk hs x y =>
    (before_calls x.1 y.1 _ x.2.1 x.2.2 y.2.1 y.2.2).mono fun _ _ ⟨he, hw⟩ => ⟨he, 0, #[], by rw [grow_empty]; exact hw.symm⟩
  have hcon : Calls Tryz.prog 70 #[.slice (some ⟨g, 0, none⟩) zs.toArray.size cap, .func (.func 71) #[] #[]] w fun e w' =>
      e = .returned (.tuple #[]) ∧ ∃ d' n os, PermIn 0 zs.toArray.size zs.toArray d' ∧ SortedIn (ltOf cfB) 0 zs.toArray.size d' ∧ w' = sortWorld encB w g 0 n d' os :=
    Any.slices_SortFunc Tryz.sortInts encB (fun _ => rfl) cfB swoB 71 #[] g 0 cap zs.toArray w eg hcmp hH hlt (by simp at hl ⊢; omega)
  simp only [List.size_toArray, List.length_map] at hcon ⊢
  refine hcon.mono ?_
  rintro e w' ⟨he, d', m, os, hp, hs, rfl⟩
  have hpe := perm_of (d := zs.toArray) (by simpa using hp)
  have hpw := pairwise_of (d := zs.toArray) (by simpa using hp) (by simpa using hs)
  have hlen : d'.toList.length = zs.length := by simpa using hpe.length_eq
  refine ⟨he, d'.toList.map (·.1), by simpa using hlen, fun z => ?_, ?_, ?_, grownBy_sortWorld⟩
  · rw [List.mem_map, List.mem_map]
    exact ⟨fun ⟨a, ha, e⟩ => ⟨a, by simpa using hpe.mem_iff.1 ha, e⟩, fun ⟨a, ha, e⟩ => ⟨a, hpe.mem_iff.2 (by simpa using ha), e⟩⟩
  · rw [List.pairwise_map]
    exact hpw.imp fun {a b} h => by rw [cfB_lt] at h; exact h
  · have h := own_sortWorld (q := m) (os := os) (ys := d'.toList) ho hlen
    rw [List.map_map]
    rw [Array.toArray_toList] at h
    exact h

theorem compact_calls (B g cap : Nat) (xs : List Int) (w : World) (hown : w.ownsRow B 3 1 (.slice (some ⟨g, 0, none⟩) xs.length cap) xs.length (xs.map (Value.int .i64))) (hl : xs.length ≤ 1099511627776) :
    Calls Tryz.prog 72 #[.slice (some ⟨g, 0, none⟩) xs.length cap] w fun e w' => e = .returned (.slice (some ⟨g, 0, none⟩) (Lib.compact xs).length cap) ∧
      w'.ownsRow B 3 1 (.slice (some ⟨g, 0, none⟩) (Lib.compact xs).length cap) (Lib.compact xs).length ((Lib.compact xs).map (Value.int .i64)) ∧ w.grownBy w' (some g) := by
  obtain ⟨g', cap', hv, hBg, hlt, hnc, hcm, hzl, hH⟩ := Lib.holds_of_ownsRow hown (by simp)
  injection hv with hv1 _ hv3
  injection hv1 with hv1
  injection hv1 with hv1
  subst hv1; subst hv3
  have hcon : Calls Tryz.prog 72 #[.slice (some ⟨g, 0, none⟩) xs.length cap] w fun e w' => e = .returned (.slice (some ⟨g, 0, none⟩) (Lib.compact xs).length cap) ∧
      ∃ q, w' = putRow (Value.int .i64) (Sort.ahead w q) g 0 (Lib.compact xs ++ List.replicate (xs.length - (Lib.compact xs).length) 0).toArray :=
    Any.slices_Compact_int Tryz.laysNm220 g 0 cap xs w hH (by omega) hnc
  refine hcon.mono ?_
  rintro e w' ⟨he, q, rfl⟩
  have hcl := Lib.compact_length_le xs
  have h := Lib.ownsRow_putRow (q := q) (k := (Lib.compact xs).length) (ys := Lib.compact xs ++ List.replicate (xs.length - (Lib.compact xs).length) 0) hown (by simp; omega) hcl
  rw [List.take_left] at h
  exact ⟨he, h, grownBy_putRow⟩

/-! ### clauses -/
/-- the values of rows, no two in one block -/
def Apart (vs : List Value) : Prop := vs.Pairwise fun a b => a.ownBlock ≠ b.ownBlock
def RowOk (w : World) (B : Nat) (p : Value × List Int) : Prop := OwnI w B 3 p.1 p.2 ∧ (∀ x ∈ p.2, -1000000 ≤ x ∧ x ≤ 1000000) ∧ p.2.length ≤ 1099511627776
abbrev RowV (w : World) (B : Nat) := {p : Value × List Int // RowOk w B p}
instance (w : World) (B : Nat) : Inhabited (RowV w B) := ⟨⟨(.slice none 0 0, []), OwnI.nil _ _ _, by simp, by simp⟩⟩
def encR {w : World} {B : Nat} (x : RowV w B) : Value := x.1.1
def cfR {w : World} {B : Nat} (x y : RowV w B) : Int := cmpP x.1.2 y.1.2
theorem cfR_lt {w : World} {B : Nat} (x y : RowV w B) : ltOf cfR x y = ltC x.1.2 y.1.2 := cmpP_lt _ _
theorem swoR {w : World} {B : Nat} : SWO (ltOf (cfR (w := w) (B := B))) where
  irrefl x := by rw [cfR_lt]; exact ltC_total.irr _
  trans x y z h1 h2 := by rw [cfR_lt] at *; exact ltC_total.tr _ _ _ h1 h2
  ntrans x y z h1 h2 := by rw [cfR_lt] at *; exact (swo_of_total ltC_total).ntrans _ _ _ h1 h2
theorem OwnI.form {w : World} {B e : Nat} {v : Value} {xs : List Int} (h : OwnI w B e v xs) : ∃ A c, v = .slice A xs.length c ∧ IntsAt w A xs := by
  obtain ⟨A, c, e, _, _, h3⟩ := CellsAt.of_own h
  exact ⟨A, c, e, h3⟩
theorem exists_rows {w : World} {B : Nat} : ∀ {vs : List Value} {R : List (List Int)}, All2 (fun u l => OwnI w B 3 u l) vs R → (∀ l ∈ R, (∀ x ∈ l, -1000000 ≤ x ∧ x ≤ 1000000) ∧ l.length ≤ 1099511627776) →
    ∃ zs : List (RowV w B), zs.map encR = vs ∧ zs.map (fun z => z.1.2) = R
  | [], [], _, _ => ⟨[], rfl, rfl⟩
  | [], _ :: _, h, _ => by have := h.1; simp at this
  | _ :: _, [], h, _ => by have := h.1; simp at this
  | v :: vs, l :: R, h, hb => by
    have h1 : All2 (fun u l => OwnI w B 3 u l) vs R := ⟨by have := h.1; simpa using this, fun k x y hx hy => h.2 (k + 1) x y (by simpa using hx) (by simpa using hy)⟩
    obtain ⟨zs, e1, e2⟩ := exists_rows h1 (fun l hl => hb l (List.mem_cons_of_mem _ hl))
    obtain ⟨b1, b2⟩ := hb l List.mem_cons_self
    exact ⟨⟨(v, l), h.2 0 v l (by simp) (by simp), b1, b2⟩ :: zs, by simp [e1, encR], by simp [e2]⟩

theorem sortRows_calls (B g cap : Nat) (vs : List Value) (R : List (List Int)) (w : World) (hown : OwnC w B (.slice (some ⟨g, 0, none⟩) vs.length cap) vs R)
    (hbd : ∀ l ∈ R, (∀ x ∈ l, -1000000 ≤ x ∧ x ≤ 1000000) ∧ l.length ≤ 1099511627776) (hl : vs.length ≤ 1099511627776) :
    Calls Tryz.prog 74 #[.slice (some ⟨g, 0, none⟩) vs.length cap, .func (.func 75) #[] #[]] w fun e w' => e = .returned (.tuple #[]) ∧
      ∃ vs' R', vs'.length = vs.length ∧ OwnC w' B (.slice (some ⟨g, 0, none⟩) vs.length cap) vs' R' ∧ vs'.Perm vs ∧ (∀ z, z ∈ R' ↔ z ∈ R) ∧ R'.Perm R ∧ (R'.Pairwise fun a b => ltC b a = false) ∧ w.grownBy w' (some g) := by
  obtain ⟨zs, rfl, rfl⟩ := exists_rows hown.2 hbd
  have ho : w.ownsRow B 25 1 (.slice (some ⟨g, 0, none⟩) zs.length cap) zs.length (zs.map encR) := by
    have h := hown.1
    rw [List.length_map] at h
    exact h
  obtain ⟨g', cap', hv, hBg, hlt, hnc, hcm, hzl, hH⟩ := Lib.holds_of_ownsRow ho (by simp)
  injection hv with hv1 _ hv3
  injection hv1 with hv1
  injection hv1 with hv1
  subst hv1; subst hv3
  have eg : ∀ args w, (callFunc 75 args).run Tryz.prog w = .ok (.enter 75 args) w := enters_of Tryz.func75 (by kernel_rfl) rfl
  have hcmp : CmpLays1 Tryz.prog 75 #[] (encR (w := w) (B := B)) cfR g 0 zs.toArray.size w := fun m os dk hs x y => by
    have hg : w.grownBy (sortWorld encR w g 0 m dk os) (some g) := grownBy_sortWorld
    obtain ⟨⟨v1, l1⟩, hx1, hx2, hx3⟩ := x
    obtain ⟨⟨v2, l2⟩, hy1, hy2, hy3⟩ := y
    obtain ⟨A1, c1, e1, i1⟩ := OwnI.form (show OwnI (sortWorld encR w g 0 m dk os) B 3 v1 l1 from own_grown_row hx1 ho (by decide) hg)
    obtain ⟨A2, c2, e2, i2⟩ := OwnI.form (show OwnI (sortWorld encR w g 0 m dk os) B 3 v2 l2 from own_grown_row hy1 ho (by decide) hg)
    simp only at e1 e2 hx2 hx3 hy2 hy3
    subst e1; subst e2
    exact (tidyCmp_calls A1 A2 c1 c2 l1 l2 _ i1 i2 (by omega) (by omega) hx2 hy2).mono fun _ _ ⟨he, hw⟩ => ⟨he, 0, #[], by rw [grow_empty]; exact hw.symm⟩
  have hcon : Calls Tryz.prog 74 #[.slice (some ⟨g, 0, none⟩) zs.toArray.size cap, .func (.func 75) #[] #[]] w fun e w' =>
      e = .returned (.tuple #[]) ∧ ∃ d' n os, PermIn 0 zs.toArray.size zs.toArray d' ∧ SortedIn (ltOf cfR) 0 zs.toArray.size d' ∧ w' = sortWorld encR w g 0 n d' os :=
    Any.slices_SortFunc Tryz.sortRows encR (fun x => by obtain ⟨⟨v, l⟩, h, _⟩ := x; obtain ⟨A, c, e, _⟩ := OwnI.form h; simp only at e; subst e; rfl) cfR swoR 75 #[] g 0 cap zs.toArray w eg hcmp hH hlt (by simp at hl ⊢; omega)
  simp only [List.size_toArray, List.length_map] at hcon ⊢
  refine hcon.mono ?_
  rintro e w' ⟨he, d', m, os, hp, hs, rfl⟩
  have hpe := perm_of (d := zs.toArray) (by simpa using hp)
  have hpw := pairwise_of (d := zs.toArray) (by simpa using hp) (by simpa using hs)
  have hlen : d'.toList.length = zs.length := by simpa using hpe.length_eq
  have hg : w.grownBy (sortWorld encR w g 0 m d' os) (some g) := grownBy_sortWorld
  have hpe' : d'.toList.Perm zs := by simpa using hpe
  refine ⟨he, d'.toList.map encR, d'.toList.map (fun z => z.1.2), by simpa using hlen, ⟨?_, ?_⟩, hpe'.map _, fun z => (hpe'.map _).mem_iff, hpe'.map _, ?_, hg⟩
  · have h := own_sortWorld (q := m) (os := os) (ys := d'.toList) ho hlen
    rw [Array.toArray_toList] at h
    rw [List.length_map, hlen]
    exact h
  · refine ⟨by simp, fun k x y hx hy => ?_⟩
    rw [List.getElem?_map, Option.map_eq_some_iff] at hx hy
    obtain ⟨a, ha, rfl⟩ := hx
    obtain ⟨b, hb, rfl⟩ := hy
    rw [ha] at hb
    injection hb with hb
    subst hb
    exact own_grown_row a.2.1 ho (by decide) hg
  · rw [List.pairwise_map]
    exact hpw.imp fun {a b} h => by rw [cfR_lt] at h; exact h

end Go.Proofs.YtnadmnhkfdkafaaGreatDoor
