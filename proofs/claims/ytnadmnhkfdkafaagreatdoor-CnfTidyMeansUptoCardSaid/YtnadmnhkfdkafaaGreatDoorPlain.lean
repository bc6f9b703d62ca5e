/- Plain law: insertion into a strictly rising list; two such lists with the same members are one. -/
namespace Go.Proofs.YtnadmnhkfdkafaaGreatDoor
set_option linter.unusedVariables false
set_option linter.unusedSimpArgs false
set_option linter.unusedSectionVars false

/-- a strict order in which any two different things can be told -/
structure Total {α : Type} (lt : α → α → Bool) : Prop where
  irr : ∀ x, lt x x = false
  tr : ∀ x y z, lt x y = true → lt y z = true → lt x z = true
  tri : ∀ x y, x ≠ y → lt x y = true ∨ lt y x = true

section
variable {α : Type} [Inhabited α] [DecidableEq α] (lt : α → α → Bool)

/-- where x goes, the places from k on being looked at already -/
def posG (x : α) (m : List α) : Nat → Nat
  | 0 => 0
  | k + 1 => if lt x (m.getD k default) then posG x m k else k + 1
def insG (x : α) (m : List α) : List α :=
  let k := posG lt x m m.length
  if 0 < k ∧ m.getD (k - 1) default = x then m else m.take k ++ x :: m.drop k
def Rises (m : List α) : Prop := m.Pairwise fun a b => lt a b = true

variable {lt}
theorem posG_le (x : α) (m : List α) : ∀ k, posG lt x m k ≤ k
  | 0 => Nat.le_refl _
  | k + 1 => by unfold posG; split; exact Nat.le_succ_of_le (posG_le x m k); exact Nat.le_refl _
theorem posG_step {x y : α} {m : List α} {p : Nat} (h : m[p]? = some y) : posG lt x m (p + 1) = if lt x y then posG lt x m p else p + 1 := by
  rw [posG, List.getD_eq_getElem?_getD, h]; rfl
theorem posG_above (x : α) (m : List α) : ∀ k i, posG lt x m k ≤ i → i < k → lt x (m.getD i default) = true
  | 0, i, _, h => by omega
  | k + 1, i, h, hi => by
    unfold posG at h
    split at h
    · rename_i hlt
      rcases Nat.lt_or_ge i k with h1 | h1
      · exact posG_above x m k i h h1
      · obtain rfl : i = k := by omega
        exact hlt
    · omega
theorem posG_at (x : α) (m : List α) : ∀ k, 0 < posG lt x m k → lt x (m.getD (posG lt x m k - 1) default) = false
  | 0, h => by simp [posG] at h
  | k + 1, h => by
    unfold posG at h ⊢
    split
    · rename_i hlt
      rw [if_pos hlt] at h
      exact posG_at x m k h
    · rename_i hlt
      simpa using hlt
theorem insG_length (x : α) (m : List α) : (insG lt x m).length ≤ m.length + 1 := by
  unfold insG; simp only; split <;> simp; omega
theorem insG_mem (x : α) (m : List α) (z : α) : z ∈ insG lt x m ↔ z = x ∨ z ∈ m := by
  unfold insG
  simp only
  split
  · rename_i h
    refine ⟨.inr, fun h' => h'.elim (fun e => ?_) id⟩
    subst e
    have hk := posG_le (lt := lt) z m m.length
    rw [← h.2, List.getD_eq_getElem?_getD, List.getElem?_eq_getElem (by omega)]
    exact List.getElem_mem _
  · conv => rhs; rw [← List.take_append_drop (posG lt x m m.length) m]
    simp only [List.mem_append, List.mem_cons]
    constructor
    · rintro (h | h | h)
      · exact .inr (.inl h)
      · exact .inl h
      · exact .inr (.inr h)
    · rintro (h | h | h)
      · exact .inr (.inl h)
      · exact .inl h
      · exact .inr (.inr h)
theorem getD_of {m : List α} {i : Nat} (h : i < m.length) : m.getD i default = m[i] := by rw [List.getD_eq_getElem?_getD, List.getElem?_eq_getElem h]; rfl
theorem insG_rises (T : Total lt) (x : α) (m : List α) (hm : Rises lt m) : Rises lt (insG lt x m) := by
  unfold insG
  simp only
  split
  · exact hm
  · rename_i h
    have hk := posG_le (lt := lt) x m m.length
    have hab := posG_above (lt := lt) x m m.length
    have hat := posG_at (lt := lt) x m m.length
    generalize posG lt x m m.length = k at h hk hab hat
    unfold Rises at hm ⊢
    have hlow : ∀ a ∈ m.take k, lt a x = true := by
      intro a ha
      obtain ⟨i, hi, rfl⟩ := List.mem_take_iff_getElem.1 ha
      have hik : i < k := by omega
      have h0 : 0 < k := by omega
      have hx := hat h0
      rw [getD_of (by omega)] at hx
      have hne : m[k - 1] ≠ x := fun e => h ⟨h0, by rw [getD_of (by omega)]; exact e⟩
      have hlast : lt m[k - 1] x = true := by
        rcases T.tri _ _ hne with h1 | h1
        · exact h1
        · rw [hx] at h1; cases h1
      rcases Nat.lt_or_ge i (k - 1) with h1 | h1
      · exact T.tr _ _ _ (List.pairwise_iff_getElem.1 hm i (k - 1) (by omega) (by omega) h1) hlast
      · obtain rfl : i = k - 1 := by omega
        exact hlast
    have hhigh : ∀ b ∈ m.drop k, lt x b = true := by
      intro b hb
      obtain ⟨i, hi, rfl⟩ := List.mem_drop_iff_getElem.1 hb
      have := hab (k + i) (by omega) (by omega)
      rwa [getD_of (by omega)] at this
    rw [List.pairwise_append]
    refine ⟨hm.sublist (List.take_sublist _ _), ?_, ?_⟩
    · rw [List.pairwise_cons]
      exact ⟨hhigh, hm.sublist (List.drop_sublist _ _)⟩
    · intro a ha b hb
      rw [List.mem_cons] at hb
      rcases hb with rfl | hb
      · exact hlow a ha
      · exact T.tr _ _ _ (hlow a ha) (hhigh b hb)
omit [Inhabited α] [DecidableEq α] in
theorem rises_unique (T : Total lt) : ∀ {m m' : List α}, Rises lt m → Rises lt m' → (∀ z, z ∈ m ↔ z ∈ m') → m = m'
  | [], [], _, _, _ => rfl
  | [], b :: m', _, _, h => by have := (h b).2 List.mem_cons_self; simp at this
  | a :: m, [], _, _, h => by have := (h a).1 List.mem_cons_self; simp at this
  | a :: m, b :: m', hm, hm', h => by
    unfold Rises at hm hm'
    rw [List.pairwise_cons] at hm hm'
    have hab : a = b := by
      rcases Classical.em (a = b) with h1 | h1
      · exact h1
      · have h2 := (h a).1 List.mem_cons_self
        have h3 := (h b).2 List.mem_cons_self
        rw [List.mem_cons] at h2 h3
        have h4 := hm'.1 a (h2.resolve_left h1)
        have h5 := hm.1 b (h3.resolve_left (fun e => h1 e.symm))
        have := T.tr _ _ _ h4 h5
        rw [T.irr] at this; cases this
    subst hab
    congr 1
    refine rises_unique T hm.2 hm'.2 fun z => ?_
    have hz := h z
    rw [List.mem_cons, List.mem_cons] at hz
    constructor
    · intro hzm
      rcases hz.1 (.inr hzm) with e | h1
      · subst e
        have := hm.1 z hzm
        rw [T.irr] at this; cases this
      · exact h1
    · intro hzm
      rcases hz.2 (.inr hzm) with e | h1
      · subst e
        have := hm'.1 z hzm
        rw [T.irr] at this; cases this
      · exact h1

/-- what is put in one by one -/
def sortG (lt : α → α → Bool) (xs : List α) : List α := xs.foldl (fun m x => insG lt x m) []
theorem foldG (T : Total lt) (xs : List α) : ∀ m : List α, Rises lt m → Rises lt (xs.foldl (fun m x => insG lt x m) m) ∧ (∀ z, z ∈ xs.foldl (fun m x => insG lt x m) m ↔ z ∈ m ∨ z ∈ xs) := by
  induction xs with
  | nil => intro m hm; exact ⟨hm, fun z => by simp⟩
  | cons x xs ih =>
    intro m hm
    obtain ⟨h1, h2⟩ := ih (insG lt x m) (insG_rises T x m hm)
    refine ⟨h1, fun z => ?_⟩
    rw [List.foldl_cons, h2, insG_mem, List.mem_cons]
    constructor
    · rintro ((h | h) | h)
      · exact .inr (.inl h)
      · exact .inl h
      · exact .inr (.inr h)
    · rintro (h | h | h)
      · exact .inl (.inr h)
      · exact .inl (.inl h)
      · exact .inr h
theorem sortG_rises (T : Total lt) (xs : List α) : Rises lt (sortG lt xs) := (foldG T xs [] List.Pairwise.nil).1
theorem sortG_mem (T : Total lt) (xs : List α) (z : α) : z ∈ sortG lt xs ↔ z ∈ xs := by
  have := (foldG T xs [] List.Pairwise.nil).2 z
  simpa [sortG] using this
theorem foldG_length (xs : List α) : ∀ m : List α, (xs.foldl (fun m x => insG lt x m) m).length ≤ m.length + xs.length := by
  induction xs with
  | nil => intro m; simp
  | cons x xs ih =>
    intro m
    have h1 := ih (insG lt x m)
    have := insG_length (lt := lt) x m
    simp only [List.foldl_cons, List.length_cons]; omega
theorem sortG_length (xs : List α) : (sortG lt xs).length ≤ xs.length := by have := foldG_length (lt := lt) xs []; unfold sortG; simpa using this
theorem sortG_take {xs : List α} {k : Nat} {x : α} (h : xs[k]? = some x) : sortG lt (xs.take (k + 1)) = insG lt x (sortG lt (xs.take k)) := by
  rw [List.take_add_one, h]; simp [sortG, List.foldl_append]
end

/-! ### the order of literals, of clauses -/
def rankL (x : Int) : Int := if x < 0 then -2 * x + 1 else 2 * x
theorem rankL_bd (x : Int) (h0 : -1000000 ≤ x) (h1 : x ≤ 1000000) : 0 ≤ rankL x ∧ rankL x ≤ 2000001 := by unfold rankL; split <;> omega
theorem rankL_inj (x y : Int) (h : rankL x = rankL y) : x = y := by unfold rankL at h; split at h <;> split at h <;> omega
def ltL (x y : Int) : Bool := decide (rankL x < rankL y)
theorem ltL_total : Total ltL where
  irr x := by simp [ltL]
  tr x y z h1 h2 := by simp only [ltL, decide_eq_true_eq] at *; omega
  tri x y h := by
    simp only [ltL, decide_eq_true_eq]
    have : rankL x ≠ rankL y := fun e => h (rankL_inj x y e)
    omega
/-- clauses in their order: below 0, 0, above 0 -/
def cmpC : List Int → List Int → Int
  | x :: xs, y :: ys => if x = y then cmpC xs ys else if ltL x y then -1 else 1
  | [], ys => -(ys.length : Int)
  | xs, [] => (xs.length : Int)
theorem cmpC_nil_right (xs : List Int) : cmpC xs [] = xs.length := by cases xs <;> simp [cmpC]
def ltC (a b : List Int) : Bool := decide (cmpC a b < 0)
theorem cmpC_zero : ∀ a b, cmpC a b = 0 ↔ a = b
  | [], [] => by simp [cmpC]
  | [], b :: bs => by simp [cmpC]; omega
  | a :: as', [] => by simp [cmpC]; omega
  | a :: as', b :: bs => by
    unfold cmpC
    split
    · rename_i h; subst h; rw [cmpC_zero]; simp
    · rename_i h
      split <;> simp [h]
theorem cmpC_anti : ∀ a b, (cmpC a b < 0 ↔ 0 < cmpC b a)
  | [], [] => by simp [cmpC]
  | [], b :: bs => by simp [cmpC]
  | a :: as', [] => by simp [cmpC]; try omega
  | a :: as', b :: bs => by
    unfold cmpC
    by_cases h : a = b
    · subst h; simp only [if_true]; exact cmpC_anti as' bs
    · rw [if_neg h, if_neg (show ¬ b = a from fun e => h e.symm)]
      rcases ltL_total.tri a b h with h1 | h1
      · have h2 : ltL b a = false := by
          rcases hba : ltL b a
          · rfl
          · have := ltL_total.tr _ _ _ h1 hba; rw [ltL_total.irr] at this; cases this
        simp [h1, h2]
      · have h2 : ltL a b = false := by
          rcases hba : ltL a b
          · rfl
          · have := ltL_total.tr _ _ _ h1 hba; rw [ltL_total.irr] at this; cases this
        simp [h1, h2]
theorem cmpC_trans : ∀ a b c, cmpC a b < 0 → cmpC b c < 0 → cmpC a c < 0
  | [], [], c, h, _ => by simp [cmpC] at h
  | [], b :: bs, [], _, h => by simp [cmpC] at h; omega
  | [], b :: bs, c :: cs, _, _ => by simp [cmpC]; try omega
  | a :: as', [], c, h, _ => by simp [cmpC] at h; omega
  | a :: as', b :: bs, [], _, h => by simp [cmpC] at h; omega
  | a :: as', b :: bs, c :: cs, h1, h2 => by
    unfold cmpC at h1 h2 ⊢
    by_cases hab : a = b
    · subst hab
      rw [if_pos rfl] at h1
      by_cases hac : a = c
      · subst hac
        rw [if_pos rfl] at h2 ⊢
        exact cmpC_trans as' bs cs h1 h2
      · rw [if_neg hac] at h2 ⊢
        exact h2
    · rw [if_neg hab] at h1
      have hl : ltL a b = true := by
        rcases hl : ltL a b
        · rw [hl] at h1; simp at h1
        · rfl
      by_cases hbc : b = c
      · subst hbc
        rw [if_neg hab, hl]; simp
      · rw [if_neg hbc] at h2
        have hl2 : ltL b c = true := by
          rcases hl2 : ltL b c
          · rw [hl2] at h2; simp at h2
          · rfl
        have hl3 := ltL_total.tr _ _ _ hl hl2
        have hac : a ≠ c := by rintro rfl; rw [ltL_total.irr] at hl3; cases hl3
        rw [if_neg hac, hl3]; simp
theorem ltC_total : Total ltC where
  irr x := by simp [ltC, (cmpC_zero x x).2 rfl]
  tr x y z h1 h2 := by simp only [ltC, decide_eq_true_eq] at *; exact cmpC_trans x y z h1 h2
  tri x y h := by
    simp only [ltC, decide_eq_true_eq]
    have h0 : cmpC x y ≠ 0 := fun e => h ((cmpC_zero x y).1 e)
    have := cmpC_anti y x
    omega

/-! ### tidy clauses -/
def clashAt (xs : List Int) (i : Nat) : Bool := match xs[i]?, xs[i + 1]? with | some a, some b => decide (b = -a) | _, _ => false
def taut (xs : List Int) : Bool := (List.range (xs.length - 1)).any (clashAt xs)
theorem taut_true {xs : List Int} {i : Nat} {a b : Int} (ha : xs[i]? = some a) (hb : xs[i + 1]? = some b) (h : b = -a) : taut xs = true := by
  have hi : i + 1 < xs.length := (List.getElem?_eq_some_iff.1 hb).1
  unfold taut
  rw [List.any_eq_true]
  exact ⟨i, by simp; omega, by simp [clashAt, ha, hb, h]⟩
theorem taut_false {xs : List Int} (h : ∀ i a b, xs[i]? = some a → xs[i + 1]? = some b → b ≠ -a) : taut xs = false := by
  unfold taut
  rw [List.any_eq_false]
  intro i _
  unfold clashAt
  split
  · rename_i a b ha hb
    simpa using h i a b ha hb
  · simp

abbrev sortS (xs : List Int) : List Int := sortG ltL xs
def addC (R : List (List Int)) (l : List Int) : List (List Int) := if taut (sortS l) then R else insG ltC (sortS l) R
def tidyR (xss : List (List Int)) : List (List Int) := xss.foldl addC []
theorem tidyR_take {xss : List (List Int)} {k : Nat} {l : List Int} (h : xss[k]? = some l) : tidyR (xss.take (k + 1)) = addC (tidyR (xss.take k)) l := by
  rw [List.take_add_one, h]; simp [tidyR, List.foldl_append]
theorem foldC (xss : List (List Int)) : ∀ R, Rises ltC R → Rises ltC (xss.foldl addC R) ∧ (∀ z, z ∈ xss.foldl addC R ↔ z ∈ R ∨ ∃ l ∈ xss, taut (sortS l) = false ∧ z = sortS l) ∧ (xss.foldl addC R).length ≤ R.length + xss.length := by
  induction xss with
  | nil => intro R h; exact ⟨h, fun z => by simp, by simp⟩
  | cons l xss ih =>
    intro R h
    have hl : Rises ltC (addC R l) := by unfold addC; split; exact h; exact insG_rises ltC_total _ _ h
    obtain ⟨h1, h2, h3⟩ := ih (addC R l) hl
    refine ⟨h1, fun z => ?_, ?_⟩
    · rw [List.foldl_cons, h2]
      by_cases ht : taut (sortS l) = true
      · have he : addC R l = R := by unfold addC; rw [if_pos ht]
        rw [he]
        constructor
        · rintro (h | ⟨l', hl', ht', rfl⟩)
          · exact .inl h
          · exact .inr ⟨l', List.mem_cons_of_mem _ hl', ht', rfl⟩
        · rintro (h | ⟨l', hl', ht', rfl⟩)
          · exact .inl h
          · rcases List.mem_cons.1 hl' with rfl | hl'
            · rw [ht] at ht'; cases ht'
            · exact .inr ⟨l', hl', ht', rfl⟩
      · have ht2 : taut (sortS l) = false := by simpa using ht
        have he : addC R l = insG ltC (sortS l) R := by unfold addC; rw [if_neg ht]
        rw [he, insG_mem]
        constructor
        · rintro ((rfl | h) | ⟨l', hl', ht', rfl⟩)
          · exact .inr ⟨l, List.mem_cons_self, ht2, rfl⟩
          · exact .inl h
          · exact .inr ⟨l', List.mem_cons_of_mem _ hl', ht', rfl⟩
        · rintro (h | ⟨l', hl', ht', rfl⟩)
          · exact .inl (.inr h)
          · rcases List.mem_cons.1 hl' with rfl | hl'
            · exact .inl (.inl rfl)
            · exact .inr ⟨l', hl', ht', rfl⟩
    · have : (addC R l).length ≤ R.length + 1 := by unfold addC; split; exact Nat.le_succ _; exact insG_length _ _
      simp only [List.foldl_cons, List.length_cons]; omega
theorem tidyR_rises (xss : List (List Int)) : Rises ltC (tidyR xss) := (foldC xss [] List.Pairwise.nil).1
theorem tidyR_mem (xss : List (List Int)) (z : List Int) : z ∈ tidyR xss ↔ ∃ l ∈ xss, taut (sortS l) = false ∧ z = sortS l := by
  have := (foldC xss [] List.Pairwise.nil).2.1 z
  simpa [tidyR] using this
theorem tidyR_length (xss : List (List Int)) : (tidyR xss).length ≤ xss.length := by have := (foldC xss [] List.Pairwise.nil).2.2; unfold tidyR; simpa using this

end Go.Proofs.YtnadmnhkfdkafaaGreatDoor
