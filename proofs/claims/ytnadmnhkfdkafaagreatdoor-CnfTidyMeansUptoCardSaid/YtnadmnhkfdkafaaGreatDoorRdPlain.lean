/- The words of a text and what they say: plain lists, no program in sight. -/
import Derived.Test.YtnadmnhkfdkafaaGreatDoorMem
import Derived.Lib.IndexAny
namespace Go.Proofs.YtnadmnhkfdkafaaGreatDoor
set_option linter.unusedVariables false
set_option linter.unusedSimpArgs false

def whiteB (b : UInt8) : Bool := b == 9 || b == 10 || b == 13 || b == 32
def eolB (b : UInt8) : Bool := b == 10 || b == 13
theorem eol_white {b : UInt8} (h : eolB b = true) : whiteB b = true := by
  unfold eolB at h; unfold whiteB; revert h; cases b == 10 <;> cases b == 13 <;> simp

/-! ### the first place of a kind -/
def scanL (p : UInt8 → Bool) : List UInt8 → Nat
  | [] => 0
  | b :: r => if p b then 0 else scanL p r + 1
def scan (p : UInt8 → Bool) (l : List UInt8) (i : Nat) : Nat := i + scanL p (l.drop i)
section
variable {p : UInt8 → Bool} {l : List UInt8} {i : Nat} {b : UInt8}
theorem scanL_le : ∀ (l : List UInt8), scanL p l ≤ l.length
  | [] => Nat.le_refl _
  | b :: r => by have := scanL_le r; unfold scanL; split <;> simp <;> omega
theorem scan_ge : i ≤ scan p l i := by unfold scan; omega
theorem scan_le (h : i ≤ l.length) : scan p l i ≤ l.length := by
  have := scanL_le (p := p) (l.drop i)
  rw [List.length_drop] at this
  unfold scan; omega
theorem scan_end (h : l.length ≤ i) : scan p l i = i := by
  unfold scan; rw [List.drop_of_length_le h]; rfl
theorem scan_hit (h : l[i]? = some b) (hb : p b = true) : scan p l i = i := by
  obtain ⟨hi, rfl⟩ := List.getElem?_eq_some_iff.1 h
  unfold scan; rw [List.drop_eq_getElem_cons hi, scanL, if_pos hb]; rfl
theorem scan_step (h : l[i]? = some b) (hb : p b = false) : scan p l i = scan p l (i + 1) := by
  obtain ⟨hi, rfl⟩ := List.getElem?_eq_some_iff.1 h
  unfold scan; rw [List.drop_eq_getElem_cons hi, scanL, if_neg (by rw [hb]; decide)]; omega
theorem scan_lt_of (h : l[i]? = some b) (hb : p b = false) : i < scan p l i := by
  rw [scan_step h hb]; exact scan_ge
end
theorem scanL_indexAny (cs : List UInt8) : ∀ (l : List UInt8), (if Lib.indexAny l cs < 0 then (l.length : Int) else Lib.indexAny l cs) = (scanL cs.contains l : Nat)
  | [] => by simp [Lib.indexAny, scanL]
  | b :: l => by
    have ih := scanL_indexAny cs l
    have hge := Lib.indexAny_ge cs l
    unfold scanL
    rw [Lib.indexAny]
    by_cases hb : cs.contains b = true
    · rw [if_pos hb, if_pos hb]; simp
    · rw [if_neg hb, if_neg hb]
      by_cases hm : Lib.indexAny l cs = -1
      · rw [hm] at ih ⊢
        simp at ih ⊢
        omega
      · have hm' : (Lib.indexAny l cs == -1) = false := by simpa using hm
        rw [hm']
        rw [if_neg (by omega)] at ih
        simp only [Bool.false_eq_true, if_false]
        rw [if_neg (by omega)]
        push_cast
        omega
theorem contains_white (b : UInt8) : [32, 9, 13, 10].contains b = whiteB b := by
  unfold whiteB; simp only [List.contains_cons, List.contains_nil]
  cases b == 9 <;> cases b == 10 <;> cases b == 13 <;> cases b == 32 <;> rfl
theorem contains_eol (b : UInt8) : [13, 10].contains b = eolB b := by
  unfold eolB; simp only [List.contains_cons, List.contains_nil]
  cases b == 10 <;> cases b == 13 <;> rfl

/-! ### words -/
/-- does a comment begin there? -/
def cmt (l : List UInt8) (i : Nat) : Bool := l[i]? == some 99 && (i == 0 || (match l[i - 1]? with | some b => eolB b | none => false))
/-- where the next word begins, or the end -/
def skip (l : List UInt8) (i : Nat) : Nat :=
  if h : i < l.length then
    if cmt l i then skip l (scan eolB l (i + 1)) else if whiteB l[i] then skip l (i + 1) else i
  else i
termination_by l.length - i
decreasing_by
  · have : i + 1 ≤ scan eolB l (i + 1) := scan_ge
    omega
  · omega
/-- the words from there on: where each begins and ends -/
def words (l : List UInt8) (i : Nat) : List (Nat × Nat) :=
  if h : i < l.length then
    if cmt l i then words l (scan eolB l (i + 1)) else if whiteB l[i] then words l (i + 1) else (i, scan whiteB l (i + 1)) :: words l (scan whiteB l (i + 1))
  else []
termination_by l.length - i
decreasing_by
  · have : i + 1 ≤ scan eolB l (i + 1) := scan_ge
    omega
  · omega
  · have : i + 1 ≤ scan whiteB l (i + 1) := scan_ge
    omega
section
variable {l : List UInt8} {i : Nat} {b : UInt8}
theorem skip_end (h : l.length ≤ i) : skip l i = i := by rw [skip, dif_neg (by omega)]
theorem skip_cmt (h : i < l.length) (hc : cmt l i = true) : skip l i = skip l (scan eolB l (i + 1)) := by rw [skip, dif_pos h, if_pos hc]
theorem skip_white (h : l[i]? = some b) (hc : cmt l i = false) (hw : whiteB b = true) : skip l i = skip l (i + 1) := by
  obtain ⟨hi, rfl⟩ := List.getElem?_eq_some_iff.1 h
  rw [skip, dif_pos hi, if_neg (by rw [hc]; decide), if_pos hw]
theorem skip_word (h : l[i]? = some b) (hc : cmt l i = false) (hw : whiteB b = false) : skip l i = i := by
  obtain ⟨hi, rfl⟩ := List.getElem?_eq_some_iff.1 h
  rw [skip, dif_pos hi, if_neg (by rw [hc]; decide), if_neg (by rw [hw]; decide)]
theorem words_end (h : l.length ≤ i) : words l i = [] := by rw [words, dif_neg (by omega)]
theorem words_cmt (h : i < l.length) (hc : cmt l i = true) : words l i = words l (scan eolB l (i + 1)) := by rw [words, dif_pos h, if_pos hc]
theorem words_white (h : l[i]? = some b) (hc : cmt l i = false) (hw : whiteB b = true) : words l i = words l (i + 1) := by
  obtain ⟨hi, rfl⟩ := List.getElem?_eq_some_iff.1 h
  rw [words, dif_pos hi, if_neg (by rw [hc]; decide), if_pos hw]
theorem words_word (h : l[i]? = some b) (hc : cmt l i = false) (hw : whiteB b = false) : words l i = (i, scan whiteB l (i + 1)) :: words l (scan whiteB l (i + 1)) := by
  obtain ⟨hi, rfl⟩ := List.getElem?_eq_some_iff.1 h
  rw [words, dif_pos hi, if_neg (by rw [hc]; decide), if_neg (by rw [hw]; decide)]
theorem cmt_c (h : cmt l i = true) : l[i]? = some 99 := by
  unfold cmt at h; simp only [Bool.and_eq_true, beq_iff_eq] at h; exact h.1
theorem cmt_scan (h : cmt l i = true) : scan eolB l i = scan eolB l (i + 1) := scan_step (cmt_c h) (by decide)
end
/-- what 'next' does, seen from the words -/
theorem words_skip (l : List UInt8) (i : Nat) (hi : i ≤ l.length) :
    i ≤ skip l i ∧ skip l i ≤ l.length ∧
    words l i = if skip l i < l.length then (skip l i, scan whiteB l (skip l i)) :: words l (scan whiteB l (skip l i)) else [] := by
  by_cases h : i < l.length
  · have hb := List.getElem?_eq_getElem h
    cases hc : cmt l i with
    | true =>
      have hs : i + 1 ≤ scan eolB l (i + 1) := scan_ge
      have ih := words_skip l (scan eolB l (i + 1)) (scan_le (by omega))
      rw [skip_cmt h hc, words_cmt h hc]
      exact ⟨by omega, ih.2⟩
    | false =>
      cases hw : whiteB l[i] with
      | true =>
        have ih := words_skip l (i + 1) (by omega)
        rw [skip_white hb hc hw, words_white hb hc hw]
        exact ⟨by omega, ih.2⟩
      | false =>
        rw [skip_word hb hc hw, words_word hb hc hw, if_pos h, scan_step hb hw]
        exact ⟨Nat.le_refl _, by omega, rfl⟩
  · rw [skip_end (by omega), words_end (by omega), if_neg (by omega)]
    exact ⟨Nat.le_refl _, hi, rfl⟩
termination_by l.length - i
decreasing_by all_goals omega

/-- each word is there, in its order, and holds a byte -/
theorem words_mem (l : List UInt8) (i : Nat) : ∀ q ∈ words l i, i ≤ q.1 ∧ q.1 < q.2 ∧ q.2 ≤ l.length := by
  by_cases h : i < l.length
  · have hb := List.getElem?_eq_getElem h
    cases hc : cmt l i with
    | true =>
      have hs : i + 1 ≤ scan eolB l (i + 1) := scan_ge
      have ih := words_mem l (scan eolB l (i + 1))
      rw [words_cmt h hc]
      exact fun q hq => ⟨by have := (ih q hq).1; omega, (ih q hq).2⟩
    | false =>
      cases hw : whiteB l[i] with
      | true =>
        have ih := words_mem l (i + 1)
        rw [words_white hb hc hw]
        exact fun q hq => ⟨by have := (ih q hq).1; omega, (ih q hq).2⟩
      | false =>
        have hs : i + 1 ≤ scan whiteB l (i + 1) := scan_ge
        have hl : scan whiteB l (i + 1) ≤ l.length := scan_le (by omega)
        have ih := words_mem l (scan whiteB l (i + 1))
        rw [words_word hb hc hw]
        intro q hq
        rw [List.mem_cons] at hq
        rcases hq with rfl | hq
        · exact ⟨Nat.le_refl _, by show i < scan whiteB l (i + 1); omega, hl⟩
        · exact ⟨by have := (ih q hq).1; omega, (ih q hq).2⟩
  · rw [words_end (by omega)]
    exact fun q hq => by cases hq
termination_by l.length - i
decreasing_by all_goals omega
theorem words_length (l : List UInt8) (i : Nat) : (words l i).length ≤ l.length - i := by
  by_cases h : i < l.length
  · have hb := List.getElem?_eq_getElem h
    cases hc : cmt l i with
    | true =>
      have hs : i + 1 ≤ scan eolB l (i + 1) := scan_ge
      have ih := words_length l (scan eolB l (i + 1))
      rw [words_cmt h hc]; omega
    | false =>
      cases hw : whiteB l[i] with
      | true =>
        have ih := words_length l (i + 1)
        rw [words_white hb hc hw]; omega
      | false =>
        have hs : i + 1 ≤ scan whiteB l (i + 1) := scan_ge
        have ih := words_length l (scan whiteB l (i + 1))
        rw [words_word hb hc hw, List.length_cons]; omega
  · rw [words_end (by omega)]; simp
termination_by l.length - i
decreasing_by all_goals omega

/-- a word's bytes -/
def wt (l : List UInt8) (q : Nat × Nat) : List UInt8 := (l.take q.2).drop q.1

/-! ### numbers -/
def digB (b : UInt8) : Bool := 48 ≤ b && b ≤ 57
def isNum (l : List UInt8) : Bool := !l.isEmpty && !(l.head? == some 48 && decide (1 < l.length)) && l.all digB
def valN (l : List UInt8) : Nat := l.foldl (fun n b => n * 10 + (b.toNat - 48)) 0
/-- the number, if it is at most lid; else -1 -/
def valI (l : List UInt8) (lid : Int) : Int := if isNum l && decide ((valN l : Int) ≤ lid) then valN l else -1
def posI (v : Int) : Int := if v ≤ 0 then 0 else v
def litI (l : List UInt8) (n : Int) : Int := if l.head? = some 45 then - posI (valI (l.drop 1) n) else posI (valI l n)

/-! ### literals up to 0, clauses -/
/-- the words 'tx' from number i on: a clause and the number behind its 0, or the number of the word that cannot stand -/
def litsL (n : Int) : List (List UInt8) → Nat → Nat ⊕ (List Int × Nat)
  | [], i => .inl i
  | t :: r, i => if t = [48] then .inr ([], i + 1) else if litI t n = 0 then .inl i else
    match litsL n r (i + 1) with
    | .inl j => .inl j
    | .inr (l, j) => .inr (litI t n :: l, j)
def manyL (n : Int) (tx : List (List UInt8)) : Nat → Nat → Nat ⊕ (List (List Int) × Nat)
  | 0, i => .inr ([], i)
  | c + 1, i => match litsL n (tx.drop i) i with
    | .inl j => .inl j
    | .inr (l, j) => match manyL n tx c j with
      | .inl j' => .inl j'
      | .inr (ls, j') => .inr (l :: ls, j')
theorem litsL_bd (n : Int) : ∀ (r : List (List UInt8)) (i : Nat), (∀ j, litsL n r i = .inl j → i ≤ j ∧ j ≤ i + r.length) ∧ (∀ l j, litsL n r i = .inr (l, j) → i + l.length + 1 = j ∧ j ≤ i + r.length)
  | [], i => by simp [litsL]
  | t :: r, i => by
    have ih := litsL_bd n r (i + 1)
    rw [litsL]
    split
    · simp <;> omega
    · split
      · simp <;> omega
      · split
        · rename_i j hj
          have := ih.1 j hj
          simp <;> omega
        · rename_i l j hj
          have := ih.2 l j hj
          simp <;> omega
theorem manyL_bd (n : Int) (tx : List (List UInt8)) : ∀ (c i : Nat), i ≤ tx.length → (∀ j, manyL n tx c i = .inl j → i ≤ j ∧ j ≤ tx.length) ∧ (∀ l j, manyL n tx c i = .inr (l, j) → i + c ≤ j ∧ j ≤ tx.length ∧ l.length = c)
  | 0, i, h => by simp [manyL] <;> omega
  | c + 1, i, h => by
    have hl := litsL_bd n (tx.drop i) i
    rw [List.length_drop] at hl
    rw [manyL]
    split
    · rename_i j hj
      have := hl.1 j hj
      simp <;> omega
    · rename_i l j hj
      have h1 := hl.2 l j hj
      have ih := manyL_bd n tx c j (by omega)
      split
      · rename_i j' hj'
        have := ih.1 j' hj'
        simp <;> omega
      · rename_i ls j' hj'
        have := ih.2 ls j' hj'
        simp <;> omega
/-- more clauses than words: whatever the count, the same place -/
theorem manyL_over (n : Int) (tx : List (List UInt8)) : ∀ (c i : Nat) (j : Nat), manyL n tx c i = .inl j → ∀ c', c ≤ c' → manyL n tx c' i = .inl j
  | 0, i, j, h => by simp [manyL] at h
  | c + 1, i, j, h => by
    intro c' hc
    obtain ⟨c', rfl⟩ : ∃ m, c' = m + 1 := ⟨c' - 1, by omega⟩
    rw [manyL] at h ⊢
    split at h
    · exact h
    · rename_i l k hk
      split at h
      · rename_i j' hj'
        rw [manyL_over n tx c k j' hj' c' (by omega)]
        exact h
      · cases h
theorem manyL_much (n : Int) (tx : List (List UInt8)) (c i : Nat) (hi : i ≤ tx.length) (h : tx.length < i + c) : ∃ j, manyL n tx c i = .inl j := by
  cases hm : manyL n tx c i with
  | inl j => exact ⟨j, rfl⟩
  | inr p =>
    obtain ⟨l, j⟩ := p
    have := (manyL_bd n tx c i hi).2 l j hm
    omega
/-- how many clauses are taken: no more than can be told from one another -/
def cap (l : List UInt8) (lid : Nat) : Nat := if valI l lid < 0 then lid + 1 else valN l

/-- what a text's words say: the number of the word that cannot stand, or variables, clauses, tops -/
def readT (tx : List (List UInt8)) : Nat ⊕ (Int × List (List Int) × List Int) :=
  if tx[0]? = some [112] then
    if tx[1]? = some [99, 110, 102] then
      if 0 ≤ valI (tx.getD 2 []) 1000000 then
        if isNum (tx.getD 3 []) then
          match manyL (valI (tx.getD 2 []) 1000000) tx (cap (tx.getD 3 []) tx.length) 4 with
          | .inl j => .inl j
          | .inr (cs, i) =>
            if tx[i]? = some [97] then
              match litsL (valI (tx.getD 2 []) 1000000) (tx.drop (i + 1)) (i + 1) with
              | .inl j => .inl j
              | .inr (ts, i2) => if i2 < tx.length then .inl i2 else .inr (valI (tx.getD 2 []) 1000000, cs, ts)
            else if i < tx.length then .inl i else .inr (valI (tx.getD 2 []) 1000000, cs, [])
        else .inl 3
      else .inl 2
    else .inl 1
  else .inl 0

end Go.Proofs.YtnadmnhkfdkafaaGreatDoor
