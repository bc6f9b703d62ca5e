/- Plain laws: tidy clauses say the same, twice is once, order and doubles play no part; the words of one text. No program in sight. -/
import Derived.Test.YtnadmnhkfdkafaaGreatDoorPlain2
import Derived.Test.YtnadmnhkfdkafaaGreatDoorRdPlain
import Derived.Test.YtnadmnhkfdkafaaGreatDoorReadB
import Derived.Test.YtnadmnhkfdkafaaGreatDoorRdClause
import Derived.KernelRfl
namespace Go.Proofs.YtnadmnhkfdkafaaGreatDoor
set_option linter.unusedVariables false
set_option linter.unusedSimpArgs false

def truthB (val : List Bool) (x : Int) : Bool := if 0 < x ∧ x ≤ val.length then val.getD (x - 1).toNat false else if x < 0 ∧ -x ≤ val.length then !(val.getD (-x - 1).toNat false) else false
def clauseB (val : List Bool) (l : List Int) : Bool := l.any (truthB val)
def allB (val : List Bool) (xss : List (List Int)) : Bool := xss.all (clauseB val)

theorem truth_opp {val : List Bool} {x : Int} (h0 : x ≠ 0) (h1 : x ≤ val.length) (h2 : -x ≤ val.length) : truthB val x = true ∨ truthB val (-x) = true := by
  unfold truthB
  by_cases hx : 0 < x
  · rw [if_pos ⟨hx, h1⟩, if_neg (by omega), if_pos (by omega), Int.neg_neg]
    cases val.getD (x - 1).toNat false <;> simp
  · rw [if_neg (by omega), if_pos (by omega), if_pos (by omega)]
    cases val.getD (-x - 1).toNat false <;> simp
theorem sortS_memb (xs : List Int) (z : Int) : z ∈ sortS xs ↔ z ∈ xs := sortG_mem ltL_total xs z
theorem sortS_ext {xs ys : List Int} (h : ∀ z, z ∈ xs ↔ z ∈ ys) : sortS xs = sortS ys :=
  rises_unique ltL_total (sortG_rises ltL_total xs) (sortG_rises ltL_total ys) (fun z => (sortS_memb xs z).trans ((h z).trans (sortS_memb ys z).symm))
theorem sortS_sortS (xs : List Int) : sortS (sortS xs) = sortS xs := sortS_ext (sortS_memb xs)
theorem tidyR_ext {xs ys : List (List Int)} (h : ∀ z, (∃ l ∈ xs, taut (sortS l) = false ∧ z = sortS l) ↔ (∃ l ∈ ys, taut (sortS l) = false ∧ z = sortS l)) : tidyR xs = tidyR ys :=
  rises_unique ltC_total (tidyR_rises xs) (tidyR_rises ys) (fun z => by rw [tidyR_mem, tidyR_mem]; exact h z)
theorem tidyR_twice (xs : List (List Int)) : tidyR (tidyR xs) = tidyR xs := by
  refine tidyR_ext fun z => ⟨fun ⟨l, hl, ht, hz⟩ => ?_, fun ⟨l, hl, ht, hz⟩ => ?_⟩
  · obtain ⟨l', hl', ht', rfl⟩ := (tidyR_mem xs l).1 hl
    rw [sortS_sortS] at ht hz
    exact ⟨l', hl', ht, hz⟩
  · exact ⟨sortS l, (tidyR_mem xs _).2 ⟨l, hl, ht, rfl⟩, by rw [sortS_sortS]; exact ht, by rw [sortS_sortS]; exact hz⟩
/-- the clauses turned round, the first one doubled behind them -/
def turned (xss : List (List Int)) : List (List Int) := (xss.reverse.map List.reverse) ++ (match xss with
  | [] => []
  | l :: _ => [l ++ l])
theorem turned_memb (xss : List (List Int)) (z : List Int) : (∃ l ∈ turned xss, taut (sortS l) = false ∧ z = sortS l) ↔ (∃ l ∈ xss, taut (sortS l) = false ∧ z = sortS l) := by
  have hr : ∀ l : List Int, sortS l.reverse = sortS l := fun l => sortS_ext (by simp)
  have hd : ∀ l : List Int, sortS (l ++ l) = sortS l := fun l => sortS_ext (by simp)
  constructor
  · rintro ⟨l, hl, ht, hz⟩
    unfold turned at hl
    rw [List.mem_append] at hl
    rcases hl with hl | hl
    · rw [List.mem_map] at hl
      obtain ⟨l', hl', rfl⟩ := hl
      rw [hr] at ht hz
      exact ⟨l', by simpa using hl', ht, hz⟩
    · cases xss with
      | nil => cases hl
      | cons a r =>
        simp at hl
        subst hl
        rw [hd] at ht hz
        exact ⟨a, by simp, ht, hz⟩
  · rintro ⟨l, hl, ht, hz⟩
    refine ⟨l.reverse, ?_, by rw [hr]; exact ht, by rw [hr]; exact hz⟩
    unfold turned
    rw [List.mem_append]
    exact .inl (List.mem_map.2 ⟨l, by simpa using hl, rfl⟩)
theorem tidyR_turned (xss : List (List Int)) : tidyR (turned xss) = tidyR xss := tidyR_ext (turned_memb xss)

theorem taut_clash {xs : List Int} (h : taut xs = true) : ∃ a ∈ xs, -a ∈ xs := by
  unfold taut at h
  rw [List.any_eq_true] at h
  obtain ⟨i, _, hc⟩ := h
  unfold clashAt at hc
  cases h1 : xs[i]? with
  | none => rw [h1] at hc; simp at hc
  | some a =>
    cases h2 : xs[i + 1]? with
    | none => rw [h1, h2] at hc; simp at hc
    | some b =>
      rw [h1, h2] at hc
      simp at hc
      exact ⟨a, List.mem_of_getElem? h1, by rw [← hc]; exact List.mem_of_getElem? h2⟩
theorem clauseB_ext (val : List Bool) {xs ys : List Int} (h : ∀ z, z ∈ xs ↔ z ∈ ys) : clauseB val xs = clauseB val ys := by
  unfold clauseB
  rw [Bool.eq_iff_iff, List.any_eq_true, List.any_eq_true]
  exact ⟨fun ⟨x, hx, ht⟩ => ⟨x, (h x).1 hx, ht⟩, fun ⟨x, hx, ht⟩ => ⟨x, (h x).2 hx, ht⟩⟩
theorem allB_tidy {n : Int} {xss : List (List Int)} {val : List Bool} (hok : okRows n xss = true) (hn : n ≤ val.length) : allB val (tidyR xss) = allB val xss := by
  have lit : ∀ l ∈ xss, ∀ x ∈ l, x ≠ 0 ∧ x ≤ n ∧ -n ≤ x := fun l hl x hx => by
    have h1 := List.all_eq_true.1 hok l hl
    have h2 := List.all_eq_true.1 h1 x hx
    unfold okLit at h2
    simpa using h2
  unfold allB
  rw [Bool.eq_iff_iff, List.all_eq_true, List.all_eq_true]
  constructor
  · intro h l hl
    cases ht : taut (sortS l) with
    | true =>
      obtain ⟨a, ha, hna⟩ := taut_clash ht
      rw [sortS_memb] at ha hna
      obtain ⟨h0, h1, h2⟩ := lit l hl a ha
      unfold clauseB
      rw [List.any_eq_true]
      rcases truth_opp (val := val) h0 (by omega) (by omega) with h3 | h3
      · exact ⟨a, ha, h3⟩
      · exact ⟨-a, hna, h3⟩
    | false =>
      rw [clauseB_ext val (fun z => (sortS_memb l z).symm)]
      exact h _ ((tidyR_mem xss _).2 ⟨l, hl, ht, rfl⟩)
  · intro h z hz
    obtain ⟨l, hl, _, rfl⟩ := (tidyR_mem xss z).1 hz
    rw [clauseB_ext val (sortS_memb l)]
    exact h l hl
theorem okRows_of {n : Int} {xss yss : List (List Int)} (h : okRows n xss = true) (hm : ∀ l ∈ yss, ∀ x ∈ l, ∃ l' ∈ xss, x ∈ l') : okRows n yss = true := by
  unfold okRows
  rw [List.all_eq_true]
  intro l hl
  rw [List.all_eq_true]
  intro x hx
  obtain ⟨l', hl', hx'⟩ := hm l hl x hx
  exact List.all_eq_true.1 (List.all_eq_true.1 h l' hl') x hx'
theorem okRows_tidy {n : Int} {xss : List (List Int)} (h : okRows n xss = true) : okRows n (tidyR xss) = true :=
  okRows_of h fun l hl x hx => by
    obtain ⟨l', hl', _, rfl⟩ := (tidyR_mem xss l).1 hl
    exact ⟨l', hl', (sortS_memb l' x).1 hx⟩
theorem okRows_turned {n : Int} {xss : List (List Int)} (h : okRows n xss = true) : okRows n (turned xss) = true :=
  okRows_of h fun l hl x hx => by
    unfold turned at hl
    rw [List.mem_append] at hl
    rcases hl with hl | hl
    · rw [List.mem_map] at hl
      obtain ⟨l', hl', rfl⟩ := hl
      exact ⟨l', by simpa using hl', by simpa using hx⟩
    · cases xss with
      | nil => cases hl
      | cons a r =>
        simp at hl
        subst hl
        exact ⟨a, by simp, by simpa using hx⟩

/-! ### one text -/
def wordsF : Nat → List UInt8 → Nat → List (Nat × Nat)
  | 0, _, _ => []
  | k + 1, l, i => match l[i]? with
    | none => []
    | some b => if cmt l i then wordsF k l (scan eolB l (i + 1)) else if whiteB b then wordsF k l (i + 1) else (i, scan whiteB l (i + 1)) :: wordsF k l (scan whiteB l (i + 1))
theorem words_F : ∀ (k : Nat) (l : List UInt8) (i : Nat), l.length < i + k → words l i = wordsF k l i
  | 0, l, i, h => by rw [words_end (by omega), wordsF]
  | k + 1, l, i, h => by
    rw [wordsF]
    cases hb : l[i]? with
    | none => rw [words_end (by rw [List.getElem?_eq_none_iff] at hb; exact hb)]
    | some b =>
      have hi : i < l.length := (List.getElem?_eq_some_iff.1 hb).1
      simp only
      cases hc : cmt l i with
      | true =>
        have hs : i + 1 ≤ scan eolB l (i + 1) := scan_ge
        rw [words_cmt hi hc, if_pos rfl, words_F k l _ (by omega)]
      | false =>
        rw [if_neg (by decide)]
        cases hw : whiteB b with
        | true => rw [words_white hb hc hw, if_pos rfl, words_F k l _ (by omega)]
        | false =>
          have hs : i + 1 ≤ scan whiteB l (i + 1) := scan_ge
          rw [words_word hb hc hw, if_neg (by decide), words_F k l _ (by omega)]

/-- 'p cnf 3 2 3 -1 0 2 0 a -3 0' -/
def liveL : List UInt8 := [112, 32, 99, 110, 102, 32, 51, 32, 50, 32, 51, 32, 45, 49, 32, 48, 32, 50, 32, 48, 32, 97, 32, 45, 51, 32, 48]
theorem live_read : readT (texts liveL) = .inr (3, [[3, -1], [2]], [-3]) := by
  unfold texts
  rw [words_F 40 liveL 0 (by decide)]
  kernel_rfl
theorem live_tidy : tidyR [[3, -1], [2]] = [[-1, 3], [2]] := by kernel_rfl
theorem live_ok : okCnf ⟨3, [[3, -1], [2]], [-3]⟩ = true := by kernel_rfl

end Go.Proofs.YtnadmnhkfdkafaaGreatDoor
