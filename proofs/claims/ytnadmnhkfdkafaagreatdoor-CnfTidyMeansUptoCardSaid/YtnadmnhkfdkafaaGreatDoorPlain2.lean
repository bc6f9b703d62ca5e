/- Plain laws: the text of a line tells the line; tidy clauses by sorting behind a map. -/
import Derived.Test.YtnadmnhkfdkafaaGreatDoorPlain
import Derived.Test.YtnadmnhkfdkafaaGreatDoorText
namespace Go.Proofs.YtnadmnhkfdkafaaGreatDoor
set_option linter.unusedVariables false
set_option linter.unusedSimpArgs false

/-! ### numerals -/
def valB (l : List UInt8) : Nat := l.foldl (fun a b => 10 * a + (b.toNat - 48)) 0
theorem valB_snoc (l : List UInt8) (b : UInt8) : valB (l ++ [b]) = 10 * valB l + (b.toNat - 48) := by simp [valB]
theorem digit_toNat (d : Nat) (h : d < 10) : (UInt8.ofNat (48 + d)).toNat = 48 + d := UInt8.toNat_ofNat_of_lt' (by simp [UInt8.size]; omega)
theorem decDigits_val (n : Nat) : valB (Lib.decDigits n) = n := by
  induction n using Nat.strongRecOn with
  | ind n ih =>
    rw [Lib.decDigits]
    split
    · rename_i h; show 10 * 0 + ((UInt8.ofNat (48 + n)).toNat - 48) = n; rw [digit_toNat n h]; omega
    · rename_i h; rw [valB_snoc, ih (n / 10) (by omega), digit_toNat _ (by omega)]; omega
theorem decDigits_digit (n : Nat) : ∀ b ∈ Lib.decDigits n, 48 ≤ b.toNat ∧ b.toNat ≤ 57 := by
  induction n using Nat.strongRecOn with
  | ind n ih =>
    rw [Lib.decDigits]
    split
    · rename_i h; intro b hb; rw [List.mem_singleton] at hb; subst hb; rw [digit_toNat n h]; omega
    · rename_i h
      intro b hb
      rw [List.mem_append, List.mem_singleton] at hb
      rcases hb with hb | rfl
      · exact ih (n / 10) (by omega) b hb
      · rw [digit_toNat _ (by omega)]; omega
theorem decDigits_ne (n : Nat) : Lib.decDigits n ≠ [] := by rw [Lib.decDigits]; split <;> simp
theorem itoa_inj {x y : Int} (h : Lib.itoa x = Lib.itoa y) : x = y := by
  unfold Lib.itoa at h
  have key : ∀ (a b : Nat), Lib.decDigits a = Lib.decDigits b → a = b := fun a b e => by rw [← decDigits_val a, e, decDigits_val]
  have no : ∀ (a b : Nat), (45 : UInt8) :: Lib.decDigits a ≠ Lib.decDigits b := fun a b e => by
    have := decDigits_digit b 45 (by rw [← e]; exact List.mem_cons_self)
    have h2 : (45 : UInt8).toNat = 45 := rfl
    omega
  split at h <;> split at h
  · have := key _ _ (List.cons.inj h).2; omega
  · exact absurd h (no _ _)
  · exact absurd h.symm (no _ _)
  · have := key _ _ h; omega
theorem itoa_space (x : Int) : (32 : UInt8) ∉ Lib.itoa x := by
  have key : ∀ a : Nat, (32 : UInt8) ∉ Lib.decDigits a := fun a h => by
    have := decDigits_digit a 32 h
    have h2 : (32 : UInt8).toNat = 32 := rfl
    omega
  unfold Lib.itoa
  split
  · rw [List.mem_cons]; rintro (h | h)
    · cases h
    · exact key _ h
  · exact key _

/-! ### lines -/
def lineB (xs : List Int) : List UInt8 := xs.flatMap fun x => Lib.itoa x ++ [32]
theorem lineB_cons (x : Int) (xs : List Int) : lineB (x :: xs) = Lib.itoa x ++ 32 :: lineB xs := by simp [lineB]
theorem split_at {α : Type} {c : α} : ∀ {a b r r' : List α}, c ∉ a → c ∉ b → a ++ c :: r = b ++ c :: r' → a = b ∧ r = r'
  | [], [], r, r', _, _, h => by simpa using h
  | [], b :: bs, r, r', _, hb, h => by simp at h; exact absurd (h.1 ▸ List.mem_cons_self) hb
  | a :: as', [], r, r', ha, _, h => by simp at h; exact absurd (h.1 ▸ List.mem_cons_self) ha
  | a :: as', b :: bs, r, r', ha, hb, h => by
    simp only [List.cons_append, List.cons.injEq] at h
    obtain ⟨h1, h2⟩ := split_at (fun e => ha (List.mem_cons_of_mem _ e)) (fun e => hb (List.mem_cons_of_mem _ e)) h.2
    exact ⟨by rw [h.1, h1], h2⟩
theorem line_inj : ∀ {xs ys : List Int}, lineB xs ++ [48, 10] = lineB ys ++ [48, 10] → xs = ys
  | [], [], _ => rfl
  | [], y :: ys, h => by
    have h1 : (32 : UInt8) ∈ lineB [] ++ [48, 10] := by rw [h, lineB_cons]; simp
    simp [lineB] at h1
  | x :: xs, [], h => by
    have h1 : (32 : UInt8) ∈ lineB [] ++ [48, 10] := by rw [← h, lineB_cons]; simp
    simp [lineB] at h1
  | x :: xs, y :: ys, h => by
    rw [lineB_cons, lineB_cons, List.append_assoc, List.append_assoc, List.cons_append, List.cons_append] at h
    obtain ⟨h1, h2⟩ := split_at (itoa_space x) (itoa_space y) h
    rw [itoa_inj h1, line_inj h2]

/-! ### clauses, as the program gathers them -/
def addO (O : List (List Int)) (l : List Int) : List (List Int) := if taut (sortS l) then O else if sortS l ∈ O then O else O ++ [sortS l]
def tidyO (xss : List (List Int)) : List (List Int) := xss.foldl addO []
theorem tidyO_take {xss : List (List Int)} {k : Nat} {l : List Int} (h : xss[k]? = some l) : tidyO (xss.take (k + 1)) = addO (tidyO (xss.take k)) l := by
  unfold tidyO; rw [List.take_add_one, h, List.foldl_append]; rfl
theorem addO_skip {O : List (List Int)} {l : List Int} (h : taut (sortS l) = true) : addO O l = O := by unfold addO; rw [if_pos h]
theorem addO_old {O : List (List Int)} {l : List Int} (h : taut (sortS l) = false) (h2 : sortS l ∈ O) : addO O l = O := by unfold addO; rw [if_neg (by simp [h]), if_pos h2]
theorem addO_new {O : List (List Int)} {l : List Int} (h : taut (sortS l) = false) (h2 : sortS l ∉ O) : addO O l = O ++ [sortS l] := by unfold addO; rw [if_neg (by simp [h]), if_neg h2]
theorem foldO (xss : List (List Int)) : ∀ O : List (List Int), O.Nodup → (xss.foldl addO O).Nodup ∧ (∀ z, z ∈ xss.foldl addO O ↔ z ∈ O ∨ ∃ l ∈ xss, taut (sortS l) = false ∧ z = sortS l) ∧ (xss.foldl addO O).length ≤ O.length + xss.length := by
  induction xss with
  | nil => intro O h; exact ⟨h, by simp, by simp⟩
  | cons l xss ih =>
    intro O h
    have hn : (addO O l).Nodup := by
      unfold addO; split
      · exact h
      · split
        · exact h
        · rename_i h2
          rw [List.nodup_append]
          exact ⟨h, by simp, by intro a ha b hb; rw [List.mem_singleton] at hb; subst hb; intro e; exact h2 (e ▸ ha)⟩
    obtain ⟨h1, h2, h3⟩ := ih (addO O l) hn
    refine ⟨h1, fun z => ?_, ?_⟩
    · rw [List.foldl_cons, h2]
      by_cases ht : taut (sortS l) = true
      · rw [addO_skip ht]
        constructor
        · rintro (h | ⟨x, hx, h4, h5⟩)
          · exact .inl h
          · exact .inr ⟨x, List.mem_cons_of_mem _ hx, h4, h5⟩
        · rintro (h | ⟨x, hx, h4, h5⟩)
          · exact .inl h
          · rw [List.mem_cons] at hx
            rcases hx with rfl | hx
            · rw [ht] at h4; cases h4
            · exact .inr ⟨x, hx, h4, h5⟩
      · have ht' : taut (sortS l) = false := by simpa using ht
        have hm : ∀ z, z ∈ addO O l ↔ z ∈ O ∨ z = sortS l := by
          intro z
          by_cases h6 : sortS l ∈ O
          · rw [addO_old ht' h6]
            exact ⟨.inl, fun h => h.elim id (fun e => e ▸ h6)⟩
          · rw [addO_new ht' h6, List.mem_append, List.mem_singleton]
        rw [hm]
        constructor
        · rintro ((h | h) | ⟨x, hx, h4, h5⟩)
          · exact .inl h
          · exact .inr ⟨l, List.mem_cons_self, ht', h⟩
          · exact .inr ⟨x, List.mem_cons_of_mem _ hx, h4, h5⟩
        · rintro (h | ⟨x, hx, h4, h5⟩)
          · exact .inl (.inl h)
          · rw [List.mem_cons] at hx
            rcases hx with rfl | hx
            · exact .inl (.inr h5)
            · exact .inr ⟨x, hx, h4, h5⟩
    · have : (addO O l).length ≤ O.length + 1 := by unfold addO; split; omega; split; omega; simp
      rw [List.foldl_cons]; simp only [List.length_cons]; omega
theorem tidyO_length (xss : List (List Int)) : (tidyO xss).length ≤ xss.length := by have := (foldO xss [] List.nodup_nil).2.2; simpa [tidyO] using this
theorem tidyO_mem (xss : List (List Int)) (z : List Int) : z ∈ tidyO xss ↔ ∃ l ∈ xss, taut (sortS l) = false ∧ z = sortS l := by have := (foldO xss [] List.nodup_nil).2.1 z; simpa [tidyO] using this
/-- sorted, they are the tidy clauses -/
theorem tidy_sorted {xss R : List (List Int)} (hp : R.Perm (tidyO xss)) (hs : R.Pairwise fun a b => ltC b a = false) : R = tidyR xss := by
  refine rises_unique ltC_total ?_ (tidyR_rises xss) fun z => ?_
  · have hn : R.Nodup := hp.nodup_iff.2 (foldO xss [] List.nodup_nil).1
    have := hs.and hn
    refine this.imp fun {a b} h => ?_
    rcases ltC_total.tri a b h.2 with h1 | h1
    · exact h1
    · rw [h.1] at h1; cases h1
  · rw [hp.mem_iff, tidyO_mem, tidyR_mem]
/-- a rising list with the members of xs is xs sorted -/
theorem sorted_is {xs ys : List Int} (h : Rises ltL ys) (hm : ∀ z, z ∈ ys ↔ z ∈ xs) : ys = sortS xs :=
  rises_unique ltL_total h (sortG_rises ltL_total xs) fun z => by rw [hm]; exact (sortG_mem ltL_total xs z).symm

end Go.Proofs.YtnadmnhkfdkafaaGreatDoor
