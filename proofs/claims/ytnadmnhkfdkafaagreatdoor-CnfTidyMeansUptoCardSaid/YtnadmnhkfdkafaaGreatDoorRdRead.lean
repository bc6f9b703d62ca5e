/- Contract: cnf.Read: of any text the clauses that its words say, or the place of the word that cannot stand. -/
import Derived.Test.YtnadmnhkfdkafaaGreatDoorRdClause
import Derived.Test.YtnadmnhkfdkafaaGreatDoorOwnC
import Derived.RegionTactic
import Derived.ChangeAlike
namespace Go.Proofs.YtnadmnhkfdkafaaGreatDoor
open Go.RowKit
set_option linter.unusedVariables false
set_option linter.unusedSimpArgs false

set_option maxHeartbeats 2000000 in
theorem bad_calls (p q : Nat) (s : ByteArray) (a : Nat) (f : Int) (w : World) (hB : WB w p s a f) (hQ : Blk w q 172 #[.pointer (some ⟨p, 0, none⟩)]) :
    Calls Tryz.prog 108 #[.pointer (some ⟨q, 0, none⟩)] w fun e w' => e = .returned (.tuple #[.agg #[.int .i64 0, .slice none 0 0, .slice none 0 0], .int .i64 40, .int .i64 f]) ∧ Below w.heap.size w w' := by
  have hb := (Below.refl w.heap.size w).alloc (Nat.le_refl _) (.cells #[.int .i64 0, .slice none 0 0, .slice none 0 0] 54)
  have HN := Lib.hid (Blk.new w 54 #[.int .i64 0, .slice none 0 0, .slice none 0 0])
  have HB := Lib.hid (hB.below hb)
  have HQ := Lib.hid (hQ.below hb)
  have Hb := Lib.hid hb
  have hpn : ¬ p = w.heap.size := by have := hB.lt; omega
  have hqn : ¬ q = w.heap.size := by have := hQ.lt; omega
  have hpn2 : ¬ w.heap.size = p := fun e => hpn e.symm
  have hqn2 : ¬ w.heap.size = q := fun e => hqn e.symm
  clear hB hQ hb
  go_enter Tryz.func108, Tryz.ntmps108
  go_wp2_with fail
  generalize w.alloc (.cells #[.int .i64 0, .slice none 0 0, .slice none 0 0] 54) = W at *
  have c0 : W.cell? ⟨q, 0, none⟩ = some (.pointer (some ⟨p, 0, none⟩)) := by have := HQ.out.cell 0; simpa using this
  have c2 : W.cell? ⟨p, 2, none⟩ = some (.int .i64 f) := by have := HB.out.cell 2; simpa using this
  have n0 : W.cell? ⟨w.heap.size, 0, none⟩ = some (.int .i64 0) := by have := HN.out.cell 0; simpa using this
  have n1 : W.cell? ⟨w.heap.size, 1, none⟩ = some (.slice none 0 0) := by have := HN.out.cell 1; simpa using this
  have n2 : W.cell? ⟨w.heap.size, 2, none⟩ = some (.slice none 0 0) := by have := HN.out.cell 2; simpa using this
  have z0 : W.frozen? ⟨w.heap.size, 0, none⟩ = false := HN.out.frozen 0
  have z1 : W.frozen? ⟨w.heap.size, 1, none⟩ = false := HN.out.frozen 1
  have z2 : W.frozen? ⟨w.heap.size, 2, none⟩ = false := HN.out.frozen 2
  go_region
  go_wp2
  refine bodyPost_ret (v := .tuple #[.agg #[.int .i64 0, .slice none 0 0, .slice none 0 0], .int .i64 40, .int .i64 f]) (by simp [results, Tryz.results108, go_sem, n0, n1, n2]) rfl ⟨rfl, ?_⟩
  exact (((Hb.out.setCell (Nat.le_refl _) _).setCell (Nat.le_refl _) _).setCell (Nat.le_refl _) _).drew

/-- the closure's world: the words, the variable that holds them -/
structure RdW (w : World) (B : Nat) (s : ByteArray) (a : Nat) (f : Int) : Prop where
  res : Blk w B 54 #[.int .i64 0, .slice none 0 0, .slice none 0 0]
  at_ : WB w (B + 1) s a f
  var : Blk w (B + 2) 172 #[.pointer (some ⟨B + 1, 0, none⟩)]
theorem RdW.below {w w' : World} {B : Nat} {s : ByteArray} {a : Nat} {f : Int} (h : RdW w B s a f) (hb : Below w.heap.size w w') : RdW w' B s a f := ⟨h.res.below hb, h.at_.below hb, h.var.below hb⟩
theorem RdW.grown {w w' : World} {B : Nat} {s : ByteArray} {a a' : Nat} {f f' : Int} (h : RdW w B s a f) (hg : w.grownBy w' (some (B + 1))) (hk : WB w' (B + 1) s a' f') : RdW w' B s a' f' :=
  ⟨h.res.grown hg (by simp), hk, h.var.grown hg (by simp)⟩
theorem RdW.bad {w : World} {B : Nat} {s : ByteArray} {a : Nat} {f : Int} (h : RdW w B s a f) :
    Calls Tryz.prog 108 #[.pointer (some ⟨B + 2, 0, none⟩)] w fun e w' => e = .returned (.tuple #[.agg #[.int .i64 0, .slice none 0 0, .slice none 0 0], .int .i64 40, .int .i64 f]) ∧ Below w.heap.size w w' :=
  bad_calls (B + 1) (B + 2) s a f w h.at_ h.var
theorem RdW.cell {w : World} {B : Nat} {s : ByteArray} {a : Nat} {f : Int} (h : RdW w B s a f) :
    w.cell? ⟨B + 2, 0, none⟩ = some (.pointer (some ⟨B + 1, 0, none⟩)) ∧ w.cell? ⟨B, 0, none⟩ = some (.int .i64 0) ∧ w.cell? ⟨B, 1, none⟩ = some (.slice none 0 0) ∧ w.cell? ⟨B, 2, none⟩ = some (.slice none 0 0) ∧
      w.frozen? ⟨B, 0, none⟩ = false ∧ w.frozen? ⟨B, 1, none⟩ = false ∧ w.frozen? ⟨B, 2, none⟩ = false := by
  refine ⟨?_, ?_, ?_, ?_, h.res.frozen 0, h.res.frozen 1, h.res.frozen 2⟩
  · have := h.var.cell 0; simpa using this
  · have := h.res.cell 0; simpa using this
  · have := h.res.cell 1; simpa using this
  · have := h.res.cell 2; simpa using this

theorem getD_get {tx : List (List UInt8)} {i : Nat} {t : List UInt8} (hne : t ≠ []) : tx[i]? = some t ↔ tx.getD i [] = t := by
  rw [List.getD_eq_getElem?_getD]
  cases h : tx[i]? with
  | none => simp; exact hne
  | some x => simp
theorem ownI_form {w : World} {B e : Nat} {v : Value} {xs : List Int} (h : OwnI w B e v xs) : ∃ A c, v = .slice A xs.length c ∧ IntsAt w A xs := by
  obtain ⟨A, c, e, _, _, h3⟩ := CellsAt.of_own h
  exact ⟨A, c, e, h3⟩
theorem OwnC.grown_p {a b : World} {B p : Nat} {v : Value} {vs : List Value} {R : List (List Int)} (h : OwnC a B v vs R) (k : a.grownBy b (some p)) (hp : p < B) : OwnC b B v vs R := ⟨own_kept_p h.1 k hp, h.2.imp fun _ _ _ _ h => own_kept_p h k hp⟩
theorem OwnC.lower {a : World} {B B' : Nat} {v : Value} {vs : List Value} {R : List (List Int)} (h : OwnC a B v vs R) (hB : B' ≤ B) : OwnC a B' v vs R := ⟨own_lower h.1 hB, h.2.imp fun _ _ _ _ h => own_lower h hB⟩
theorem texts_ne {l t : List UInt8} {i : Nat} (h : (texts l)[i]? = some t) : t ≠ [] := by
  unfold texts at h
  rw [List.getElem?_map, Option.map_eq_some_iff] at h
  obtain ⟨q, hq, rfl⟩ := h
  obtain ⟨h1, h2, h3⟩ := words_mem l 0 q (List.mem_of_getElem? hq)
  unfold wt
  intro e
  have := congrArg List.length e
  simp at this
  omega
theorem RdW.grown_row {w w' : World} {B : Nat} {s : ByteArray} {a : Nat} {f : Int} (h : RdW w B s a f) {B' e s' n' : Nat} {v' : Value} {xs' : List Value} (h' : w.ownsRow B' e s' v' n' xs') (h1 : e ≠ 54) (h2 : e ≠ 174) (h3 : e ≠ 172) (hg : w.grownBy w' v'.ownBlock) : RdW w' B s a f :=
  ⟨h.res.grown_row h' h1 hg, Blk.grown_row h.at_ h' h2 hg, h.var.grown_row h' h3 hg⟩
theorem RdW.far {w : World} {B : Nat} {s : ByteArray} {a : Nat} {f : Int} (h : RdW w B s a f) {p : Addr} (h1 : B ≠ p.block) (h2 : B + 1 ≠ p.block) (h3 : B + 2 ≠ p.block) (u : Value) : RdW (w.setCell p u) B s a f :=
  ⟨h.res.far h1 u, Blk.far h.at_ h2 u, h.var.far h3 u⟩
theorem OwnC.lt {a : World} {B : Nat} {v : Value} {vs : List Value} {R : List (List Int)} (h : OwnC a B v vs R) (u : Value) (hu : u ∈ vs) (q : Nat) (hq : u.ownBlock = some q) : q < a.heap.size := by
  obtain ⟨k, hk⟩ := List.mem_iff_getElem?.1 hu
  have hkl := (List.getElem?_eq_some_iff.1 hk).1
  obtain ⟨l, hl⟩ : ∃ l, R[k]? = some l := ⟨_, List.getElem?_eq_getElem (by rw [← h.2.1]; exact hkl)⟩
  exact (World.ownsRow.lt (h.2.2 k u l hk hl) q hq).2
theorem ApartN.snoc {vs : List Value} {v : Value} {N : Nat} (h : ApartN vs) (h1 : ∀ u ∈ vs, ∀ q, u.ownBlock = some q → q < N) (h2 : ∀ q, v.ownBlock = some q → N ≤ q) : ApartN (vs ++ [v]) := by
  unfold ApartN
  rw [List.pairwise_append]
  refine ⟨h, List.pairwise_singleton _ _, fun a ha b hb => ?_⟩
  rw [List.mem_singleton] at hb
  subst hb
  cases e : a.ownBlock with
  | none => exact .inl rfl
  | some q =>
    right
    intro e2
    have := h1 a ha q e
    have := h2 q e2.symm
    omega
def aheadC (R : List (List Int)) : Nat ⊕ (List (List Int) × Nat) → Nat ⊕ (List (List Int) × Nat)
  | .inl j => .inl j
  | .inr (l, j) => .inr (R ++ l, j)
theorem aheadC_nil (r : Nat ⊕ (List (List Int) × Nat)) : aheadC [] r = r := by rcases r with j | ⟨l, j⟩ <;> rfl
theorem aheadC_step (R : List (List Int)) (l : List Int) (r : Nat ⊕ (List (List Int) × Nat)) : aheadC (R ++ [l]) r = aheadC R (match r with
      | .inl j' => .inl j'
      | .inr (ls, j') => .inr (l :: ls, j')) := by
  rcases r with j | ⟨ls, j⟩ <;> simp [aheadC]
def tailT (n : Int) (tx : List (List UInt8)) : Nat ⊕ (List (List Int) × Nat) → Nat ⊕ (Int × List (List Int) × List Int)
  | .inl j => .inl j
  | .inr (cs, i) =>
    if tx[i]? = some [97] then
      match litsL n (tx.drop (i + 1)) (i + 1) with
      | .inl j => .inl j
      | .inr (ts, i2) => if i2 < tx.length then .inl i2 else .inr (n, cs, ts)
    else if i < tx.length then .inl i else .inr (n, cs, [])
theorem readT_ok {tx : List (List UInt8)} (h0 : tx.getD 0 [] = [112]) (h1 : tx.getD 1 [] = [99, 110, 102]) (h2 : 0 ≤ valI (tx.getD 2 []) 1000000) (h : isNum (tx.getD 3 []) = true) :
    readT tx = tailT (valI (tx.getD 2 []) 1000000) tx (manyL (valI (tx.getD 2 []) 1000000) tx (cap (tx.getD 3 []) tx.length) 4) := by
  unfold readT; rw [if_pos (by rw [getD_get (by simp)]; exact h0), if_pos (by rw [getD_get (by simp)]; exact h1), if_pos h2, if_pos h]; rfl
/-- the count that the program goes by -/
def countC (L : Int) (m : Nat) : Nat := if L < 0 then m + 1 else L.toNat
theorem many_count (n : Int) {tx : List (List UInt8)} {t : List UInt8} {S : Nat} (hnum : isNum t = true) (hm : tx.length ≤ S) (h4 : 4 ≤ tx.length) :
    manyL n tx (cap t tx.length) 4 = manyL n tx (countC (valI t S) tx.length) 4 := by
  have e : ∀ X : Nat, valI t X = if valN t ≤ X then (valN t : Int) else -1 := fun X => by
    unfold valI
    rw [hnum, Bool.true_and]
    by_cases h : valN t ≤ X
    · rw [if_pos h, if_pos (by rw [decide_eq_true_eq]; omega)]
    · rw [if_neg h, if_neg (by rw [decide_eq_true_eq]; omega)]
  unfold cap countC
  rw [e, e]
  by_cases h1 : valN t ≤ tx.length
  · rw [if_pos h1, if_pos (show valN t ≤ S by omega), if_neg (by omega), if_neg (by omega), Int.toNat_natCast]
  · rw [if_neg h1, if_pos (by omega)]
    obtain ⟨j, hj⟩ := manyL_much n tx (tx.length + 1) 4 h4 (by omega)
    rw [hj]
    by_cases h2 : valN t ≤ S
    · rw [if_pos h2, if_neg (by omega), Int.toNat_natCast, manyL_over n tx _ 4 j hj _ (by omega)]
    · rw [if_neg h2, if_pos (by omega), hj]

theorem notNum_cases (s : ByteArray) (h : isNum s.data.toList = false) :
    s.toList.isEmpty = true ∨ (s.toList.isEmpty = false ∧ s.data.toList.all digB = false) ∨
      (s.toList.isEmpty = false ∧ s.data.toList.all digB = true ∧ ∃ h0 : 0 < s.size, (((s[0]'h0).toNat : Int) == 48) = true ∧ decide ((1 : Int) < (s.size : Int)) = true) := by
  have hsz := Lib.size_eq s
  by_cases hz : s.size = 0
  · exact .inl (empty_of_size hz)
  have hemp := nonempty_of_size (s := s) (by omega)
  cases had : s.data.toList.all digB with
  | false => exact .inr (.inl ⟨hemp, rfl⟩)
  | true =>
    right; right
    have h0 : 0 < s.size := by omega
    refine ⟨hemp, rfl, h0, ?_⟩
    have hhd : s.data.toList.head? = some (s[0]'h0) := by rw [List.head?_eq_getElem?]; exact Lib.data_getElem? s 0 h0
    unfold isNum at h
    rw [had, hhd] at h
    have e1 : s.data.toList.isEmpty = false := by
      cases e : s.data.toList with
      | nil => rw [e, List.length_nil] at hsz; omega
      | cons _ _ => rfl
    rw [e1] at h
    simp at h
    obtain ⟨ha, hb⟩ := h
    refine ⟨by rw [ha]; rfl, decide_eq_true (by omega)⟩
theorem isNum_cases (s : ByteArray) (h : isNum s.data.toList = true) :
    s.toList.isEmpty = false ∧ s.data.toList.all digB = true ∧ ∃ h0 : 0 < s.size, (((s[0]'h0).toNat : Int) == 48) = false ∨ ((((s[0]'h0).toNat : Int) == 48) = true ∧ decide ((1 : Int) < (s.size : Int)) = false) := by
  obtain ⟨h1, h2⟩ := isNum_parts h
  have hsz := Lib.size_eq s
  have h0 : 0 < s.size := by
    cases e : s.data.toList with
    | nil => exact absurd e h1
    | cons _ _ => rw [e, List.length_cons] at hsz; omega
  refine ⟨nonempty_of_size h0, h2, h0, ?_⟩
  have hhd : s.data.toList.head? = some (s[0]'h0) := by rw [List.head?_eq_getElem?]; exact Lib.data_getElem? s 0 h0
  by_cases h48 : (s[0]'h0) = 48
  · right
    refine ⟨by rw [h48]; rfl, decide_eq_false ?_⟩
    unfold isNum at h
    rw [hhd, h48] at h
    simp at h
    omega
  · left
    rw [beq_eq_false_iff_ne]
    intro e
    apply h48
    apply UInt8.toNat_inj.1
    have : (s[0]'h0).toNat = 48 := by omega
    rw [this]; rfl

/-! ### plain -/
theorem textsD_of {l : List UInt8} {a i : Nat} {t : ByteArray} (h : i < (texts l).length → (texts l)[i]? = some t.data.toList ∧ WAt l a (i + 1)) (h' : ¬ i < (texts l).length → t.data.toList = [] ∧ WAt l a i) : (texts l).getD i [] = t.data.toList := by
  by_cases hi : i < (texts l).length
  · rw [List.getD_eq_getElem?_getD, (h hi).1]; rfl
  · rw [(h' hi).1, List.getD_eq_getElem?_getD, List.getElem?_eq_none (by omega)]; rfl
theorem next_is {l : List UInt8} {a i : Nat} {t : ByteArray} (h : i < (texts l).length → (texts l)[i]? = some t.data.toList ∧ WAt l a (i + 1)) (h' : ¬ i < (texts l).length → t.data.toList = [] ∧ WAt l a i) (hne : t.data.toList ≠ []) : i < (texts l).length ∧ WAt l a (i + 1) := by
  by_cases hi : i < (texts l).length
  · exact ⟨hi, (h hi).2⟩
  · exact absurd (h' hi).1 hne
theorem readT_0 {tx : List (List UInt8)} (h : ¬ tx.getD 0 [] = [112]) : readT tx = .inl 0 := by
  unfold readT; rw [if_neg (by rw [getD_get (by simp)]; exact h)]
theorem readT_1 {tx : List (List UInt8)} (h0 : tx.getD 0 [] = [112]) (h : ¬ tx.getD 1 [] = [99, 110, 102]) : readT tx = .inl 1 := by
  unfold readT; rw [if_pos (by rw [getD_get (by simp)]; exact h0), if_neg (by rw [getD_get (by simp)]; exact h)]
theorem readT_2 {tx : List (List UInt8)} (h0 : tx.getD 0 [] = [112]) (h1 : tx.getD 1 [] = [99, 110, 102]) (h : ¬ 0 ≤ valI (tx.getD 2 []) 1000000) : readT tx = .inl 2 := by
  unfold readT; rw [if_pos (by rw [getD_get (by simp)]; exact h0), if_pos (by rw [getD_get (by simp)]; exact h1), if_neg h]
theorem readT_3 {tx : List (List UInt8)} (h0 : tx.getD 0 [] = [112]) (h1 : tx.getD 1 [] = [99, 110, 102]) (h2 : 0 ≤ valI (tx.getD 2 []) 1000000) (h : isNum (tx.getD 3 []) = false) : readT tx = .inl 3 := by
  unfold readT; rw [if_pos (by rw [getD_get (by simp)]; exact h0), if_pos (by rw [getD_get (by simp)]; exact h1), if_pos h2, if_neg (by rw [h]; decide)]

/-- how a text is told -/
def ReadEnd (w : World) (l : List UInt8) (res : Nat ⊕ (Int × List (List Int) × List Int)) (e : Ending) (w' : World) : Prop :=
  Below w.heap.size w w' ∧ match res with
    | .inl j => e = .returned (.tuple #[.agg #[.int .i64 0, .slice none 0 0, .slice none 0 0], .int .i64 40, .int .i64 (placeW l j)])
    | .inr (n, cs, ts) => ∃ vc vt vs, e = .returned (.tuple #[.agg #[.int .i64 n, vc, vt], .int .i64 0, .int .i64 0]) ∧ OwnC w' w.heap.size vc vs cs ∧ OwnI w' w.heap.size 3 vt ts ∧ ApartN vs ∧ (∀ v ∈ vs, v.ownBlock = none ∨ v.ownBlock ≠ vt.ownBlock)
theorem readEnd_l {w w' : World} {l : List UInt8} {res : Nat ⊕ (Int × List (List Int) × List Int)} {j : Nat} (hb : Below w.heap.size w w') (hr : res = .inl j) :
    ReadEnd w l res (.returned (.tuple #[.agg #[.int .i64 0, .slice none 0 0, .slice none 0 0], .int .i64 40, .int .i64 (placeW l j)])) w' := by
  subst hr; exact ⟨hb, rfl⟩

theorem readEnd_r {w w' : World} {l : List UInt8} {res : Nat ⊕ (Int × List (List Int) × List Int)} {n : Int} {cs : List (List Int)} {ts : List Int} {vc vt : Value} {vs : List Value} (hb : Below w.heap.size w w') (hr : res = .inr (n, cs, ts)) (h1 : OwnC w' w.heap.size vc vs cs) (h2 : OwnI w' w.heap.size 3 vt ts)
    (h3 : ApartN vs) (h4 : ∀ v ∈ vs, v.ownBlock = none ∨ v.ownBlock ≠ vt.ownBlock) : ReadEnd w l res (.returned (.tuple #[.agg #[.int .i64 n, vc, vt], .int .i64 0, .int .i64 0])) w' := by
  subst hr; exact ⟨hb, vc, vt, vs, rfl, h1, h2, h3, h4⟩

set_option maxHeartbeats 8000000 in
set_option maxRecDepth 100000 in
theorem read_calls (s : ByteArray) (w : World) (hs : s.size ≤ 1048576) (hr : RangeV w) :
    Calls Tryz.prog 69 #[.string s] w (ReadEnd w s.data.toList (readT (texts s.data.toList))) := by
  have HR := Lib.hid hr
  have Hlt := Lib.hid (show 2 < w.heap.size by
    obtain ⟨tp, q, h⟩ := hr
    have hc : w.cell? ⟨2, 0, none⟩ = some (.iface tp q) := by have := World.var?_cell gRange h 0; simpa using this
    exact World.block_lt_of_cell? w _ hc)
  clear hr
  generalize hres : readT (texts s.data.toList) = res
  have Hres := Lib.hid hres
  clear hres
  go_enter Tryz.func69, Tryz.ntmps69
  have H0 := Lib.hid (show RdW (((w.alloc (.cells #[.int .i64 0, .slice none 0 0, .slice none 0 0] 54)).alloc (.cells #[.string s, .int .i64 0, .int .i64 0] 174)).alloc (.cells #[.pointer (some ⟨w.heap.size + 1, 0, none⟩)] 172)) w.heap.size s 0 0 from
    ⟨((Blk.new w _ _).alloc _).alloc _, by have h := (Blk.new (w.alloc (.cells #[.int .i64 0, .slice none 0 0, .slice none 0 0] 54)) 174 #[.string s, .int .i64 0, .int .i64 0]).alloc (.cells #[.pointer (some ⟨w.heap.size + 1, 0, none⟩)] 172); show Blk _ (w.heap.size + 1) _ _; simpa using h,
     by have h := Blk.new ((w.alloc (.cells #[.int .i64 0, .slice none 0 0, .slice none 0 0] 54)).alloc (.cells #[.string s, .int .i64 0, .int .i64 0] 174)) 172 #[.pointer (some ⟨w.heap.size + 1, 0, none⟩)]; simpa using h⟩)
  have B0 := Lib.hid ((((Below.refl w.heap.size w).alloc (Nat.le_refl _) (.cells #[.int .i64 0, .slice none 0 0, .slice none 0 0] 54)).alloc (by simp) (.cells #[.string s, .int .i64 0, .int .i64 0] 174)).alloc (by simp; omega) (.cells #[.pointer (some ⟨w.heap.size + 1, 0, none⟩)] 172))
  go_wp2_with fail
  generalize (((w.alloc (.cells #[.int .i64 0, .slice none 0 0, .slice none 0 0] 54)).alloc (.cells #[.string s, .int .i64 0, .int .i64 0] 174)).alloc (.cells #[.pointer (some ⟨w.heap.size + 1, 0, none⟩)] 172)) = W0 at *
  have cN := Lib.hid (next_at (w.heap.size + 1) s 0 0 0 W0 H0.out.at_ hs (WAt.start _))
  refine cN.out.mono ?_
  rintro e w1 ⟨t1, a1, rfl, hts1, hn1, hn2, hn3, hn4⟩
  have H1 := Lib.hid (H0.out.grown hn2 hn1)
  have G1 := Lib.hid hn2
  have B1 := Lib.hid (B0.out.trans (below_grown hn2 (Nat.le_succ _) B0.out.size))
  have K1 := Lib.hid hn3
  have K1n := Lib.hid hn4
  clear hn1 hn2 hn3 hn4 cN
  have D1 := Lib.hid (textsD_of K1.out K1n.out)
  obtain ⟨v0, v1, v2, v3, v4, v5, v6⟩ := H1.out.cell
  by_cases hp1 : t1.data.toList = [112]
  case neg =>
    have b1 := str_ne hp1
    have Hr := Lib.hid (show res = .inl 0 by rw [← Hres.out]; exact readT_0 (by rw [D1.out]; exact hp1))
    clear hp1
    have cB := Lib.hid H1.out.bad
    go_wp2_with fail
    refine cB.out.mono ?_
    rintro e wz ⟨rfl, hbz⟩
    have Bz := Lib.hid (below_of B1.out B1.out.size hbz)
    obtain ⟨y0, y1, y2, y3, y4, y5, y6⟩ := (H1.out.below hbz).cell
    clear hbz cB
    go_wp2_with fail
    refine bodyPost_ret (v := .tuple #[.agg #[.int .i64 0, .slice none 0 0, .slice none 0 0], .int .i64 40, .int .i64 (placeW s.data.toList (0))]) (by simp [results, Tryz.results69, go_sem, y1, y2, y3]) rfl (readEnd_l ?_ Hr.out)
    exact ((Bz.out.setCell (Nat.le_refl _) _).setCell (Nat.le_refl _) _).setCell (Nat.le_refl _) _
  have b1 := str_eq hp1
  obtain ⟨hi1, hw1⟩ := next_is K1.out K1n.out (by rw [hp1]; simp)
  have Hp1 := Lib.hid (show (texts s.data.toList).getD 0 [] = [112] by rw [D1.out]; exact hp1)
  have HW1 := Lib.hid hw1
  clear hp1 hi1 hw1
  have cN := Lib.hid (next_at (w.heap.size + 1) s a1 1 _ w1 H1.out.at_ hs HW1.out)
  go_wp2_with fail
  refine cN.out.mono ?_
  rintro e w2 ⟨t2, a2, rfl, hts2, hn1, hn2, hn3, hn4⟩
  have H2 := Lib.hid (H1.out.grown hn2 hn1)
  have G2 := Lib.hid hn2
  have B2 := Lib.hid (B1.out.trans (below_grown hn2 (Nat.le_succ _) B1.out.size))
  have K2 := Lib.hid hn3
  have K2n := Lib.hid hn4
  clear hn1 hn2 hn3 hn4 cN
  have D2 := Lib.hid (textsD_of K2.out K2n.out)
  clear v0 v1 v2 v3 v4 v5 v6
  obtain ⟨v0, v1, v2, v3, v4, v5, v6⟩ := H2.out.cell
  by_cases hp2 : t2.data.toList = [99, 110, 102]
  case neg =>
    have b2 := str_ne hp2
    have Hr := Lib.hid (show res = .inl 1 by rw [← Hres.out]; exact readT_1 Hp1.out (by rw [D2.out]; exact hp2))
    clear hp2
    have cB := Lib.hid H2.out.bad
    go_wp2_with fail
    refine cB.out.mono ?_
    rintro e wz ⟨rfl, hbz⟩
    have Bz := Lib.hid (below_of B2.out B2.out.size hbz)
    obtain ⟨y0, y1, y2, y3, y4, y5, y6⟩ := (H2.out.below hbz).cell
    clear hbz cB
    go_wp2_with fail
    refine bodyPost_ret (v := .tuple #[.agg #[.int .i64 0, .slice none 0 0, .slice none 0 0], .int .i64 40, .int .i64 (placeW s.data.toList (1))]) (by simp [results, Tryz.results69, go_sem, y1, y2, y3]) rfl (readEnd_l ?_ Hr.out)
    exact ((Bz.out.setCell (Nat.le_refl _) _).setCell (Nat.le_refl _) _).setCell (Nat.le_refl _) _
  have b2 := str_eq hp2
  obtain ⟨hi2, hw2⟩ := next_is K2.out K2n.out (by rw [hp2]; simp)
  have Hp2 := Lib.hid (show (texts s.data.toList).getD 1 [] = [99, 110, 102] by rw [D2.out]; exact hp2)
  have HW2 := Lib.hid hw2
  clear hp2 hi2 hw2
  have cN := Lib.hid (next_at (w.heap.size + 1) s a2 2 _ w2 H2.out.at_ hs HW2.out)
  go_wp2_with fail
  refine cN.out.mono ?_
  rintro e w3 ⟨t3, a3, rfl, hts3, hn1, hn2, hn3, hn4⟩
  have H3 := Lib.hid (H2.out.grown hn2 hn1)
  have G3 := Lib.hid hn2
  have B3 := Lib.hid (B2.out.trans (below_grown hn2 (Nat.le_succ _) B2.out.size))
  have K3 := Lib.hid hn3
  have K3n := Lib.hid hn4
  clear hn1 hn2 hn3 hn4 cN
  have D3 := Lib.hid (textsD_of K3.out K3n.out)
  have cV := Lib.hid (number_calls t3 1000000 w3 (by omega) (by omega) (by omega) (HR.out.below B3.out))
  have hvb := valI_bd t3.data.toList 1000000 (by omega)
  have Hn := Lib.hid (show valI ((texts s.data.toList).getD 2 []) 1000000 = valI t3.data.toList 1000000 by rw [D3.out])
  have Hne := Lib.hid (show ¬ valI t3.data.toList 1000000 < 0 → t3.data.toList ≠ [] from fun h e => h (by rw [e]; decide))
  generalize hn : valI t3.data.toList 1000000 = n at cV hvb Hn Hne
  clear hn
  obtain ⟨hn1, hn2⟩ := hvb
  clear v0 v1 v2 v3 v4 v5 v6
  go_wp2_with fail
  refine cV.out.mono ?_
  rintro e w4 ⟨rfl, hb4⟩
  have H4 := Lib.hid ((H3.out.below hb4).below ((Below.refl w4.heap.size w4).alloc (Nat.le_refl _) (.cells #[.int .i64 n, .slice none 0 0, .slice none 0 0] 54)))
  have B4 := Lib.hid ((below_of B3.out B3.out.size hb4).alloc (below_of B3.out B3.out.size hb4).size (.cells #[.int .i64 n, .slice none 0 0, .slice none 0 0] 54))
  have C4 := Lib.hid (Blk.new w4 54 #[.int .i64 n, .slice none 0 0, .slice none 0 0])
  have hw3 : w.heap.size + 3 ≤ w4.heap.size := by have := (H3.out.below hb4).var.lt; omega
  clear hb4 cV
  obtain ⟨v0, v1, v2, v3, v4, v5, v6⟩ := H4.out.cell
  by_cases hv : n < 0
  case pos =>
    have b3 : decide (n < 0) = true := decide_eq_true hv
    have Hr := Lib.hid (show res = .inl 2 by rw [← Hres.out]; exact readT_2 Hp1.out Hp2.out (by rw [Hn.out]; omega))
    go_wp2_with fail
    generalize w4.alloc (.cells #[.int .i64 n, .slice none 0 0, .slice none 0 0] 54) = W4 at *
    have cB := Lib.hid H4.out.bad
    refine cB.out.mono ?_
    rintro e wz ⟨rfl, hbz⟩
    have Bz := Lib.hid (below_of B4.out B4.out.size hbz)
    obtain ⟨y0, y1, y2, y3, y4, y5, y6⟩ := (H4.out.below hbz).cell
    clear hbz cB
    go_wp2_with fail
    refine bodyPost_ret (v := .tuple #[.agg #[.int .i64 0, .slice none 0 0, .slice none 0 0], .int .i64 40, .int .i64 (placeW s.data.toList (2))]) (by simp [results, Tryz.results69, go_sem, y1, y2, y3]) rfl (readEnd_l ?_ Hr.out)
    exact ((Bz.out.setCell (Nat.le_refl _) _).setCell (Nat.le_refl _) _).setCell (Nat.le_refl _) _
  have b3 : decide (n < 0) = false := decide_eq_false hv
  obtain ⟨hi3, hw3'⟩ := next_is K3.out K3n.out (Hne.out (by omega))
  have HW3 := Lib.hid hw3'
  have Hp3 := Lib.hid (show 0 ≤ valI ((texts s.data.toList).getD 2 []) 1000000 by rw [Hn.out]; omega)
  have h0n : 0 ≤ n := by omega
  clear hv hi3 hw3'
  go_wp2_with fail
  generalize w4.alloc (.cells #[.int .i64 n, .slice none 0 0, .slice none 0 0] 54) = W4 at *
  have cN := Lib.hid (next_at (w.heap.size + 1) s a3 3 _ W4 H4.out.at_ hs HW3.out)
  refine cN.out.mono ?_
  rintro e w5 ⟨t4, a4, rfl, hts4, hn1, hn2, hn3, hn4⟩
  have H5 := Lib.hid (H4.out.grown hn2 hn1)
  have G4 := Lib.hid hn2
  have B5 := Lib.hid (B4.out.trans (below_grown hn2 (Nat.le_succ _) B4.out.size))
  have K5 := Lib.hid hn3
  have K5n := Lib.hid hn4
  clear hn1 hn2 hn3 hn4 cN
  have C5 := Lib.hid (C4.out.grown G4.out (by simp; omega))
  have D4 := Lib.hid (textsD_of K5.out K5n.out)
  clear v0 v1 v2 v3 v4 v5 v6
  obtain ⟨v0, v1, v2, v3, v4, v5, v6⟩ := H5.out.cell
  have hsz := Lib.size_eq t4
  have ht4 : t4.size ≤ 1048576 := by omega
  cases hnum : isNum t4.data.toList with
  | false =>
    have Hr := Lib.hid (show res = .inl 3 by rw [← Hres.out]; exact readT_3 Hp1.out Hp2.out Hp3.out (by rw [D4.out]; exact hnum))
    rcases notNum_cases t4 hnum with hemp | ⟨hemp, hnd⟩ | ⟨hemp, hnd, h0s, b4, b5⟩
    · clear hnum hsz
      have cB := Lib.hid H5.out.bad
      go_wp2_with fail
      refine cB.out.mono ?_
      rintro e wz ⟨rfl, hbz⟩
      have Bz := Lib.hid (below_of B5.out B5.out.size hbz)
      obtain ⟨y0, y1, y2, y3, y4, y5, y6⟩ := (H5.out.below hbz).cell
      clear hbz cB
      go_wp2_with fail
      refine bodyPost_ret (v := .tuple #[.agg #[.int .i64 0, .slice none 0 0, .slice none 0 0], .int .i64 40, .int .i64 (placeW s.data.toList (3))]) (by simp [results, Tryz.results69, go_sem, y1, y2, y3]) rfl (readEnd_l ?_ Hr.out)
      exact ((Bz.out.setCell (Nat.le_refl _) _).setCell (Nat.le_refl _) _).setCell (Nat.le_refl _) _
    · clear hnum hsz
      have cT := Lib.hid (trimDig_calls t4 w5 ht4)
      rw [hnd] at cT
      go_wp2_with fail
      refine cT.out.mono ?_
      rintro e w6 ⟨⟨t, rfl, ht⟩, hb6⟩
      have H6 := Lib.hid (H5.out.below hb6)
      have B6 := Lib.hid (below_of B5.out B5.out.size hb6)
      clear hb6 cT v0 v1 v2 v3 v4 v5 v6
      obtain ⟨v0, v1, v2, v3, v4, v5, v6⟩ := H6.out.cell
      have cB := Lib.hid H6.out.bad
      go_wp2_with fail
      refine cB.out.mono ?_
      rintro e wz ⟨rfl, hbz⟩
      have Bz := Lib.hid (below_of B6.out B6.out.size hbz)
      obtain ⟨y0, y1, y2, y3, y4, y5, y6⟩ := (H6.out.below hbz).cell
      clear hbz cB
      go_wp2_with fail
      refine bodyPost_ret (v := .tuple #[.agg #[.int .i64 0, .slice none 0 0, .slice none 0 0], .int .i64 40, .int .i64 (placeW s.data.toList (3))]) (by simp [results, Tryz.results69, go_sem, y1, y2, y3]) rfl (readEnd_l ?_ Hr.out)
      exact ((Bz.out.setCell (Nat.le_refl _) _).setCell (Nat.le_refl _) _).setCell (Nat.le_refl _) _
    · clear hnum hsz
      have cT := Lib.hid (trimDig_calls t4 w5 ht4)
      rw [hnd] at cT
      go_wp2_with fail
      refine cT.out.mono ?_
      rintro e w6 ⟨⟨t, rfl, ht⟩, hb6⟩
      have H6 := Lib.hid (H5.out.below hb6)
      have B6 := Lib.hid (below_of B5.out B5.out.size hb6)
      clear hb6 cT v0 v1 v2 v3 v4 v5 v6
      obtain ⟨v0, v1, v2, v3, v4, v5, v6⟩ := H6.out.cell
      have cB := Lib.hid H6.out.bad
      go_wp2_with fail
      refine cB.out.mono ?_
      rintro e wz ⟨rfl, hbz⟩
      have Bz := Lib.hid (below_of B6.out B6.out.size hbz)
      obtain ⟨y0, y1, y2, y3, y4, y5, y6⟩ := (H6.out.below hbz).cell
      clear hbz cB
      go_wp2_with fail
      refine bodyPost_ret (v := .tuple #[.agg #[.int .i64 0, .slice none 0 0, .slice none 0 0], .int .i64 40, .int .i64 (placeW s.data.toList (3))]) (by simp [results, Tryz.results69, go_sem, y1, y2, y3]) rfl (readEnd_l ?_ Hr.out)
      exact ((Bz.out.setCell (Nat.le_refl _) _).setCell (Nat.le_refl _) _).setCell (Nat.le_refl _) _
  | true =>
    obtain ⟨hemp, hnd, h0s, b45⟩ := isNum_cases t4 hnum
    have cT := Lib.hid (trimDig_calls t4 w5 ht4)
    rw [hnd] at cT
    have Hnum := Lib.hid hnum
    obtain ⟨hi4, hw4⟩ := next_is K5.out K5n.out (isNum_parts hnum).1
    have HW5 := Lib.hid hw4
    have Hi4 := Lib.hid hi4
    have hm : (texts s.data.toList).length ≤ s.size := by rw [texts_length, Lib.size_eq]; exact Nat.le_trans (words_length _ _) (by omega)
    have Hm := Lib.hid hm
    have hLb := valI_bd t4.data.toList s.size (by omega)
    have HM := Lib.hid (show readT (texts s.data.toList) = tailT n (texts s.data.toList) (manyL n (texts s.data.toList) (countC (valI t4.data.toList s.size) (texts s.data.toList).length) 4) by
      rw [readT_ok Hp1.out Hp2.out Hp3.out (by rw [D4.out]; exact hnum), Hn.out, D4.out, many_count n hnum hm (by omega)])
    rw [Hres.out] at HM
    have cL := Lib.hid (fun W hW => number_calls t4 s.size W ht4 (by omega) (by omega) hW)
    generalize hL : valI t4.data.toList s.size = L at cL HM hLb
    obtain ⟨hL1, hL2⟩ := hLb
    generalize hC : countC L (texts s.data.toList).length = C at HM
    have HC := Lib.hid hC
    generalize hmr : manyL n (texts s.data.toList) C 4 = mr at HM
    have Hmr := Lib.hid hmr
    clear hnum hsz hi4 hw4 hL hC hmr hm
    rcases b45 with b4 | ⟨b4, b5⟩
    all_goals
      go_wp2_with fail
      refine cT.out.mono ?_
      rintro e w6 ⟨⟨t, rfl, ht⟩, hb6⟩
      have H6 := Lib.hid (H5.out.below hb6)
      have B6 := Lib.hid (below_of B5.out B5.out.size hb6)
      have C6 := Lib.hid (C5.out.below hb6)
      clear hb6 cT v0 v1 v2 v3 v4 v5 v6
      go_wp2_with fail
      refine (cL.out _ (HR.out.below B6.out)).mono ?_
      rintro e w7 ⟨rfl, hb7⟩
      have H7 := Lib.hid (H6.out.below hb7)
      have B7 := Lib.hid (below_of B6.out B6.out.size hb7)
      have C7 := Lib.hid (C6.out.below hb7)
      clear hb7 cL
      go_wp2_with fail
      go_loopg [9] C (fun g lv wx => ∃ (k i a : Nat) (f : Int) (R : List (List Int)) (vs : List Value) (vc : Value), lv = .int .i64 (L - (k : Int)) ∧ Hid (k + g = C) ∧ 4 + k ≤ i ∧ Hid (i ≤ (texts s.data.toList).length) ∧ Hid (RdW wx w.heap.size s a f) ∧
        Hid (Below w.heap.size w wx) ∧ Hid (WAt s.data.toList a i) ∧ Hid (Blk wx w4.heap.size 54 #[.int .i64 n, vc, .slice none 0 0]) ∧ Hid (OwnC wx (w.heap.size + 3) vc vs R) ∧ Hid (ApartN vs) ∧ Hid (R.length = k) ∧ Hid (aheadC R (manyL n (texts s.data.toList) g i) = mr))
      case atStart => exact ⟨0, 4, a4, _, [], [], .slice none 0 0, by simp, by simp [Hid], by omega, Hi4.out, H7.out, B7.out, HW5.out, C7.out, ⟨World.ownsRow_nil _ _ _ _, All2.nil _⟩, List.Pairwise.nil, rfl, by rw [aheadC_nil]; exact Hmr.out⟩
      case round =>
        obtain ⟨k, i, a, f, R, vs, vc, rfl, Hk, h4i, Him, HW, HB, HA, HK, HO, HAp, HRl, HMn⟩ := hrel
        obtain ⟨x0, x1, x2, x3, x4, x5, x6⟩ := HW.out.cell
        have hkm : k ≤ 1048576 := by have := Him.out; have := Hm.out; omega
        cases gk with
        | zero =>
          have hLk : L - (k : Int) = 0 := by
            have h1 := Hk.out
            have h2 := HC.out
            have h3 := Him.out
            unfold countC at h2
            split at h2 <;> omega
          have b6 : ((L - (k : Int)) != 0) = false := by rw [hLk]; rfl
          have HLk := Lib.hid hLk
          clear hLk
          have HM0 := Lib.hid (show mr = .inr (R, i) by rw [← HMn.out, manyL]; simp [aheadC])
          have cN := Lib.hid (next_at (w.heap.size + 1) s a i f wr HW.out.at_ hs HA.out)
          go_wp2_with fail
          refine cN.out.mono ?_
          rintro e w8 ⟨t8, a8, rfl, hts8, hn1, hn2, hn3, hn4⟩
          have H8 := Lib.hid (HW.out.grown hn2 hn1)
          have B8 := Lib.hid (HB.out.trans (below_grown hn2 (Nat.le_succ _) HB.out.size))
          have C8 := Lib.hid (HK.out.grown hn2 (by simp; omega))
          have O8 := Lib.hid (HO.out.grown_p hn2 (by omega))
          have K8 := Lib.hid hn3
          have K8n := Lib.hid hn4
          have hbase : w.heap.size + 3 ≤ w8.heap.size := by have := H8.out.var.lt; omega
          clear hn1 hn2 hn3 hn4 cN x0 x1 x2 x3 x4 x5 x6
          obtain ⟨x0, x1, x2, x3, x4, x5, x6⟩ := H8.out.cell
          by_cases hi8 : i < (texts s.data.toList).length
          · obtain ⟨ht8, hA8⟩ := K8.out hi8
            have Ht8 := Lib.hid ht8
            have A8 := Lib.hid hA8
            have hne := texts_ne ht8
            have b7 : t8.toList.isEmpty = false := by rw [Lib.toList_data]; cases e : t8.data.toList with | nil => exact absurd e hne | cons _ _ => rfl
            clear ht8 hA8 hne
            by_cases ha : t8.data.toList = [97]
            · have b8 := str_eq ha
              have Ha := Lib.hid (show (texts s.data.toList)[i]? = some [97] by rw [Ht8.out, ha])
              have c0 : w8.cell? ⟨w4.heap.size, 0, none⟩ = some (.int .i64 n) := by have := C8.out.cell 0; simpa using this
              have cC := Lib.hid (clause_calls (w.heap.size + 1) s n a8 (i + 1) _ w8 H8.out.at_ hs h0n (by omega) A8.out (HR.out.below B8.out) (by have := Hlt.out; omega))
              have hlim := Him.out
              clear ha
              go_wp2_with fail
              refine cC.out.mono ?_
              rintro e w9 hE
              cases hl : litsL n ((texts s.data.toList).drop (i + 1)) (i + 1) with
              | inl j =>
                rw [hl] at hE
                obtain ⟨hg9, rfl, a9, hk9⟩ := hE
                have H9 := Lib.hid (H8.out.grown hg9 hk9)
                have B9 := Lib.hid (B8.out.trans (below_grown hg9 (Nat.le_succ _) B8.out.size))
                have Hr := Lib.hid (show res = .inl j by rw [HM.out, HM0.out, tailT, if_pos Ha.out, hl])
                clear hl hg9 hk9 cC x0 x1 x2 x3 x4 x5 x6 c0
                obtain ⟨x0, x1, x2, x3, x4, x5, x6⟩ := H9.out.cell
                have cB := Lib.hid H9.out.bad
                go_wp2_with fail
                refine cB.out.mono ?_
                rintro e wz ⟨rfl, hbz⟩
                have Bz := Lib.hid (below_of B9.out B9.out.size hbz)
                obtain ⟨y0, y1, y2, y3, y4, y5, y6⟩ := (H9.out.below hbz).cell
                clear hbz cB
                go_wp2_with fail
                refine bodyPost_ret (v := .tuple #[.agg #[.int .i64 0, .slice none 0 0, .slice none 0 0], .int .i64 40, .int .i64 (placeW s.data.toList (j))]) (by simp [results, Tryz.results69, go_sem, y1, y2, y3]) rfl (readEnd_l ?_ Hr.out)
                exact ((Bz.out.setCell (Nat.le_refl _) _).setCell (Nat.le_refl _) _).setCell (Nat.le_refl _) _
              | inr lj =>
                obtain ⟨l, j⟩ := lj
                rw [hl] at hE
                obtain ⟨hg9, v, rfl, hv9, a9, f9, hk9, hA9⟩ := hE
                have Hl := Lib.hid hl
                have H9 := Lib.hid (H8.out.grown hg9 hk9)
                have B9 := Lib.hid (B8.out.trans (below_grown hg9 (Nat.le_succ _) B8.out.size))
                have A9 := Lib.hid hA9
                have V9 := Lib.hid hv9
                have C9 := Lib.hid (C8.out.grown hg9 (by simp; omega))
                have O9 := Lib.hid (show OwnC w9 (w.heap.size + 3) vc vs R from O8.out.grown_p hg9 (by omega))
                have hvt := Lib.hid (show ∀ u ∈ vs, u.ownBlock = none ∨ u.ownBlock ≠ v.ownBlock from fun u hu => by
                  cases e : u.ownBlock with
                  | none => exact .inl rfl
                  | some q =>
                    right
                    intro e2
                    have h1 := O8.out.lt u hu q e
                    have h2 := own_base hv9 q e2.symm
                    omega)
                obtain ⟨Avc, cvc, rfl, _, _, _⟩ := CellsAt.of_own O9.out.1
                obtain ⟨Av, cv, rfl, _⟩ := ownI_form hv9
                have hp8 : w.heap.size + 1 < w8.heap.size := by omega
                clear hl hg9 hk9 hv9 hA9 cC x0 x1 x2 x3 x4 x5 x6 c0
                obtain ⟨x0, x1, x2, x3, x4, x5, x6⟩ := H9.out.cell
                have cN := Lib.hid (next_at (w.heap.size + 1) s a9 j f9 w9 H9.out.at_ hs A9.out)
                go_wp2_with fail
                refine cN.out.mono ?_
                rintro e w10 ⟨t10, a10, rfl, hts10, hn1, hn2, hn3, hn4⟩
                have H10 := Lib.hid (H9.out.grown hn2 hn1)
                have B10 := Lib.hid (B9.out.trans (below_grown hn2 (Nat.le_succ _) B9.out.size))
                have C10 := Lib.hid (C9.out.grown hn2 (by simp; omega))
                have O10 := Lib.hid (O9.out.grown_p hn2 (by omega))
                have V10 := Lib.hid (show OwnI w10 w8.heap.size 3 (.slice Av l.length cv) l from own_kept_p V9.out hn2 hp8)
                have K10 := Lib.hid hn3
                have K10n := Lib.hid hn4
                clear hn1 hn2 hn3 hn4 cN x0 x1 x2 x3 x4 x5 x6
                obtain ⟨x0, x1, x2, x3, x4, x5, x6⟩ := H10.out.cell
                by_cases hj10 : j < (texts s.data.toList).length
                · obtain ⟨ht10, hA10⟩ := K10.out hj10
                  have hne := texts_ne ht10
                  have b9 : t10.toList.isEmpty = false := by rw [Lib.toList_data]; cases e : t10.data.toList with | nil => exact absurd e hne | cons _ _ => rfl
                  have Hr := Lib.hid (show res = .inl j by rw [HM.out, HM0.out, tailT, if_pos Ha.out, Hl.out]; exact if_pos hj10)
                  clear ht10 hA10 hne
                  have cB := Lib.hid H10.out.bad
                  go_wp2_with fail
                  refine cB.out.mono ?_
                  rintro e wz ⟨rfl, hbz⟩
                  have Bz := Lib.hid (below_of B10.out B10.out.size hbz)
                  obtain ⟨y0, y1, y2, y3, y4, y5, y6⟩ := (H10.out.below hbz).cell
                  clear hbz cB
                  go_wp2_with fail
                  refine bodyPost_ret (v := .tuple #[.agg #[.int .i64 0, .slice none 0 0, .slice none 0 0], .int .i64 40, .int .i64 (placeW s.data.toList (j))]) (by simp [results, Tryz.results69, go_sem, y1, y2, y3]) rfl (readEnd_l ?_ Hr.out)
                  exact ((Bz.out.setCell (Nat.le_refl _) _).setCell (Nat.le_refl _) _).setCell (Nat.le_refl _) _
                · obtain ⟨ht10, hA10⟩ := K10n.out hj10
                  have b9 : t10.toList.isEmpty = true := by rw [Lib.toList_data, ht10]; rfl
                  have Hr := Lib.hid (show res = .inr (n, R, l) by rw [HM.out, HM0.out, tailT, if_pos Ha.out, Hl.out]; exact if_neg hj10)
                  clear ht10 hA10
                  have c0 : w10.cell? ⟨w4.heap.size, 0, none⟩ = some (.int .i64 n) := by have := C10.out.cell 0; simpa using this
                  have c1 : w10.cell? ⟨w4.heap.size, 1, none⟩ = some (.slice Avc vs.length cvc) := by have := C10.out.cell 1; simpa using this
                  have c2 : w10.cell? ⟨w4.heap.size, 2, none⟩ = some (.slice none 0 0) := by have := C10.out.cell 2; simpa using this
                  have z2 : w10.frozen? ⟨w4.heap.size, 2, none⟩ = false := C10.out.frozen 2
                  have C11 := Lib.hid (C10.out.at2 (u := .slice Av l.length cv) rfl)
                  have H11 := Lib.hid (H10.out.far (p := ⟨w4.heap.size, 2, none⟩) (by show w.heap.size ≠ w4.heap.size; omega) (by show w.heap.size + 1 ≠ w4.heap.size; omega) (by show w.heap.size + 2 ≠ w4.heap.size; omega) (.slice Av l.length cv))
                  have B11 := Lib.hid (B10.out.setCell (p := ⟨w4.heap.size, 2, none⟩) (by show w.heap.size ≤ w4.heap.size; omega) (.slice Av l.length cv))
                  have O11 := Lib.hid (O10.out.set_blk C10.out (by decide) (by decide) 2 (.slice Av l.length cv))
                  have V11 := Lib.hid (show OwnI (w10.setCell ⟨w4.heap.size, 2, none⟩ (.slice Av l.length cv)) w8.heap.size 3 (.slice Av l.length cv) l from own_setCell_blk V10.out C10.out (by decide) 2 _)
                  go_wp2_with fail
                  refine bodyPost_ret (v := .tuple #[.agg #[.int .i64 n, .slice Avc vs.length cvc, .slice Av l.length cv], .int .i64 0, .int .i64 0]) (by simp [results, Tryz.results69, go_sem, x1, x2, x3]) rfl
                    (readEnd_r (vs := vs) (((B11.out.setCell (Nat.le_refl _) _).setCell (Nat.le_refl _) _).setCell (Nat.le_refl _) _) Hr.out ?_ ?_ HAp.out hvt.out)
                  · exact OwnC.lower (((O11.out.set_blk H11.out.res (by decide) (by decide) 0 _).set_blk (H11.out.res.set_ 0 _) (by decide) (by decide) 1 _).set_blk ((H11.out.res.set_ 0 _).set_ 1 _) (by decide) (by decide) 2 _) (by omega)
                  · exact OwnI.lower (own_setCell_blk (own_setCell_blk (own_setCell_blk V11.out H11.out.res (by decide) 0 _) (H11.out.res.set_ 0 _) (by decide) 1 _) ((H11.out.res.set_ 0 _).set_ 1 _) (by decide) 2 _) (by omega)
            · have b8 := str_ne ha
              have Hr := Lib.hid (show res = .inl i by
                rw [HM.out, HM0.out, tailT, if_neg (by rw [Ht8.out]; intro e; injection e with e; exact ha e), if_pos hi8])
              clear ha
              have cB := Lib.hid H8.out.bad
              go_wp2_with fail
              refine cB.out.mono ?_
              rintro e wz ⟨rfl, hbz⟩
              have Bz := Lib.hid (below_of B8.out B8.out.size hbz)
              obtain ⟨y0, y1, y2, y3, y4, y5, y6⟩ := (H8.out.below hbz).cell
              clear hbz cB
              go_wp2_with fail
              refine bodyPost_ret (v := .tuple #[.agg #[.int .i64 0, .slice none 0 0, .slice none 0 0], .int .i64 40, .int .i64 (placeW s.data.toList (i))]) (by simp [results, Tryz.results69, go_sem, y1, y2, y3]) rfl (readEnd_l ?_ Hr.out)
              exact ((Bz.out.setCell (Nat.le_refl _) _).setCell (Nat.le_refl _) _).setCell (Nat.le_refl _) _
          · obtain ⟨ht8, hA8⟩ := K8n.out hi8
            have b7 : t8.toList.isEmpty = true := by rw [Lib.toList_data, ht8]; rfl
            have Hr := Lib.hid (show res = .inr (n, R, []) by
              rw [HM.out, HM0.out, tailT, if_neg (by rw [List.getElem?_eq_none (by omega)]; simp), if_neg hi8])
            clear ht8 hA8
            have c0 : w8.cell? ⟨w4.heap.size, 0, none⟩ = some (.int .i64 n) := by have := C8.out.cell 0; simpa using this
            have c1 : w8.cell? ⟨w4.heap.size, 1, none⟩ = some vc := by have := C8.out.cell 1; simpa using this
            have c2 : w8.cell? ⟨w4.heap.size, 2, none⟩ = some (.slice none 0 0) := by have := C8.out.cell 2; simpa using this
            obtain ⟨Avc, cvc, rfl, _, _, _⟩ := CellsAt.of_own O8.out.1
            go_wp2_with fail
            refine bodyPost_ret (v := .tuple #[.agg #[.int .i64 n, .slice Avc vs.length cvc, .slice none 0 0], .int .i64 0, .int .i64 0]) (by simp [results, Tryz.results69, go_sem, x1, x2, x3]) rfl
              (readEnd_r (vs := vs) (((B8.out.setCell (Nat.le_refl _) _).setCell (Nat.le_refl _) _).setCell (Nat.le_refl _) _) Hr.out ?_ (OwnI.nil _ _ _) HAp.out (fun u hu => ?_))
            · exact OwnC.lower (((O8.out.set_blk H8.out.res (by decide) (by decide) 0 _).set_blk (H8.out.res.set_ 0 _) (by decide) (by decide) 1 _).set_blk ((H8.out.res.set_ 0 _).set_ 1 _) (by decide) (by decide) 2 _) (by omega)
            · cases e : u.ownBlock with
              | none => exact .inl rfl
              | some q => exact .inr (by simp [Value.ownBlock])
        | succ g =>
          have b6 : ((L - (k : Int)) != 0) = true := by
            rw [bne_iff_ne]
            have h1 := Hk.out
            have h2 := HC.out
            unfold countC at h2
            split at h2 <;> omega
          have c0 : wr.cell? ⟨w4.heap.size, 0, none⟩ = some (.int .i64 n) := by have := HK.out.cell 0; simpa using this
          have cC := Lib.hid (clause_calls (w.heap.size + 1) s n a i f wr HW.out.at_ hs h0n (by omega) HA.out (HR.out.below HB.out) (by have := Hlt.out; omega))
          have hMs := HMn.out
          go_wp2_with fail
          refine cC.out.mono ?_
          rintro e w8 hE
          cases hl : litsL n ((texts s.data.toList).drop i) i with
          | inl j =>
            rw [hl] at hE
            obtain ⟨hg8, rfl, a8, hk8⟩ := hE
            have H8 := Lib.hid (HW.out.grown hg8 hk8)
            have B8 := Lib.hid (HB.out.trans (below_grown hg8 (Nat.le_succ _) HB.out.size))
            have Hr := Lib.hid (show res = .inl j by
              rw [HM.out, ← hMs, manyL, hl]; rfl)
            clear hl hg8 hk8 hMs cC x0 x1 x2 x3 x4 x5 x6 c0
            obtain ⟨x0, x1, x2, x3, x4, x5, x6⟩ := H8.out.cell
            have cB := Lib.hid H8.out.bad
            go_wp2_with fail
            refine cB.out.mono ?_
            rintro e wz ⟨rfl, hbz⟩
            have Bz := Lib.hid (below_of B8.out B8.out.size hbz)
            obtain ⟨y0, y1, y2, y3, y4, y5, y6⟩ := (H8.out.below hbz).cell
            clear hbz cB
            go_wp2_with fail
            refine bodyPost_ret (v := .tuple #[.agg #[.int .i64 0, .slice none 0 0, .slice none 0 0], .int .i64 40, .int .i64 (placeW s.data.toList (j))]) (by simp [results, Tryz.results69, go_sem, y1, y2, y3]) rfl (readEnd_l ?_ Hr.out)
            exact ((Bz.out.setCell (Nat.le_refl _) _).setCell (Nat.le_refl _) _).setCell (Nat.le_refl _) _
          | inr lj =>
            obtain ⟨l, j⟩ := lj
            rw [hl] at hE
            obtain ⟨hg8, v, rfl, hv8, a8, f8, hk8, hA8⟩ := hE
            have Hl := Lib.hid hl
            have H8 := Lib.hid (HW.out.grown hg8 hk8)
            have B8 := Lib.hid (HB.out.trans (below_grown hg8 (Nat.le_succ _) HB.out.size))
            have A8 := Lib.hid hA8
            have V8 := Lib.hid hv8
            have hne8 : w4.heap.size ≠ w.heap.size + 1 := by omega
            have C8 := Lib.hid (HK.out.grown hg8 (by simp; omega))
            have O8 := Lib.hid (show OwnC w8 (w.heap.size + 3) vc vs R from HO.out.grown_p hg8 (by omega))
            have HM2 := Lib.hid (show aheadC (R ++ [l]) (manyL n (texts s.data.toList) g j) = mr by rw [← hMs, manyL, hl]; exact aheadC_step R l _)
            have hjb := (litsL_bd n ((texts s.data.toList).drop i) i).2 l j hl
            have hjm : j ≤ (texts s.data.toList).length := by rw [List.length_drop] at hjb; have := Him.out; omega
            have hij : i + 1 ≤ j := by omega
            have Hjm := Lib.hid hjm
            have Ap2 := Lib.hid (show ApartN (vs ++ [v]) from HAp.out.snoc (fun u hu q hq => HO.out.lt u hu q hq) (fun q hq => own_base hv8 q hq))
            have hvl : vs.length ≤ 1048576 := by have h1 := HO.out.2.1; have h2 := HRl.out; omega
            obtain ⟨Avc, cvc, rfl, _, _, _⟩ := CellsAt.of_own O8.out.1
            obtain ⟨Av, cv, rfl, _⟩ := ownI_form hv8
            clear hl hg8 hk8 hMs cC hv8 hA8 hjb hjm x0 x1 x2 x3 x4 x5 x6 c0
            obtain ⟨x0, x1, x2, x3, x4, x5, x6⟩ := H8.out.cell
            have c1 : w8.cell? ⟨w4.heap.size, 1, none⟩ = some (.slice Avc vs.length cvc) := by have := C8.out.cell 1; simpa using this
            have hbase : w.heap.size + 3 ≤ w8.heap.size := by have := H8.out.var.lt; omega
            go_wp2_with ((
              at_builtin
              refine app1 (w0 := w8) (w.heap.size + 3) rfl (.tmp 90) (.tmp 92) 29 25 (.slice none 0 0) 24 rfl Tryz.underlying29 info_ints rfl (.slice Avc vs.length cvc) vs.length vs (.slice Av l.length cv) rfl rfl rfl (by exact O8.out.1) (by exact Below.refl _ _) (by exact hbase) (by omega) (by omega) ?_
              intro v9 w9 own9 hb9 hgr9 hat9
              obtain ⟨g9, cap9, rfl, _, _⟩ := own9.form (by omega)
              have O9 := Lib.hid own9
              have Hgr := Lib.hid hgr9
              have B9 := Lib.hid (B8.out.grown hgr9 B8.out.size (fun q hq => by have := own_base O8.out.1 q hq; omega))
              have C9 := Lib.hid (C8.out.grown_row O8.out.1 (by decide) hgr9)
              have c9 : w9.cell? ⟨w4.heap.size, 1, none⟩ = some (.slice Avc vs.length cvc) := by
                have := C9.out.cell 1
                simpa using this
              have z9 := C9.out.frozen 1
              clear own9 hb9 hgr9 hat9 x0 x1 x2 x3 x4 x5 x6 c1))
            have R9 := Lib.hid (H8.out.grown_row O8.out.1 (by decide) (by decide) (by decide) Hgr.out)
            have V9 := Lib.hid (show OwnI w9 (w.heap.size + 3) 3 (.slice Av l.length cv) l from own_grown_row (own_lower V8.out (by have := HW.out.var.lt; omega)) O8.out.1 (by decide) Hgr.out)
            have O10 := Lib.hid (show OwnC w9 (w.heap.size + 3) (.slice (some ⟨g9, 0, none⟩) (vs.length + 1) cap9) (vs ++ [.slice Av l.length cv]) (R ++ [l]) from
              ⟨by have h := O9.out; simpa using h, (All2.imp O8.out.2 (fun _ _ _ _ h => own_grown_row h O8.out.1 (by decide) Hgr.out)).snoc V9.out⟩)
            go_wp2_with fail
            go_roundg g
            case measure => omega
            case rel =>
              refine ⟨k + 1, j, a8, f8, R ++ [l], vs ++ [Value.slice Av l.length cv], _, i64_eq (by omega), by show _ = _; have := Hk.out; omega, by omega, Hjm.out, R9.out.far (p := ⟨w4.heap.size, 1, none⟩) (by show w.heap.size ≠ w4.heap.size; omega) (by show w.heap.size + 1 ≠ w4.heap.size; omega) (by show w.heap.size + 2 ≠ w4.heap.size; omega) _, B9.out.setCell (by show w.heap.size ≤ w4.heap.size; omega) _, A8.out, C9.out.at1 rfl, O10.out.set_blk C9.out (by decide) (by decide) 1 _, Ap2.out, by simp [Hid, HRl.out], HM2.out⟩

end Go.Proofs.YtnadmnhkfdkafaaGreatDoor
