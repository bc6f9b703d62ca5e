/- Contracts: the document's place, Literals over the words of a text. -/
import Derived.Test.YtnadmnhkfdkafaaDoorRfWords
namespace Go.Proofs.YtnadmnhkfdkafaaDoor
open Go.RowKit
set_option linter.unusedVariables false
set_option linter.unusedSimpArgs false

/-- the words' row as it is read -/
def WsAt (w : World) (A : Option Addr) (s : ByteArray) : Prop := CellsAt w A ((words s.data.toList 0).flatMap (wordV s))
theorem WsAt.below {w w' : World} {A : Option Addr} {s : ByteArray} (h : WsAt w A s) (hb : Below w.heap.size w w') : WsAt w' A s := CellsAt.below h hb
theorem WsAt.of_own {w : World} {B : Nat} {v : Value} {s : ByteArray} (h : w.ownsRow B 89 2 v (words s.data.toList 0).length ((words s.data.toList 0).flatMap (wordV s))) :
    ∃ A c, v = .slice A (words s.data.toList 0).length c ∧ (words s.data.toList 0).length ≤ c ∧ c ≤ 9223372036854775807 ∧ WsAt w A s := by
  have hl := h.1
  rcases h.2 with ⟨rfl, he⟩ | ⟨g, cap, cur, rfl, hg, hh, hc, hm, hs, ht⟩
  · have hn : (words s.data.toList 0).length = 0 := by
      have := wordV_length s (words s.data.toList 0)
      rw [he] at this; simp at this; omega
    exact ⟨none, 0, by rw [hn], by omega, by omega, by unfold WsAt; rw [List.eq_nil_of_length_eq_zero hn]; exact CellsAt.nil _ _⟩
  · exact ⟨_, cap, rfl, hc, by simpa [maxLen] using hm, .inr ⟨_, rfl, h.cells (g := g) rfl⟩⟩
theorem wordV_at (s : ByteArray) : ∀ (D : List (Nat × Nat)) (k : Nat) (q : Nat × Nat), D[k]? = some q → (D.flatMap (wordV s))[k * 2]? = some (.string (s.extract q.1 q.2)) ∧ (D.flatMap (wordV s))[k * 2 + 1]? = some (.int .i64 q.1)
  | [], k, q, h => by simp at h
  | d :: D, 0, q, h => by
    simp at h; subst h
    rw [List.flatMap_cons]
    exact ⟨rfl, rfl⟩
  | d :: D, k + 1, q, h => by
    have ih := wordV_at s D k q (by simpa using h)
    rw [List.flatMap_cons, List.getElem?_append_right (by simp [wordV]; omega), List.getElem?_append_right (by simp [wordV]; omega)]
    have e1 : (k + 1) * 2 - (wordV s d).length = k * 2 := by simp [wordV]; omega
    have e2 : (k + 1) * 2 + 1 - (wordV s d).length = k * 2 + 1 := by simp [wordV]; omega
    rw [e1, e2]
    exact ih
theorem WsAt.get {w : World} {A : Option Addr} {s : ByteArray} (h : WsAt w A s) {i : Nat} (hi : i < (texts s.data.toList).length) :
    ∃ (ad : Addr) (t : ByteArray), A = some ad ∧ w.cell? (ad.add (i * 2)) = some (.string t) ∧ w.cell? ⟨(ad.add (i * 2)).block, (ad.add (i * 2)).off + 1, none⟩ = some (.int .i64 (placeW s.data.toList i)) ∧
      t.size ≤ s.size ∧ Hid ((texts s.data.toList)[i]? = some t.data.toList) := by
  rw [texts_length] at hi
  have hq := List.getElem?_eq_getElem hi
  obtain ⟨h1, h2⟩ := wordV_at s _ i _ hq
  rcases h with h | ⟨ad, rfl, hc⟩
  · rw [h] at h1; simp at h1
  · refine ⟨ad, _, rfl, hc _ _ h1, ?_, by simp; omega, ?_⟩
    · have e : (⟨(ad.add (i * 2)).block, (ad.add (i * 2)).off + 1, none⟩ : Addr) = (ad.add (i * 2)).add 1 := rfl
      rw [e, Addr.add_add, hc _ _ h2]
      unfold placeW
      rw [hq]
    · unfold texts
      show _ = _
      rw [List.getElem?_map, hq, Lib.extract_data, ← List.drop_take]; rfl

set_option maxHeartbeats 1000000 in
theorem place_calls (s : ByteArray) (A : Option Addr) (c i : Nat) (w : World) (h : WsAt w A s) (hs : s.size ≤ 1048576) :
    Calls Tryd.prog 47 #[.slice A (words s.data.toList 0).length c, .int .i64 i, .string s] w fun e w' => e = .returned (.int .i64 (placeW s.data.toList i)) ∧ w = w' := by
  have hm : (words s.data.toList 0).length ≤ s.size := by rw [Lib.size_eq]; exact Nat.le_trans (words_length _ _) (by omega)
  by_cases hlt : i < (texts s.data.toList).length
  · obtain ⟨ad, t, rfl, c0, c1, _, _⟩ := h.get hlt
    rw [texts_length] at hlt
    have hz : (i : Int) < ((words s.data.toList 0).length : Int) := by omega
    clear h
    generalize placeW s.data.toList i = q at *
    generalize (words s.data.toList 0).length = m at *
    go_enter Tryd.func47, Tryd.ntmps47
    go_wp2_with fail
    go_ret
    exact ⟨rfl, rfl⟩
  · have Hp := Lib.hid (show placeW s.data.toList i = s.size by
      unfold placeW
      rw [texts_length] at hlt
      rw [List.getElem?_eq_none (by omega), Lib.size_eq])
    rw [texts_length] at hlt
    have hz : ¬ ((i : Int) < ((words s.data.toList 0).length : Int)) := by omega
    clear h
    generalize placeW s.data.toList i = q at *
    generalize (words s.data.toList 0).length = m at *
    go_enter Tryd.func47, Tryd.ntmps47
    go_wp2_with fail
    go_ret
    exact ⟨ret_i64 (by rw [Hp.out]), rfl⟩

/-- how literals are told -/
def LitsEnd (w : World) (res : Nat ⊕ (List Int × Nat)) (e : Ending) (w' : World) : Prop :=
  Below w.heap.size w w' ∧ match res with
    | .inl j => e = .returned (.tuple #[.slice none 0 0, .int .i64 (-1), .int .i64 j])
    | .inr (l, j) => ∃ v, e = .returned (.tuple #[v, .int .i64 j, .int .i64 0]) ∧ OwnI w' w.heap.size 3 v l
theorem litsEnd_l {w w' : World} {res : Nat ⊕ (List Int × Nat)} {j : Nat} (hb : Below w.heap.size w w') (hr : res = .inl j) : LitsEnd w res (.returned (.tuple #[.slice none 0 0, .int .i64 (-1), .int .i64 j])) w' := by
  subst hr; exact ⟨hb, rfl⟩
theorem litsEnd_r {w w' : World} {res : Nat ⊕ (List Int × Nat)} {l : List Int} {j : Nat} {v : Value} {z : Int} (hb : Below w.heap.size w w') (hr : res = .inr (l, j)) (hz : z = j) (ho : OwnI w' w.heap.size 3 v l) : LitsEnd w res (.returned (.tuple #[v, .int .i64 z, .int .i64 0])) w' := by
  subst hr; subst hz; exact ⟨hb, v, rfl, ho⟩

set_option maxHeartbeats 4000000 in
set_option maxRecDepth 100000 in
theorem lits_calls (s : ByteArray) (A : Option Addr) (c i0 : Nat) (n : Int) (w : World) (h : WsAt w A s) (hs : s.size ≤ 1048576) (hi0 : i0 ≤ (texts s.data.toList).length) (hn0 : 0 ≤ n) (hn1 : n ≤ 1048576) :
    Calls Tryd.prog 66 #[.slice A (words s.data.toList 0).length c, .int .i64 i0, .int .i64 n] w (LitsEnd w (litsL n ((texts s.data.toList).drop i0) i0)) := by
  have HW := Lib.hid h
  have hm : (words s.data.toList 0).length ≤ s.size := by rw [Lib.size_eq]; exact Nat.le_trans (words_length _ _) (by omega)
  generalize hres : litsL n ((texts s.data.toList).drop i0) i0 = res
  have Hres := Lib.hid hres
  have Htl := Lib.hid (texts_length s.data.toList)
  rw [texts_length] at hi0
  clear h hres
  generalize hM : (words s.data.toList 0).length = m at *
  have HM := Lib.hid hM
  clear hM
  go_enter Tryd.func66, Tryd.ntmps66
  go_wp2_with fail
  go_loopg [1, 9] m (fun g iv v wx => ∃ (i : Nat) (acc : List Int), iv = .int .i64 i ∧ i ≤ m ∧ m ≤ i + g ∧ acc.length ≤ i ∧ Hid (Below w.heap.size w wx) ∧ Hid (OwnI wx w.heap.size 3 v acc) ∧ Hid (ahead acc (litsL n ((texts s.data.toList).drop i) i) = res))
  case atStart => exact ⟨i0, [], rfl, hi0, by omega, by simp, Below.refl _ _, OwnI.nil _ _ _, by rw [ahead_nil]; exact Hres.out⟩
  case round =>
    obtain ⟨i, acc, rfl, hi, hig, hai, HB, HO, HL⟩ := hrel
    by_cases hlt : i < m
    · obtain ⟨ad, t, rfl, c0, c1, hts, HT⟩ := (HW.out.below HB.out).get (i := i) (by rw [Htl.out]; exact hlt)
      have hz : (i : Int) < (m : Int) := by omega
      clear c1
      by_cases h48 : t.data.toList = [48]
      · have b1 := str_eq h48
        have Hr := Lib.hid (show res = .inr (acc, i + 1) by rw [← HL.out, litsL_at n _ HT.out, if_pos h48]; simp [ahead])
        clear h48
        go_wp2_with fail
        go_ret3
        exact litsEnd_r HB.out Hr.out (by omega) HO.out
      · have b1 := str_ne h48
        have H48 := Lib.hid h48
        have cL := Lib.hid (fun W => asLiteral_calls t n W (by omega) hn0 hn1)
        clear h48
        generalize hx : litI t.data.toList n = x at cL
        have Hx := Lib.hid hx
        clear hx
        go_wp2_with fail
        refine (cL.out _).mono ?_
        rintro e w' ⟨rfl, rfl⟩
        by_cases hx0 : x = 0
        · have b2 : (x == 0) = true := by rw [hx0]; rfl
          have Hr := Lib.hid (show res = .inl i by rw [← HL.out, litsL_at n _ HT.out, if_neg H48.out, if_pos (by rw [Hx.out]; exact hx0)]; rfl)
          clear hx0
          go_wp2_with fail
          go_ret3
          exact litsEnd_l HB.out Hr.out
        · have b2 : (x == 0) = false := by simpa using hx0
          have HL2 := Lib.hid (show ahead (acc ++ [x]) (litsL n ((texts s.data.toList).drop (i + 1)) (i + 1)) = res by
            rw [← Hx.out, ← ahead_step n _ acc HT.out H48.out (by rw [Hx.out]; exact hx0)]; exact HL.out)
          clear hx0
          go_wp2_with ((at_builtin; refine app1 (w0 := w) w.heap.size rfl (.tmp 34) (.tmp 36) 23 3 (.int .i64 0) 8 rfl Tryd.underlying23 infoW rfl _ acc.length (acc.map (Value.int .i64)) _ rfl rfl rfl (by exact HO.out) (by exact HB.out) (by exact HB.out.size) (by omega) (by omega) ?_; intro v1 w3 own3 hb3 hgr3 hat3; have O3 := Lib.hid (show OwnI w3 w.heap.size 3 v1 (acc ++ [x]) by unfold OwnI; simpa using own3); have B3 := Lib.hid hb3; clear own3 hb3 hgr3 hat3))
          go_roundg (m - (i + 1))
          case measure => omega
          case rel => exact ⟨i + 1, acc ++ [x], by go_num, by omega, by omega, by simp; omega, B3, O3, HL2⟩
    · have hz : ¬ ((i : Int) < (m : Int)) := by omega
      have Hr := Lib.hid (show res = .inl i by rw [← HL.out, litsL_out n _ (by rw [Htl.out]; omega)]; rfl)
      go_wp2_with fail
      go_ret3
      exact litsEnd_l HB.out Hr.out

end Go.Proofs.YtnadmnhkfdkafaaDoor
