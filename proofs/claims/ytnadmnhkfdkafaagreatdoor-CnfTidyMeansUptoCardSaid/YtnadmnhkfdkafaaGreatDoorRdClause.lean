/- Contracts: (*words).next at a word's number, (*words).clause of the program's reader. -/
import Derived.Test.YtnadmnhkfdkafaaGreatDoorRdNext
import Derived.OwnWalk
namespace Go.Proofs.YtnadmnhkfdkafaaGreatDoor
open Go.RowKit
set_option linter.unusedVariables false
set_option linter.unusedSimpArgs false

/-! ### plain -/
/-- the reader stands behind the first i words -/
def WAt (l : List UInt8) (a i : Nat) : Prop := a ≤ l.length ∧ words l a = (words l 0).drop i ∧ i ≤ (words l 0).length
def texts (l : List UInt8) : List (List UInt8) := (words l 0).map (wt l)
def placeW (l : List UInt8) (i : Nat) : Nat := match (words l 0)[i]? with
  | some q => q.1
  | none => l.length
theorem texts_length (l : List UInt8) : (texts l).length = (words l 0).length := by simp [texts]
theorem WAt.start (l : List UInt8) : WAt l 0 0 := ⟨Nat.zero_le _, rfl, Nat.zero_le _⟩
theorem WAt.next {l : List UInt8} {a i : Nat} (h : WAt l a i) :
    skip l a = placeW l i ∧ skip l a ≤ scan whiteB l (skip l a) ∧ scan whiteB l (skip l a) ≤ l.length ∧
      (i < (texts l).length → (texts l)[i]? = some ((l.take (scan whiteB l (skip l a))).drop (skip l a)) ∧ WAt l (scan whiteB l (skip l a)) (i + 1)) ∧
      (¬ i < (texts l).length → skip l a = l.length ∧ WAt l (scan whiteB l (skip l a)) i) := by
  obtain ⟨h1, h2, h3⟩ := h
  obtain ⟨s1, s2, s3⟩ := words_skip l a h1
  have hle : scan whiteB l (skip l a) ≤ l.length := scan_le s2
  rw [h2] at s3
  rw [texts_length]
  by_cases hi : i < (words l 0).length
  · have hne : ((words l 0).drop i) ≠ [] := by simp; omega
    have hlt : skip l a < l.length := by
      by_cases h : skip l a < l.length
      · exact h
      · rw [if_neg h] at s3; exact absurd s3 hne
    rw [if_pos hlt] at s3
    have hg : (words l 0)[i]? = some (skip l a, scan whiteB l (skip l a)) := by
      have := congrArg (·[0]?) s3
      simpa [List.getElem?_drop] using this
    have ht : words l (scan whiteB l (skip l a)) = (words l 0).drop (i + 1) := by
      have := congrArg (List.drop 1) s3
      simpa [List.drop_drop, Nat.add_comm] using this.symm
    refine ⟨by unfold placeW; rw [hg], scan_ge, hle, fun _ => ⟨?_, hle, ht, hi⟩, fun h => absurd hi h⟩
    unfold texts
    rw [List.getElem?_map, hg]; rfl
  · have hd : (words l 0).drop i = [] := List.drop_of_length_le (by omega)
    have hge : ¬ skip l a < l.length := by
      intro h
      rw [if_pos h, hd] at s3
      cases s3
    have he : skip l a = l.length := by omega
    have hn : (words l 0)[i]? = none := List.getElem?_eq_none (by omega)
    refine ⟨by unfold placeW; rw [hn]; exact he, scan_ge, hle, fun h => absurd h hi, fun _ => ⟨he, hle, ?_, h3⟩⟩
    rw [hd, words_end]
    have : skip l a ≤ scan whiteB l (skip l a) := scan_ge
    omega
theorem litsL_at (n : Int) (tx : List (List UInt8)) {i : Nat} {t : List UInt8} (h : tx[i]? = some t) :
    litsL n (tx.drop i) i = if t = [48] then .inr ([], i + 1) else if litI t n = 0 then .inl i else
      match litsL n (tx.drop (i + 1)) (i + 1) with
      | .inl j => .inl j
      | .inr (l, j) => .inr (litI t n :: l, j) := by
  obtain ⟨hi, rfl⟩ := List.getElem?_eq_some_iff.1 h
  rw [List.drop_eq_getElem_cons hi, litsL]
  rfl
theorem litsL_out (n : Int) (tx : List (List UInt8)) {i : Nat} (h : tx.length ≤ i) : litsL n (tx.drop i) i = .inl i := by
  rw [List.drop_of_length_le h, litsL]
/-- what was taken, put ahead -/
def ahead (acc : List Int) : Nat ⊕ (List Int × Nat) → Nat ⊕ (List Int × Nat)
  | .inl j => .inl j
  | .inr (l, j) => .inr (acc ++ l, j)
theorem ahead_nil (r : Nat ⊕ (List Int × Nat)) : ahead [] r = r := by rcases r with j | ⟨l, j⟩ <;> rfl
theorem ahead_step (n : Int) (tx : List (List UInt8)) {i : Nat} {t : List UInt8} (acc : List Int) (h : tx[i]? = some t) (h1 : t ≠ [48]) (h2 : litI t n ≠ 0) :
    ahead acc (litsL n (tx.drop i) i) = ahead (acc ++ [litI t n]) (litsL n (tx.drop (i + 1)) (i + 1)) := by
  rw [litsL_at n tx h, if_neg h1, if_neg h2]
  rcases litsL n (tx.drop (i + 1)) (i + 1) with j | ⟨l, j⟩
  · rfl
  · simp [ahead]
theorem litI_nil (n : Int) : litI [] n = 0 := by
  unfold litI
  rw [if_neg (by simp)]
  rfl

/-! ### next at a word's number -/
abbrev WB (w : World) (p : Nat) (s : ByteArray) (a : Nat) (f : Int) : Prop := Blk w p 174 #[.string s, .int .i64 a, .int .i64 f]
theorem next_at (p : Nat) (s : ByteArray) (a i : Nat) (f : Int) (w : World) (hB : WB w p s a f) (hs : s.size ≤ 1048576) (hA : WAt s.data.toList a i) :
    Calls Tryz.prog 109 #[.pointer (some ⟨p, 0, none⟩)] w fun e w' => ∃ (t : ByteArray) (a' : Nat), e = .returned (.string t) ∧ t.size ≤ s.size ∧
      WB w' p s a' (placeW s.data.toList i) ∧ w.grownBy w' (some p) ∧
      (i < (texts s.data.toList).length → (texts s.data.toList)[i]? = some t.data.toList ∧ WAt s.data.toList a' (i + 1)) ∧ (¬ i < (texts s.data.toList).length → t.data.toList = [] ∧ WAt s.data.toList a' i) := by
  obtain ⟨n1, n2, n3, n4, n5⟩ := hA.next
  refine (next_calls p s a f w hB hs (by rw [Lib.size_eq]; exact hA.1)).mono ?_
  rintro e w' ⟨rfl, h2, h3⟩
  rw [n1] at h2
  refine ⟨_, _, rfl, by simp; omega, h2, h3, fun h => ?_, fun h => ?_⟩
  · rw [n1] at n4
    obtain ⟨m1, m2⟩ := n4 h
    refine ⟨?_, m2⟩
    rw [m1, n1, Lib.extract_data, List.drop_take]
  · rw [n1] at n5
    obtain ⟨m1, m2⟩ := n5 h
    refine ⟨?_, m2⟩
    rw [n1, Lib.extract_data, m1, List.drop_of_length_le (Nat.le_refl _), List.take_nil]

theorem infoW : (Tryz.prog.info? 3).map (fun i => (i.zero, i.size, i.bytes)) = some (some (.int .i64 0), 1, 8) := by kernel_rfl
theorem RangeV.grown {w w' : World} {p : Nat} (h : RangeV w) (hg : w.grownBy w' (some p)) (hp : p ≠ 2) : RangeV w' := by
  obtain ⟨tp, q, h⟩ := h
  have hc : w.cell? ⟨2, 0, none⟩ = some (.iface tp q) := by have := World.var?_cell gRange h 0; simpa using this
  refine ⟨tp, q, ?_⟩
  unfold World.var? at h ⊢
  simp only [gRange, Option.bind_some] at h ⊢
  rw [hg.block _ (World.block_lt_of_cell? w _ hc) (fun e => by injection e with e; exact hp e.symm)]
  exact h
/-- an append to an own row, seen from a world in which only the block p is written -/
theorem grown_append {a b c : World} {p : Nat} {r : Option Nat} (h : a.grownBy b (some p)) (k : b.grownBy c r) (hr : ∀ j, r = some j → a.heap.size ≤ j) : a.grownBy c (some p) := World.grownBy.andThen h k (fun j hj => .inl (hr j hj))
theorem own_base {w : World} {B e s n : Nat} {v : Value} {xs : List Value} (h : w.ownsRow B e s v n xs) : ∀ j, v.ownBlock = some j → B ≤ j := by
  intro j hj
  rcases h.2 with ⟨rfl, _⟩ | ⟨g, cap, cur, rfl, hg, _⟩
  · simp [Value.ownBlock] at hj
  · simp [Value.ownBlock] at hj; omega
theorem own_kept_p {a b : World} {B p e s n : Nat} {v : Value} {xs : List Value} (h : a.ownsRow B e s v n xs) (k : a.grownBy b (some p)) (hp : p < B) : b.ownsRow B e s v n xs := by
  refine h.kept k ?_
  cases hv : v.ownBlock with
  | none => exact .inl rfl
  | some j =>
    right
    have := own_base h j hv
    intro e
    injection e with e
    omega
theorem str_ne {t : ByteArray} {l : List UInt8} (h : t.data.toList ≠ l) : (t.toList == l) = false := by rw [Lib.toList_data]; simpa using h
theorem str_eq {t : ByteArray} {l : List UInt8} (h : t.data.toList = l) : (t.toList == l) = true := by rw [Lib.toList_data]; simpa using h

/-- how a clause is told -/
def ClauseEnd (w : World) (p : Nat) (s : ByteArray) (res : Nat ⊕ (List Int × Nat)) (e : Ending) (w' : World) : Prop :=
  w.grownBy w' (some p) ∧ match res with
    | .inl j => e = .returned (.tuple #[.slice none 0 0, .bool false]) ∧ ∃ a' : Nat, WB w' p s a' (placeW s.data.toList j)
    | .inr (l, j) => ∃ v, e = .returned (.tuple #[v, .bool true]) ∧ OwnI w' w.heap.size 3 v l ∧ ∃ (a' : Nat) (f' : Int), WB w' p s a' f' ∧ WAt s.data.toList a' j
theorem clauseEnd_l {w w' : World} {p : Nat} {s : ByteArray} {res : Nat ⊕ (List Int × Nat)} {j a' : Nat} (hg : w.grownBy w' (some p)) (hr : res = .inl j) (hk : WB w' p s a' (placeW s.data.toList j)) :
    ClauseEnd w p s res (.returned (.tuple #[.slice none 0 0, .bool false])) w' := by
  subst hr; exact ⟨hg, rfl, a', hk⟩
theorem clauseEnd_r {w w' : World} {p : Nat} {s : ByteArray} {res : Nat ⊕ (List Int × Nat)} {l : List Int} {j a' : Nat} {f' : Int} {v : Value} (hg : w.grownBy w' (some p)) (hr : res = .inr (l, j)) (ho : OwnI w' w.heap.size 3 v l) (hk : WB w' p s a' f') (hw : WAt s.data.toList a' j) :
    ClauseEnd w p s res (.returned (.tuple #[v, .bool true])) w' := by
  subst hr; exact ⟨hg, v, rfl, ho, a', f', hk, hw⟩

set_option maxHeartbeats 8000000 in
set_option maxRecDepth 100000 in
theorem clause_calls (p : Nat) (s : ByteArray) (n : Int) (a0 i0 : Nat) (f : Int) (w : World) (hB : WB w p s a0 f) (hs : s.size ≤ 1048576) (hn0 : 0 ≤ n) (hn1 : n ≤ 1048576) (hA : WAt s.data.toList a0 i0) (hr : RangeV w) (hpr : p ≠ 2) :
    Calls Tryz.prog 112 #[.pointer (some ⟨p, 0, none⟩), .int .i64 n] w (ClauseEnd w p s (litsL n ((texts s.data.toList).drop i0) i0)) := by
  have HB := Lib.hid hB
  have HA := Lib.hid hA
  have HR := Lib.hid hr
  have Hpr := Lib.hid hpr
  have hlen : (texts s.data.toList).length ≤ s.size := by
    rw [texts_length, Lib.size_eq]; exact Nat.le_trans (words_length _ _) (by omega)
  have Hlen := Lib.hid hlen
  have hplt := Lib.hid hB.lt
  generalize hres : litsL n ((texts s.data.toList).drop i0) i0 = res
  have Hres := Lib.hid hres
  clear hB hA hr hpr hlen hres
  go_enter Tryz.func112, Tryz.ntmps112
  go_wp2_with fail
  go_loopg [6] ((texts s.data.toList).length - i0) (fun g v wx => ∃ (k a : Nat) (f : Int) (acc : List Int), Hid ((texts s.data.toList).length ≤ i0 + k + g) ∧ Hid (WB wx p s a f) ∧ Hid (w.grownBy wx (some p)) ∧ Hid (WAt s.data.toList a (i0 + k)) ∧
    Hid (OwnI wx w.heap.size 3 v acc) ∧ acc.length = k ∧ Hid (ahead acc (litsL n ((texts s.data.toList).drop (i0 + k)) (i0 + k)) = res))
  case atStart => exact ⟨0, a0, f, [], (by show _ ≤ _; omega), HB.out, World.grownBy.refl _ _, HA.out, OwnI.nil _ _ _, rfl, by rw [ahead_nil]; exact Hres.out⟩
  case round =>
    obtain ⟨k, a, f, acc, Hg, HK, HG, HW, HO, hacc, HL⟩ := hrel
    have Hacc := Lib.hid hacc
    clear hacc
    have cN := Lib.hid (next_at p s a (i0 + k) f wr HK.out hs HW.out)
    go_wp2_with fail
    refine cN.out.mono ?_
    rintro e w1 ⟨t, a1, rfl, hts, h1, h2, h3, h4⟩
    have K1 := Lib.hid h1
    have G1 := Lib.hid (grown_trans HG.out h2)
    have O1 := Lib.hid (show OwnI w1 w.heap.size 3 u6 acc from own_kept_p HO.out h2 hplt.out)
    have H3 := Lib.hid h3
    have H4 := Lib.hid h4
    clear h1 h2 h3 h4 cN
    have HR1 := Lib.hid (HR.out.grown G1.out Hpr.out)
    by_cases hi : i0 + k < (texts s.data.toList).length
    · obtain ⟨ht, hw1⟩ := H3.out hi
      have Ht := Lib.hid ht
      have HW1 := Lib.hid hw1
      clear ht hw1
      by_cases h48 : t.data.toList = [48]
      · have b1 := str_eq h48
        have Hr := Lib.hid (show res = .inr (acc, i0 + k + 1) by
          rw [← HL.out, litsL_at n _ Ht.out, if_pos h48]; simp [ahead])
        clear h48
        go_wp2_with fail
        go_ret2
        exact clauseEnd_r G1.out Hr.out O1.out K1.out HW1.out
      · have b1 := str_ne h48
        have H48 := Lib.hid h48
        have cL := Lib.hid (rdLiteral_calls t n w1 (by omega) hn0 hn1 HR1.out)
        clear h48
        generalize hx : litI t.data.toList n = x at cL
        have Hx := Lib.hid hx
        clear hx
        go_wp2_with fail
        refine cL.out.mono ?_
        rintro e w2 ⟨rfl, hb⟩
        have K2 := Lib.hid (K1.out.below hb)
        have G2 := Lib.hid (grown_trans G1.out (grown_below hb))
        have O2 := Lib.hid (O1.out.below hb)
        clear hb
        by_cases hx0 : x = 0
        · have b2 : (x == 0) = true := by rw [hx0]; rfl
          have Hr := Lib.hid (show res = .inl (i0 + k) by
            rw [← HL.out, litsL_at n _ Ht.out, if_neg H48.out, if_pos (by rw [Hx.out]; exact hx0)]; rfl)
          clear hx0
          go_wp2_with fail
          go_ret2
          exact clauseEnd_l G2.out Hr.out K2.out
        · have b2 : (x == 0) = false := by simpa using hx0
          have HL2 := Lib.hid (show ahead (acc ++ [x]) (litsL n ((texts s.data.toList).drop (i0 + k + 1)) (i0 + k + 1)) = res by
            rw [← Hx.out, ← ahead_step n _ acc Ht.out H48.out (by rw [Hx.out]; exact hx0)]; exact HL.out)
          clear hx0
          have hkl : acc.length ≤ 1048576 := by have := Hacc.out; have := Hlen.out; omega
          have hbase := Lib.hid G2.out.size
          go_wp2_with ((at_builtin; refine app1 (w0 := w2) w.heap.size rfl (.tmp 19) (.tmp 21) 25 3 (.int .i64 0) 8 rfl Tryz.underlying25 infoW rfl _ acc.length (acc.map (Value.int .i64)) _ rfl rfl rfl (by exact O2.out) (by exact Below.refl _ _) (by exact hbase.out) (by omega) (by omega) ?_; intro v1 w3 own3 hb3 hgr3 hat3; have O3 := Lib.hid own3; have Hgr := Lib.hid hgr3; clear own3 hb3 hgr3 hat3))
          have G3 := Lib.hid (grown_append G2.out Hgr.out (own_base O2.out))
          have K3 := Lib.hid (show WB w3 p s a1 _ from K2.out.grown Hgr.out (fun e => by have := own_base O2.out p e.symm; have := hplt.out; omega))
          have O4 := Lib.hid (show OwnI w3 w.heap.size 3 v1 (acc ++ [x]) by unfold OwnI; simpa using O3.out)
          go_wp2_with fail
          go_roundg ((texts s.data.toList).length - (i0 + k + 1))
          case measure => have := Hg.out; omega
          case rel => exact ⟨k + 1, a1, _, acc ++ [x], (by show _ ≤ _; omega), K3.out, G3.out, HW1.out, O4.out, by simp [Hacc.out], HL2.out⟩
    · obtain ⟨ht, hw1⟩ := H4.out hi
      have b0 := str_ne (t := t) (l := [48]) (by rw [ht]; simp)
      have cL := Lib.hid (rdLiteral_calls t n w1 (by omega) hn0 hn1 HR1.out)
      rw [ht, litI_nil] at cL
      have Hr := Lib.hid (show res = .inl (i0 + k) by rw [← HL.out, litsL_out n _ (by omega)]; rfl)
      clear ht hw1
      go_wp2_with fail
      refine cL.out.mono ?_
      rintro e w2 ⟨rfl, hb⟩
      have K2 := Lib.hid (K1.out.below hb)
      have G2 := Lib.hid (grown_trans G1.out (grown_below hb))
      clear hb
      go_wp2_with fail
      go_ret2
      exact clauseEnd_l G2.out Hr.out K2.out

end Go.Proofs.YtnadmnhkfdkafaaGreatDoor
