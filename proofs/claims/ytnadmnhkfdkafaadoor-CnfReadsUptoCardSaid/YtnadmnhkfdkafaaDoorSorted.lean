/- Contract: the document's Sorted: literals in their order, none twice. -/
import Derived.Test.YtnadmnhkfdkafaaDoorReadF
import Derived.Test.YtnadmnhkfdkafaaDoorOwn
import Derived.Test.YtnadmnhkfdkafaaDoorOwnC
namespace Go.Proofs.YtnadmnhkfdkafaaDoor
open Go.RowKit
set_option linter.unusedVariables false
set_option linter.unusedSimpArgs false

theorem sortS_mem (xs : List Int) (z : Int) (h : z ∈ sortS xs) : z ∈ xs := (sortG_mem ltL_total xs z).1 h
theorem sortS_length (xs : List Int) : (sortS xs).length ≤ xs.length := sortG_length xs
theorem sortS_take {xs : List Int} {k : Nat} {x : Int} (h : xs[k]? = some x) : sortS (xs.take (k + 1)) = insG ltL x (sortS (xs.take k)) := sortG_take h


/-- the row on the way, place j being free -/
theorem shift_step {m : List Int} {p : Nat} {a y : Int} (hy : m[p]? = some y) : (m.take (p + 1) ++ a :: m.drop (p + 1)).set (p + 1) y = m.take p ++ y :: m.drop p := by
  have hp := (List.getElem?_eq_some_iff.1 hy).1
  rw [List.set_append_right _ _ (by simp; omega)]
  simp only [List.length_take]
  rw [show p + 1 - min (p + 1) m.length = 0 by omega, List.set_cons_zero, List.take_add_one, hy, drop_cons hy]
  simp
theorem free_get {m : List Int} {p : Nat} {a : Int} (hp : p < m.length) : (m.take (p + 1) ++ a :: m.drop (p + 1))[p]? = m[p]? := by
  rw [List.getElem?_append_left (by simp; omega), List.getElem?_take, if_pos (by omega)]
theorem free_at {m : List Int} {j : Nat} {a : Int} (h : j ≤ m.length) : (m.take j ++ a :: m.drop j)[j]? = some a := by
  rw [List.getElem?_append_right (by simp; omega)]
  simp [Nat.min_eq_left h]
theorem map_set_int (xs : List Int) (j : Nat) (y : Int) : (xs.map (Value.int .i64)).set j (.int .i64 y) = (xs.set j y).map (Value.int .i64) := by rw [List.map_set]

set_option maxHeartbeats 2000000 in
set_option maxRecDepth 100000 in
theorem sorted_calls (A : Option Addr) (c : Nat) (xs : List Int) (w : World) (hx : IntsAt w A xs) (hl : xs.length ≤ 1099511627776) (hbd : ∀ x ∈ xs, -1000000 ≤ x ∧ x ≤ 1000000) :
    Calls Tryd.prog 19 #[.slice A xs.length c] w fun e w' => ∃ v, e = .returned v ∧ w'.ownsRow w.heap.size 3 1 v (sortS xs).length ((sortS xs).map (Value.int .i64)) ∧ Below w.heap.size w w' := by
  have HX := Lib.hid hx
  have HD := Lib.hid hbd
  clear hx hbd
  go_enter Tryd.func19, Tryd.ntmps19
  go_wp2
  go_loopw [3, 4] (fun v i wr => ∃ k : Nat, k ≤ xs.length ∧ i = .int .i64 k ∧ Hid (wr.ownsRow w.heap.size 3 1 v (sortS (xs.take k)).length ((sortS (xs.take k)).map (Value.int .i64))) ∧ Hid (Below w.heap.size w wr)) (fun _ i _ => xs.length - (intOf i).toNat)
  case atStart => exact ⟨0, Nat.zero_le _, rfl, World.ownsRow_nil _ _ _ _, Below.refl _ _⟩
  case round =>
    obtain ⟨k, hk, rfl, hown, hb⟩ := hrel
    obtain ⟨wo, rfl⟩ : ∃ wo : World, wo = wr := ⟨_, rfl⟩
    by_cases hlt : k < xs.length
    · have hml : (sortS (xs.take k)).length ≤ k := by have := sortS_length (xs.take k); simp at this; omega
      have Hbm := Lib.hid (show ∀ z ∈ sortS (xs.take k), -1000000 ≤ z ∧ z ≤ 1000000 from fun z hz => HD.out z (List.mem_of_mem_take (sortS_mem _ z hz)))
      obtain ⟨ad, x, rfl, hcell, Hx⟩ := (HX.out.below hb.out).get hlt
      have Hst := Lib.hid (sortS_take Hx.out)
      generalize sortS (xs.take k) = m at hown hml Hbm Hst
      obtain ⟨bx0, bx1⟩ := HD.out x (List.mem_of_getElem? Hx.out)
      obtain ⟨Am, cm, rfl, hlm, hcm, HM⟩ := CellsAt.of_own hown.out
      have HM' := Lib.hid (show IntsAt wo Am m from HM)
      clear HM
      have hszo : w.heap.size ≤ wo.heap.size := hb.out.size
      have hlz : (k : Int) < xs.length := by omega
      go_wp2_with fail
      go_loopw [5] (fun i w2 => ∃ (j q : Nat), j ≤ m.length ∧ i = .int .i64 j ∧ w2 = wo.drewN q ∧ Hid (posG ltL x m j = posG ltL x m m.length)) (fun i _ => (intOf i).toNat)
      case atStart => exact ⟨m.length, 0, Nat.le_refl _, rfl, rfl, rfl⟩
      case round =>
        obtain ⟨j, q, hj, rfl, rfl, hpos⟩ := hrel
        have hcellq : (wo.drewN q).cell? (ad.add k) = some (.int .i64 x) := hcell
        rcases Nat.eq_zero_or_pos j with hj0 | hj0
        case inl =>
          subst hj0
          have Hs := Lib.hid (show sortS (xs.take (k + 1)) = m.take 0 ++ x :: m.drop 0 by rw [Hst.out]; have := hpos.out; unfold insG; simp only; rw [← this]; simp [posG])
          go_wp2_with fail
          go_quiet (fail)
          go_wp2_with fail
          go_quiet (fail)
          go_wp2_with ((at_builtin; refine app1 (w0 := w) w.heap.size rfl (.tmp 45) (.tmp 46) 23 3 (.int .i64 0) 8 rfl Tryd.underlying23 info_int rfl _ m.length (m.map (Value.int .i64)) _ rfl rfl rfl (by exact hown.out) (by exact below_drewN hb.out _) (by exact hszo) (by omega) (by omega) ?_; intro v1 w1 own1 hb1 hgr1 hat1; clear hgr1 hat1; obtain ⟨g, cap, rfl, hgB, hgs⟩ := own1.form (by omega); have Own1 := Lib.hid own1; have Hb1 := Lib.hid hb1; clear own1 hb1))
          go_loopw [6] (fun i wr => ∃ (jj : Nat) (y' : Int), 0 ≤ jj ∧ jj ≤ m.length ∧ i = .int .i64 jj ∧ Hid (wr.ownsRow w.heap.size 3 1 (.slice (some ⟨g, 0, none⟩) (m.length + 1) cap) (m.length + 1) ((m.take jj ++ y' :: m.drop jj).map (Value.int .i64))) ∧ Hid (Below w.heap.size w wr)) (fun i _ => (intOf i).toNat)
          case atStart => exact ⟨m.length, 0, by omega, Nat.le_refl _, by go_num, by have h := Own1.out; simpa [Hid] using h, Hb1.out⟩
          case round =>
            obtain ⟨jj, y', hjj0, hjj, rfl, own3, hb3⟩ := hrel
            have hfz : ∀ t, wr.frozen? ⟨g, t, none⟩ = false := fun t => own3.out.frozenAt t
            have hcj : wr.cell? ⟨g, jj, none⟩ = some (.int .i64 y') := own_at own3.out (by rw [List.getElem?_map, free_at hjj]; rfl)
            rcases Nat.lt_or_ge 0 jj with hlt3 | hge3
            · obtain ⟨p3, hp3⟩ : ∃ p3 : Nat, p3 + 1 = jj := ⟨jj - 1, by omega⟩
              have Hp3 := Lib.hid hp3
              have hp3l : p3 < m.length := by omega
              have Hy3 := Lib.hid (List.getElem?_eq_getElem hp3l)
              generalize m[p3] = y3 at Hy3
              have hcp : wr.cell? ⟨g, p3, none⟩ = some (.int .i64 y3) := own_at own3.out (by rw [List.getElem?_map, ← Hp3.out, free_get hp3l, Hy3.out]; rfl)
              have hww1 : IntKind.i64.wrap ((jj : Int) - 1) = (p3 : Int) := by rw [IntWalk.i64_in _ (by omega)]; omega
              have hww2 : wrap64 ((jj : Int) - 1) = (p3 : Int) := by unfold wrap64; omega
              have hww3 : (jj : Int) - 1 = (p3 : Int) := by omega
              have own4 := Lib.hid (own_set own3.out jj (.int .i64 y3))
              have own5 := Lib.hid (show (wr.setCell ⟨g, jj, none⟩ (.int .i64 y3)).ownsRow w.heap.size 3 1 (.slice (some ⟨g, 0, none⟩) (m.length + 1) cap) (m.length + 1) ((m.take p3 ++ y3 :: m.drop p3).map (Value.int .i64)) by have h := own4.out; rw [map_set_int, ← Hp3.out, shift_step Hy3.out, Hp3.out] at h; exact h)
              have hb4 := Lib.hid (hb3.out.setCell (p := ⟨g, jj, none⟩) hgB (.int .i64 y3))
              clear hp3 own4
              go_wp2_with fail
              exact ⟨⟨p3, y3, by have := Hp3.out; omega, by omega, by go_num, own5.out, hb4.out⟩, by simp [intOf]; have := Hp3.out; omega⟩
            · have hjj' : jj = 0 := by omega
              have own4 := Lib.hid (own_set own3.out 0 (.int .i64 x))
              have own5 := Lib.hid (show (wr.setCell ⟨g, 0, none⟩ (.int .i64 x)).ownsRow w.heap.size 3 1 (.slice (some ⟨g, 0, none⟩) (m.length + 1) cap) (sortS (xs.take (k + 1))).length ((sortS (xs.take (k + 1))).map (Value.int .i64)) by
                have h := own4.out
                rw [map_set_int, hjj', List.set_append_right _ _ (by simp <;> omega)] at h
                simp only [List.length_take] at h
                rw [show 0 - min 0 m.length = 0 by omega, List.set_cons_zero] at h
                rw [Hs.out]
                have hl2 : (m.take 0 ++ x :: m.drop 0).length = m.length + 1 := by simp <;> omega
                rw [hl2]
                exact h)
              have hb4 := Lib.hid (hb3.out.setCell (p := ⟨g, 0, none⟩) hgB (.int .i64 x))
              have hcx : wr.cell? (ad.add k) = some (.int .i64 x) := by
                obtain ⟨ad9, x9, e9, h9, hx9⟩ := (HX.out.below hb3.out).get hlt
                cases e9
                have h8 := Hx.out
                rw [hx9] at h8
                injection h8 with h8
                rw [← h8]; exact h9
              subst hjj'
              clear own4
              go_wp2_with fail
              exact ⟨⟨k + 1, by omega, by go_num, own5.out, hb4.out⟩, by simp [intOf]; omega⟩
        case inr =>
          obtain ⟨p, hp⟩ : ∃ p : Nat, p + 1 = j := ⟨j - 1, by omega⟩
          have Hp := Lib.hid hp
          have hpl : p < m.length := by omega
          have hw1 : IntKind.i64.wrap ((j : Int) - 1) = (p : Int) := by rw [IntWalk.i64_in _ (by omega)]; omega
          have hw2 : wrap64 ((j : Int) - 1) = (p : Int) := by unfold wrap64; omega
          have hg1 : decide ((0 : Int) < (j : Int)) = true := by simp; omega
          have hg2 : decide (0 < j) = true := by simp; omega
          have hplz : (p : Int) < m.length := by omega
          clear hp
          obtain ⟨ad1, y, rfl, hcell1, Hy⟩ := HM'.out.get hpl
          obtain ⟨by0, by1⟩ := Hbm.out y (List.mem_of_getElem? Hy.out)
          have c2 := Lib.hid (fun i : Nat => (refBefore_calls x y (wo.drewN i) (by omega) (by omega) (by omega) (by omega)).mono (R' := fun e w' => e = .returned (.bool (ltL x y)) ∧ ∃ j, w' = (wo.drewN i).drewN j) fun _ _ ⟨he, hm⟩ => ⟨he, 0, hm.symm⟩)
          by_cases hq : ltL x y = true
          · have Hs := Lib.hid (show posG ltL x m p = posG ltL x m m.length by rw [← hpos.out, ← Hp.out, posG_step Hy.out, if_pos hq])
            rw [hq] at c2
            clear hq
            go_wp2_with fail
            go_quiet ((exact quiet_at c2.out))
            go_wp2_with fail
            exact ⟨⟨p, _, by omega, by go_num, by first | rfl | (simp only [World.drewN_drewN]; rfl), Hs⟩, by simp [intOf]; have := Hp.out; omega⟩
          · have hq' : ltL x y = false := by simpa using hq
            rw [hq'] at c2
            by_cases hxy : y = x
            · have b2 : (y == x) = true := beq_iff_eq.2 hxy
              have Hs := Lib.hid (show sortS (xs.take (k + 1)) = m by
                rw [Hst.out]; have h1 := hpos.out; rw [← Hp.out, posG_step Hy.out, hq', if_neg (by simp)] at h1
                unfold insG; simp only; rw [← h1, if_pos ⟨by omega, by rw [show p + 1 - 1 = p by omega, List.getD_eq_getElem?_getD, Hy.out]; exact hxy⟩])
              clear hq hq' hxy
              go_wp2_with fail
              go_quiet ((exact quiet_at c2.out))
              go_wp2_with fail
              go_quiet (fail)
              go_wp2_with fail
              exact ⟨⟨k + 1, by omega, by go_num, by rw [Hs.out]; exact hown.out, below_drewN hb.out _⟩, by simp [intOf]; omega⟩
            · have b2 : (y == x) = false := beq_eq_false_iff_ne.2 hxy
              have Hs := Lib.hid (show sortS (xs.take (k + 1)) = m.take j ++ x :: m.drop j by
                rw [Hst.out]; have h1 := hpos.out; rw [← Hp.out, posG_step Hy.out, hq', if_neg (by simp)] at h1
                unfold insG; simp only; rw [← h1, if_neg (fun h => hxy (by have := h.2; rwa [show p + 1 - 1 = p by omega, List.getD_eq_getElem?_getD, Hy.out] at this)), Hp.out])
              clear hq hq' hxy
              go_wp2_with fail
              go_quiet ((exact quiet_at c2.out))
              go_wp2_with fail
              go_quiet (fail)
              go_wp2_with ((at_builtin; refine app1 (w0 := w) w.heap.size rfl (.tmp 45) (.tmp 46) 23 3 (.int .i64 0) 8 rfl Tryd.underlying23 info_int rfl _ m.length (m.map (Value.int .i64)) _ rfl rfl rfl (by exact hown.out) (by exact below_drewN hb.out _) (by exact hszo) (by omega) (by omega) ?_; intro v1 w1 own1 hb1 hgr1 hat1; clear hgr1 hat1; obtain ⟨g, cap, rfl, hgB, hgs⟩ := own1.form (by omega); have Own1 := Lib.hid own1; have Hb1 := Lib.hid hb1; clear own1 hb1))
              go_loopw [6] (fun i wr => ∃ (jj : Nat) (y' : Int), j ≤ jj ∧ jj ≤ m.length ∧ i = .int .i64 jj ∧ Hid (wr.ownsRow w.heap.size 3 1 (.slice (some ⟨g, 0, none⟩) (m.length + 1) cap) (m.length + 1) ((m.take jj ++ y' :: m.drop jj).map (Value.int .i64))) ∧ Hid (Below w.heap.size w wr)) (fun i _ => (intOf i).toNat)
              case atStart => exact ⟨m.length, 0, by omega, Nat.le_refl _, by go_num, by have h := Own1.out; simpa [Hid] using h, Hb1.out⟩
              case round =>
                obtain ⟨jj, y', hjj0, hjj, rfl, own3, hb3⟩ := hrel
                have hfz : ∀ t, wr.frozen? ⟨g, t, none⟩ = false := fun t => own3.out.frozenAt t
                have hcj : wr.cell? ⟨g, jj, none⟩ = some (.int .i64 y') := own_at own3.out (by rw [List.getElem?_map, free_at hjj]; rfl)
                rcases Nat.lt_or_ge j jj with hlt3 | hge3
                · obtain ⟨p3, hp3⟩ : ∃ p3 : Nat, p3 + 1 = jj := ⟨jj - 1, by omega⟩
                  have Hp3 := Lib.hid hp3
                  have hp3l : p3 < m.length := by omega
                  have Hy3 := Lib.hid (List.getElem?_eq_getElem hp3l)
                  generalize m[p3] = y3 at Hy3
                  have hcp : wr.cell? ⟨g, p3, none⟩ = some (.int .i64 y3) := own_at own3.out (by rw [List.getElem?_map, ← Hp3.out, free_get hp3l, Hy3.out]; rfl)
                  have hww1 : IntKind.i64.wrap ((jj : Int) - 1) = (p3 : Int) := by rw [IntWalk.i64_in _ (by omega)]; omega
                  have hww2 : wrap64 ((jj : Int) - 1) = (p3 : Int) := by unfold wrap64; omega
                  have hww3 : (jj : Int) - 1 = (p3 : Int) := by omega
                  have own4 := Lib.hid (own_set own3.out jj (.int .i64 y3))
                  have own5 := Lib.hid (show (wr.setCell ⟨g, jj, none⟩ (.int .i64 y3)).ownsRow w.heap.size 3 1 (.slice (some ⟨g, 0, none⟩) (m.length + 1) cap) (m.length + 1) ((m.take p3 ++ y3 :: m.drop p3).map (Value.int .i64)) by have h := own4.out; rw [map_set_int, ← Hp3.out, shift_step Hy3.out, Hp3.out] at h; exact h)
                  have hb4 := Lib.hid (hb3.out.setCell (p := ⟨g, jj, none⟩) hgB (.int .i64 y3))
                  clear hp3 own4
                  go_wp2_with fail
                  exact ⟨⟨p3, y3, by have := Hp3.out; omega, by omega, by go_num, own5.out, hb4.out⟩, by simp [intOf]; have := Hp3.out; omega⟩
                · have hjj' : jj = j := by omega
                  have own4 := Lib.hid (own_set own3.out j (.int .i64 x))
                  have own5 := Lib.hid (show (wr.setCell ⟨g, j, none⟩ (.int .i64 x)).ownsRow w.heap.size 3 1 (.slice (some ⟨g, 0, none⟩) (m.length + 1) cap) (sortS (xs.take (k + 1))).length ((sortS (xs.take (k + 1))).map (Value.int .i64)) by
                    have h := own4.out
                    rw [map_set_int, hjj', List.set_append_right _ _ (by simp <;> omega)] at h
                    simp only [List.length_take] at h
                    rw [show j - min j m.length = 0 by omega, List.set_cons_zero] at h
                    rw [Hs.out]
                    have hl2 : (m.take j ++ x :: m.drop j).length = m.length + 1 := by simp <;> omega
                    rw [hl2]
                    exact h)
                  have hb4 := Lib.hid (hb3.out.setCell (p := ⟨g, j, none⟩) hgB (.int .i64 x))
                  have hcx : wr.cell? (ad.add k) = some (.int .i64 x) := by
                    obtain ⟨ad9, x9, e9, h9, hx9⟩ := (HX.out.below hb3.out).get hlt
                    cases e9
                    have h8 := Hx.out
                    rw [hx9] at h8
                    injection h8 with h8
                    rw [← h8]; exact h9
                  subst hjj'
                  clear own4
                  go_wp2_with fail
                  exact ⟨⟨k + 1, by omega, by go_num, own5.out, hb4.out⟩, by simp [intOf]; omega⟩
    · have hkk : xs.take k = xs := List.take_of_length_le (by omega)
      have own1 := Lib.hid (show wo.ownsRow w.heap.size 3 1 u3 (sortS xs).length ((sortS xs).map (Value.int .i64)) by have h := hown.out; rwa [hkk] at h)
      clear hown hkk
      obtain ⟨Av, cv, rfl, _⟩ := CellsAt.of_own own1.out
      go_wp2_with fail
      go_ret
      exact ⟨_, rfl, own1.out, hb.out⟩

end Go.Proofs.YtnadmnhkfdkafaaDoor
