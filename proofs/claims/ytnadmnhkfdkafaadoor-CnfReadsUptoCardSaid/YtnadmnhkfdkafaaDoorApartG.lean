/- Contract: the law's apart, at own rows of which no two that are not nil lie in one block. -/
import Derived.Test.YtnadmnhkfdkafaaDoorApart
namespace Go.Proofs.YtnadmnhkfdkafaaDoor
open Go.RowKit
set_option linter.unusedVariables false
set_option linter.unusedSimpArgs false

theorem Blk.not_own {w : World} {g t : Nat} {cs : Array Value} (h : Blk w g t cs) {B e s n : Nat} {v : Value} {xs : List Value} (ho : w.ownsRow B e s v n xs) (hne : e ≠ t) : v.ownBlock ≠ some g := (h.ne_own ho hne).symm

theorem Kept.toBelow {B : Nat} {w w' : World} {P : Nat → Prop} (h : Kept w w' P) (hB : B ≤ w.heap.size) (hP : ∀ j, j < B → ¬ P j) : Below B w w' :=
  ⟨h.os, h.tape, h.output, h.size, fun j hj => h.block j (Nat.lt_of_lt_of_le hj hB) (hP j hj)⟩

theorem none_ne_symm {a b : Option Nat} (h : a = none ∨ a ≠ b) : b = none ∨ b ≠ a := by
  rcases h with h | h
  · subst h
    cases b with
    | none => exact .inl rfl
    | some k => exact .inr (by simp)
  · exact .inr h.symm
/-- the rows, the first k of them written full -/
def HalfV (w : World) (B k : Nat) (vs : List Value) (R : List (List Int)) : Prop :=
  ∀ j v l, vs[j]? = some v → R[j]? = some l → OwnI w B 3 v (if j < k then List.replicate l.length (markI j) else l)

set_option maxHeartbeats 4000000 in
set_option maxRecDepth 100000 in
theorem apartG_calls (B : Nat) (n : Int) (vc vt : Value) (vs : List Value) (R : List (List Int)) (ts : List Int) (w : World) (hown : OwnC w B vc vs R) (ht : OwnI w B 3 vt ts) (hap : ApartN vs) (hvt : ∀ v ∈ vs, v.ownBlock = none ∨ v.ownBlock ≠ vt.ownBlock)
    (hB : B ≤ w.heap.size) (hl : vs.length ≤ 1048576) (htl : ts.length ≤ 1048576) (hR : ∀ l ∈ R, l.length ≤ 1048576) :
    Calls Tryd.prog 15 #[.agg #[.int .i64 n, vc, vt], .slice none 0 0] w fun e w' => e = .returned (.bool true) ∧ Below B w w' := by
  obtain ⟨Ac, cc, rfl, _, _, _⟩ := CellsAt.of_own hown.1
  obtain ⟨At, ct, rfl, hIt⟩ := OwnI.form ht
  have HO := Lib.hid hown
  have HT := Lib.hid ht
  have HAp := Lib.hid hap
  have HVt := Lib.hid hvt
  have HRl := Lib.hid hR
  clear hown ht hap hvt hR hIt
  go_enter Tryd.func15, Tryd.ntmps15
  go_wp2_with fail
  go_loopw [6] (fun i wr => ∃ (k : Nat) (vl : Value), k ≤ vs.length ∧ i = .int .i64 k ∧ Hid (Blk wr (w.heap.size + 1) 83 #[vl, .slice none 0 0]) ∧ Hid (wr.ownsRow w.heap.size 23 1 vl k (vs.take k)) ∧ Hid (HalfV wr B k vs R) ∧
    Hid (OwnI wr B 3 (.slice At ts.length ct) ts) ∧ Hid (wr.ownsRow B 23 1 (.slice Ac vs.length cc) vs.length vs) ∧ Hid (Blk wr w.heap.size 25 #[.int .i64 n, .slice Ac vs.length cc, .slice At ts.length ct]) ∧ Hid (Below B w wr)) (fun i _ => (vs.length - intOf i).toNat)
  case atStart =>
    have hbl := ((Below.refl w.heap.size w).alloc (Nat.le_refl _) (.cells #[.int .i64 n, .slice Ac vs.length cc, .slice At ts.length ct] 25)).alloc (by simp) (.cells #[.slice none 0 0, .slice none 0 0] 83)
    refine ⟨0, .slice none 0 0, Nat.zero_le _, rfl, ?_, World.ownsRow_nil _ _ _ _, fun j v l hv hl => ?_, OwnI.below HT.out hbl, own_below HO.out.1 hbl, (Blk.new w _ _).alloc _, ((Below.refl B w).alloc hB _).alloc (by simp; omega) _⟩
    · have h := Blk.new (w.alloc (.cells #[.int .i64 n, .slice Ac vs.length cc, .slice At ts.length ct] 25)) 83 #[.slice none 0 0, .slice none 0 0]
      simpa [Hid] using h
    · rw [if_neg (by omega)]
      exact (HO.out.2.2 j v l hv hl).below hbl
  case round =>
    obtain ⟨k, vl, hk, rfl, hG, hL, hH, hT, hC, hB1, hb⟩ := hrel
    obtain ⟨wo, rfl⟩ : ∃ wo : World, wo = wr := ⟨_, rfl⟩
    have k1 : wo.cell? ⟨w.heap.size, 1, none⟩ = some (.slice Ac vs.length cc) := by have := hB1.out.cell 1; simpa using this
    by_cases hlt : k < vs.length
    · obtain ⟨gc, cc', hAc, _, _⟩ := hC.out.form (by omega)
      injection hAc with hAc _ hcc
      subst hAc
      subst hcc
      obtain ⟨v, hv⟩ : ∃ v, vs[k]? = some v := ⟨_, List.getElem?_eq_getElem hlt⟩
      obtain ⟨l, hl0⟩ : ∃ l, R[k]? = some l := ⟨_, List.getElem?_eq_getElem (by rw [← HO.out.2.1]; exact hlt)⟩
      have hll := HRl.out l (List.mem_of_getElem? hl0)
      have ov : OwnI wo B 3 v l := by have h := hH.out k v l hv hl0; rwa [if_neg (by omega)] at h
      have kv : wo.cell? ⟨gc, k, none⟩ = some v := own_at hC.out hv
      have hlz : (k : Int) < vs.length := by omega
      have cT := Lib.hid (take_calls w.heap.size B (w.heap.size + 1) vl (.slice none 0 0) v (vs.take k) l wo hG.out (by omega) (by rw [List.length_take, Nat.min_eq_left (by omega)]; exact hL.out) ov (by simp; omega) (by omega))
      rw [List.length_take, Nat.min_eq_left (show k ≤ vs.length by omega)] at cT
      go_wp2_with fail
      refine cT.out.mono ?_
      rintro e w2 ⟨rfl, vl', hG2, hL2, hv2, hK⟩
      have keepI : ∀ {u : Value} {x : List Int}, OwnI wo B 3 u x → (u.ownBlock = none ∨ u.ownBlock ≠ v.ownBlock) → OwnI w2 B 3 u x := fun {u x} h hne => hK.own h (fun kk hkk hp => by
        rcases hp with rfl | h1 | h1
        · exact hG.out.not_own h (by decide) hkk
        · rcases hne with h2 | h2
          · rw [h2] at hkk; cases hkk
          · exact h2 (hkk.trans h1.symm)
        · rcases own_ne_type h hL.out (by decide) with h2 | h2
          · rw [h2] at hkk; cases hkk
          · exact h2 (hkk.trans h1.symm))
      have N1 := Lib.hid (show w2.ownsRow w.heap.size 23 1 vl' (k + 1) (vs.take (k + 1)) by rw [List.take_add_one, hv]; exact hL2)
      have N2 := Lib.hid (show HalfV w2 B (k + 1) vs R from fun j u x hu hx => by
        by_cases hjk : j = k
        · subst hjk
          rw [hv] at hu; rw [hl0] at hx
          injection hu with hu; injection hx with hx
          subst hu; subst hx
          rw [if_pos (by omega)]
          exact hv2
        · have h := hH.out j u x hu hx
          have e : (if j < k + 1 then List.replicate x.length (markI j) else x) = (if j < k then List.replicate x.length (markI j) else x) := by
            by_cases h1 : j < k
            · rw [if_pos h1, if_pos (by omega)]
            · rw [if_neg h1, if_neg (by omega)]
          rw [e]
          exact keepI h (apart_ne HAp.out hu hv hjk))
      have N3 := Lib.hid (keepI hT.out (none_ne_symm (HVt.out v (List.mem_of_getElem? hv))))
      have N4 := Lib.hid (hK.own hC.out (fun kk hkk hp => by
        rcases hp with rfl | h1 | h1
        · exact hG.out.not_own hC.out (by decide) hkk
        · rcases own_ne_type hC.out ov (by decide) with h2 | h2
          · rw [h2] at hkk; cases hkk
          · exact h2 (hkk.trans h1.symm)
        · have a1 := (hL.out.lt kk h1).1
          have a2 := (HO.out.1.lt kk hkk).2
          omega))
      have N5 := Lib.hid (hK.blk hB1.out (by
        rintro (h1 | h1 | h1)
        · omega
        · exact hB1.out.not_own ov (by decide) h1
        · exact hB1.out.not_own hL.out (by decide) h1))
      have N6 := Lib.hid (hb.out.trans (hK.toBelow (Nat.le_trans hB (Nat.le_trans (by omega) (Nat.le_of_lt hG.out.lt))) (fun j hj hp => by
        rcases hp with rfl | h1 | h1
        · omega
        · have := (World.ownsRow.lt ov j h1).1; omega
        · have := (hL.out.lt j h1).1; omega)))
      have N0 := Lib.hid hG2
      clear keepI hG2 hL2 hv2 hK cT
      go_wp2_with fail
      exact ⟨⟨k + 1, vl', by omega, by go_num, N0.out, N1.out, N2.out, N3.out, N4.out, N5.out, N6.out⟩, by simp [intOf]; omega⟩
    · have hkl : k = vs.length := by omega
      subst hkl
      rw [List.take_length] at hL
      have k2 : wo.cell? ⟨w.heap.size, 2, none⟩ = some (.slice At ts.length ct) := by have := hB1.out.cell 2; simpa using this
      have hRl : R.length = vs.length := HO.out.2.1.symm
      have cT := Lib.hid (take_calls w.heap.size B (w.heap.size + 1) vl (.slice none 0 0) (.slice At ts.length ct) vs ts wo hG.out (by omega) hL.out hT.out (by omega) (by omega))
      go_wp2_with fail
      refine cT.out.mono ?_
      rintro e w2 ⟨rfl, vl1, hG2, hL2, hT2, hK2⟩
      have hb2 := Lib.hid (hb.out.trans (hK2.toBelow (Nat.le_trans hB (Nat.le_trans (by omega) (Nat.le_of_lt hG.out.lt))) (fun j hj hp => by
        rcases hp with rfl | h1 | h1
        · omega
        · have := (World.ownsRow.lt hT.out j h1).1; omega
        · have := (hL.out.lt j h1).1; omega)))
      have H2 := Lib.hid (show ∀ j u x, vs[j]? = some u → R[j]? = some x → OwnI w2 B 3 u (List.replicate x.length (markI j)) from fun j u x hu hx => by
        have h := hH.out j u x hu hx
        rw [if_pos (List.getElem?_eq_some_iff.1 hu).1] at h
        refine hK2.own h (fun kk hkk hp => ?_)
        rcases hp with rfl | h1 | h1
        · exact hG.out.not_own h (by decide) hkk
        · rcases HVt.out u (List.mem_of_getElem? hu) with h2 | h2
          · rw [h2] at hkk; cases hkk
          · exact h2 (hkk.trans h1.symm)
        · rcases own_ne_type h hL.out (by decide) with h2 | h2
          · rw [h2] at hkk; cases hkk
          · exact h2 (hkk.trans h1.symm))
      have G2 := Lib.hid hG2
      have L2 := Lib.hid hL2
      have T2 := Lib.hid hT2
      have cN := Lib.hid (take_calls w.heap.size B (w.heap.size + 1) vl1 (.slice none 0 0) (.slice none 0 0) (vs ++ [.slice At ts.length ct]) [] w2 hG2 (by omega) (by simpa using hL2) (OwnI.nil _ _ _) (by simp; omega) (by simp))
      clear cT hG2 hL2 hT2 hK2
      go_wp2_with fail
      refine cN.out.mono ?_
      rintro e w3 ⟨rfl, vl2, hG3, hL3, _, hK3⟩
      have hb3 := Lib.hid (hb2.out.trans (hK3.toBelow (Nat.le_trans hB (Nat.le_trans (by omega) (Nat.le_of_lt G2.out.lt))) (fun j hj hp => by
        rcases hp with rfl | h1 | h1
        · omega
        · simp [Value.ownBlock] at h1
        · have := (L2.out.lt j h1).1; omega)))
      have keep3 : ∀ {u : Value} {x : List Int}, OwnI w2 B 3 u x → OwnI w3 B 3 u x := fun {u x} h => hK3.own h (fun kk hkk hp => by
        rcases hp with rfl | h1 | h1
        · exact G2.out.not_own h (by decide) hkk
        · simp [Value.ownBlock] at h1
        · rcases own_ne_type h L2.out (by decide) with h2 | h2
          · rw [h2] at hkk; cases hkk
          · exact h2 (hkk.trans h1.symm))
      have lenA : (vs ++ [Value.slice At ts.length ct] ++ [Value.slice none 0 0]).length = vs.length + 1 + 1 := by simp
      have FV : FullV w3 B (vs ++ [.slice At ts.length ct] ++ [.slice none 0 0]) (R.map List.length ++ [ts.length] ++ [0]) := fun j u m hu hm => by
        rcases Nat.lt_or_ge j vs.length with h1 | h1
        · rw [List.getElem?_append_left (by simp; omega), List.getElem?_append_left h1] at hu
          rw [List.getElem?_append_left (by simp; omega), List.getElem?_append_left (by simp; omega), List.getElem?_map, Option.map_eq_some_iff] at hm
          obtain ⟨x, hx, rfl⟩ := hm
          exact keep3 (H2.out j u x hu hx)
        · rcases Nat.lt_or_ge j (vs.length + 1) with h2 | h2
          · obtain rfl : j = vs.length := by omega
            rw [List.getElem?_append_left (by simp), List.getElem?_append_right (Nat.le_refl _)] at hu
            rw [List.getElem?_append_left (by simp; omega), List.getElem?_append_right (by simp; omega)] at hm
            simp at hu
            simp [hRl] at hm
            subst hu; subst hm
            exact keep3 T2.out
          · have hj : j = vs.length + 1 := by have := (List.getElem?_eq_some_iff.1 hu).1; rw [lenA] at this; omega
            subst hj
            rw [List.getElem?_append_right (by simp)] at hu
            rw [List.getElem?_append_right (by simp; omega)] at hm
            simp at hu
            simp [hRl] at hm
            subst hu; subst hm
            exact OwnI.nil _ _ _
      have AN : ApartN (vs ++ [.slice At ts.length ct] ++ [.slice none 0 0]) := by
        unfold ApartN
        rw [List.pairwise_append, List.pairwise_append]
        refine ⟨⟨HAp.out, List.pairwise_singleton _ _, fun a ha b hb => ?_⟩, List.pairwise_singleton _ _, fun a ha b hb => ?_⟩
        · rw [List.mem_singleton] at hb; subst hb; exact HVt.out a ha
        · rw [List.mem_singleton] at hb; subst hb
          cases h : a.ownBlock with
          | none => exact .inl rfl
          | some kk => exact .inr (by simp [Value.ownBlock])
      have LT : ∀ v ∈ vs ++ [Value.slice At ts.length ct] ++ [Value.slice none 0 0], ∀ kk, v.ownBlock = some kk → kk < w3.heap.size := fun v hv kk hkk => by
        obtain ⟨j, hj⟩ := List.getElem?_of_mem hv
        have hjl := (List.getElem?_eq_some_iff.1 hj).1
        obtain ⟨m, hm⟩ : ∃ m, (R.map List.length ++ [ts.length] ++ [0])[j]? = some m := ⟨_, List.getElem?_eq_getElem (by rw [lenA] at hjl; simp; omega)⟩
        exact (World.ownsRow.lt (FV j v m hj hm) kk hkk).2
      have cA := Lib.hid (givenApart_calls B (w.heap.size + 1) vl2 (vs ++ [.slice At ts.length ct] ++ [.slice none 0 0]) (R.map List.length ++ [ts.length] ++ [0]) w3 hG3 (by omega)
        (by have h := own_lower hL3 hB; rw [lenA]; simpa using h) FV (by rw [lenA]; simp; omega) AN LT (by rw [lenA]; omega)
        (fun m hm => by
          simp only [List.mem_append, List.mem_map, List.mem_singleton] at hm
          rcases hm with (⟨x, hx, rfl⟩ | rfl) | rfl
          · have := HRl.out x hx; omega
          · omega
          · omega))
      clear FV AN LT hG3 hL3 hK3 keep3 lenA cN
      go_wp2_with fail
      refine cA.out.mono ?_
      rintro e w4 ⟨rfl, hb4⟩
      have Hb4 := Lib.hid (hb3.out.trans hb4)
      clear hb4
      go_wp2_with fail
      go_ret
      exact ⟨rfl, Hb4.out⟩

end Go.Proofs.YtnadmnhkfdkafaaDoor
