/- Contract: given.apart: all lists, each with one mark more, are as they were written. -/
import Derived.Test.YtnadmnhkfdkafaaDoorGiven
import Derived.Test.YtnadmnhkfdkafaaDoorKeep
import Derived.Deep.CutRange
namespace Go.Proofs.YtnadmnhkfdkafaaDoor
open Go.RowKit
set_option linter.unusedVariables false
set_option linter.unusedSimpArgs false

def markI (j : Nat) : Int := -9000 - (j : Int)
/-- the lists that were told, written full -/
def FullV (w : World) (B : Nat) (vs : List Value) (ns : List Nat) : Prop := ∀ j v m, vs[j]? = some v → ns[j]? = some m → OwnI w B 3 v (List.replicate m (markI j))
/-- and each with one mark more -/
def MoreV (w : World) (B W0 : Nat) (vs us : List Value) (ns : List Nat) : Prop := ∀ j u m, us[j]? = some u → ns[j]? = some m →
  OwnI w B 3 u (List.replicate (m + 1) (markI j)) ∧ ∃ v, vs[j]? = some v ∧ (u.ownBlock = v.ownBlock ∨ ∃ k, u.ownBlock = some k ∧ W0 ≤ k)

theorem apart_ne {vs : List Value} (h : ApartN vs) {i j : Nat} {a b : Value} (hi : vs[i]? = some a) (hj : vs[j]? = some b) (hne : i ≠ j) : a.ownBlock = none ∨ a.ownBlock ≠ b.ownBlock := by
  obtain ⟨hi1, rfl⟩ := List.getElem?_eq_some_iff.1 hi
  obtain ⟨hj1, rfl⟩ := List.getElem?_eq_some_iff.1 hj
  rcases Nat.lt_or_gt_of_ne hne with h1 | h1
  · exact List.pairwise_iff_getElem.1 h i j hi1 hj1 h1
  · rcases List.pairwise_iff_getElem.1 h j i hj1 hi1 h1 with h2 | h2
    · rw [h2]
      cases vs[i].ownBlock with
      | none => exact .inl rfl
      | some k => exact .inr (by simp)
    · exact .inr h2.symm
theorem own_grown_ne {w w' : World} {B e s n : Nat} {v : Value} {xs : List Value} (h : w.ownsRow B e s v n xs) {row : Option Nat} (hg : w.grownBy w' row) (hne : v.ownBlock = none ∨ v.ownBlock ≠ row) : w'.ownsRow B e s v n xs := h.kept hg hne

set_option maxHeartbeats 8000000 in
set_option maxRecDepth 100000 in
theorem givenApart_calls (B b : Nat) (vl : Value) (vs : List Value) (ns : List Nat) (w : World) (hb : Blk w b 83 #[vl, .slice none 0 0]) (hbB : B ≤ b) (hl : w.ownsRow B 23 1 vl vs.length vs) (hv : FullV w B vs ns)
    (hln : ns.length = vs.length) (hap : ApartN vs) (hlt : ∀ v ∈ vs, ∀ k, v.ownBlock = some k → k < w.heap.size) (hs : vs.length ≤ 1048578) (hn : ∀ m ∈ ns, m ≤ 1099511627776) :
    Calls Tryd.prog 43 #[.pointer (some ⟨b, 0, none⟩)] w fun e w' => e = .returned (.bool true) ∧ Below B w w' := by
  have HB := Lib.hid hb
  have HL := Lib.hid hl
  have HV := Lib.hid hv
  have HN := Lib.hid hn
  have HAp := Lib.hid hap
  have HLt := Lib.hid hlt
  have Hln := Lib.hid hln
  have hbl := hb.lt
  clear hb hl hv hn hap hlt hln
  obtain ⟨Al, cl, rfl, hcl1, hcl2, _⟩ := CellsAt.of_own HL.out
  go_enter Tryd.func43, Tryd.ntmps43
  go_wp2_with fail
  go_loopw [3] (fun i wr => ∃ (k : Nat) (vm : Value) (us : List Value), k ≤ vs.length ∧ i = .int .i64 k ∧ Hid (us.length = k) ∧ Hid (Blk wr b 83 #[.slice Al vs.length cl, vm]) ∧ Hid (wr.ownsRow B 23 1 (.slice Al vs.length cl) vs.length vs) ∧
    Hid (wr.ownsRow B 23 1 vm k us) ∧ Hid (vm.ownBlock = none ∨ vm.ownBlock ≠ (Value.slice Al vs.length cl).ownBlock) ∧ Hid (FullV wr B vs ns) ∧ Hid (MoreV wr B w.heap.size vs us ns) ∧ Hid (Below B w wr)) (fun i _ => (vs.length - intOf i).toNat)
  case atStart => exact ⟨0, .slice none 0 0, [], Nat.zero_le _, rfl, rfl, HB.out, HL.out, World.ownsRow_nil _ _ _ _, .inl rfl, HV.out, by intro j u m h; simp at h, Below.refl _ _⟩
  case round =>
    obtain ⟨k, vm, us, hk, rfl, hul, hB, hL, hM, hMb, hV, hU, hb⟩ := hrel
    obtain ⟨wo, rfl⟩ : ∃ wo : World, wo = wr := ⟨_, rfl⟩
    have k0 : wo.cell? ⟨b, 0, none⟩ = some (.slice Al vs.length cl) := by have := hB.out.cell 0; simpa using this
    have k1 : wo.cell? ⟨b, 1, none⟩ = some vm := by have := hB.out.cell 1; simpa using this
    by_cases hlt : k < vs.length
    · obtain ⟨gl, cl', hAl, _, _⟩ := hL.out.form (by omega)
      injection hAl with hAl _ _
      subst hAl
      have hkn : k < ns.length := by rw [Hln.out]; exact hlt
      obtain ⟨v, hv⟩ : ∃ v, vs[k]? = some v := ⟨_, List.getElem?_eq_getElem hlt⟩
      obtain ⟨m, hm⟩ : ∃ m, ns[k]? = some m := ⟨_, List.getElem?_eq_getElem hkn⟩
      have hml : m ≤ 1099511627776 := HN.out m (List.mem_of_getElem? hm)
      have Hvk := Lib.hid hv
      have Hmk := Lib.hid hm
      have ov := hV.out k v m hv hm
      have hvk := hv
      obtain ⟨Av, cv, rfl, _, _, _⟩ := CellsAt.of_own ov
      rw [List.length_replicate] at Hvk hvk
      have OV := Lib.hid (show wo.ownsRow B 3 1 (.slice Av m cv) m ((List.replicate m (markI k)).map (Value.int .i64)) by have h := ov; unfold OwnI at h; rwa [List.length_replicate] at h)
      have kv : wo.cell? ⟨gl, k, none⟩ = some (.slice Av m cv) := own_at hL.out hvk
      have e1 : IntKind.i64.wrap (-9000 - (k : Int)) = markI k := by unfold markI; exact IntWalk.i64_in _ (by omega)
      have hlz : (k : Int) < vs.length := by omega
      have k0a : ∀ o, (wo.alloc o).cell? ⟨b, 0, none⟩ = some (.slice (some ⟨gl, 0, none⟩) vs.length cl) := fun o => cell_kept ((Below.refl _ wo).alloc (Nat.le_refl _) o) k0
      have k1a : ∀ o, (wo.alloc o).cell? ⟨b, 1, none⟩ = some vm := fun o => cell_kept ((Below.refl _ wo).alloc (Nat.le_refl _) o) k1
      have kva : ∀ o, (wo.alloc o).cell? ⟨gl, k, none⟩ = some (.slice Av m cv) := fun o => cell_kept ((Below.refl _ wo).alloc (Nat.le_refl _) o) kv
      have hBw : B ≤ wo.heap.size := Nat.le_trans hbB (Nat.le_of_lt hB.out.lt)
      generalize hz : markI k = z at e1 OV
      have Hz := Lib.hid hz
      clear hv hm ov hvk hz
      go_wp2_with fail
      go_region_law (first
        | (refine stepK (W := w3) B rfl (.tmp 19) (.tmp 31) 22 23 (.slice none 0 0) 24 rfl Tryd.underlying22 info_ints rfl vm k us (.slice A3 (m + 1) c3) rfl ?hx rfl C3.out Hw3.out (by omega) (by omega) ?_
           case hx => simp [Act.eval]
           intro v5 w5 own5 _ hg5 hat5
           have G1 := Lib.hid own5
           have GL := Lib.hid (L3.out.kept hg5 (hMb.out.elim (fun h => .inr (by rw [h]; simp [Value.ownBlock])) (fun h => .inr h.symm)))
           have GV := Lib.hid (show FullV w5 B vs ns from fun j v' m' hv' hm' => own_grown_row (V3.out j v' m' hv' hm') C3.out (by decide) hg5)
           have GU := Lib.hid (show MoreV w5 B w.heap.size vs (us ++ [.slice A3 (m + 1) c3]) ns from fun j u m' hu hm' => by
             obtain ⟨h1, h2⟩ := U3.out j u m' hu hm'
             exact ⟨own_grown_row h1 C3.out (by decide) hg5, h2⟩)
           have GB := Lib.hid (Blk.grown_row B3.out C3.out (by decide) hg5)
           have Gb := Lib.hid (Hb3.out.grown hg5 Hw3.out (fun k hk => (C3.out.lt k hk).1))
           have GM := Lib.hid (show v5.ownBlock = none ∨ v5.ownBlock ≠ (Value.slice (some ⟨gl, 0, none⟩) vs.length cl).ownBlock from by
             rcases hat5 with h | ⟨kk, h, hkk⟩
             · rw [h]; exact hMb.out
             · right; rw [h]; simp only [Value.ownBlock, ne_eq, Option.some.injEq]
               have := (L3.out.lt gl rfl).2
               omega)
           have s5 : w5.cell? ⟨b, 1, none⟩ = some vm := by have := GB.out.cell 1; simpa using this
           have f5 : ∀ i, w5.frozen? ⟨b, i, none⟩ = false := fun i => GB.out.frozen i
           obtain ⟨g5, c5, rfl, _, _⟩ := own5.form (by omega)
           clear own5 hg5 hat5)
        | (refine stepK (W := wo.drew) B rfl (.tmp 26) (.tmp 29) 23 3 (.int .i64 0) 8 rfl Tryd.underlying23 info_int rfl (.slice Av m cv) m ((List.replicate m z).map (Value.int .i64)) (.int .i64 z) rfl rfl rfl OV.out hBw (by omega) (by omega) ?_
           intro v3 w3 own3 old3 hg3' hat3
           have hg3 : wo.grownBy w3 (Value.slice Av m cv).ownBlock := ⟨hg3'.os, hg3'.tape, hg3'.output, hg3'.size, hg3'.block⟩
           have own3' : OwnI w3 B 3 v3 (List.replicate (m + 1) z) := by
             unfold OwnI; rw [List.length_replicate, List.replicate_succ']; simpa using own3
           have L3 := Lib.hid (own_grown_row hL.out OV.out (by decide) hg3)
           have C3 := Lib.hid (own_grown_row hM.out OV.out (by decide) hg3)
           have B3 := Lib.hid (Blk.grown_row hB.out OV.out (by decide) hg3)
           have Hb3 := Lib.hid (hb.out.grown hg3 hBw (fun k hk => (OV.out.lt k hk).1))
           have Hw3 := Lib.hid (Nat.le_trans hBw hg3.size)
           have V3 := Lib.hid (show FullV w3 B vs ns from fun j v' m' hv' hm' => by
             by_cases hjk : j = k
             · subst hjk
               rw [Hvk.out] at hv'; rw [Hmk.out] at hm'
               injection hv' with hv'; injection hm' with hm'
               subst hv'; subst hm'
               unfold OwnI; rw [List.length_replicate, Hz.out]; exact old3
             · exact own_grown_ne (hV.out j v' m' hv' hm') hg3 (apart_ne HAp.out hv' Hvk.out hjk))
           have U3 := Lib.hid (show MoreV w3 B w.heap.size vs (us ++ [v3]) ns from fun j u m' hu hm' => by
             rcases Nat.lt_or_ge j us.length with hj | hj
             · rw [List.getElem?_append_left hj] at hu
               obtain ⟨h1, v', hv', h2⟩ := hU.out j u m' hu hm'
               refine ⟨own_grown_ne h1 hg3 ?_, v', hv', h2⟩
               rcases h2 with h2 | ⟨kk, h2, hkk⟩
               · rw [h2]; exact apart_ne HAp.out hv' Hvk.out (by have := hul.out; omega)
               · right
                 intro e
                 rw [h2] at e
                 have := HLt.out _ (List.mem_of_getElem? Hvk.out) kk e.symm
                 omega
             · have hjk : j = k := by
                 have := (List.getElem?_eq_some_iff.1 hu).1
                 simp at this
                 have := hul.out
                 omega
               subst hjk
               rw [List.getElem?_append_right hj, show j - us.length = 0 by have := hul.out; omega] at hu
               simp at hu
               subst hu
               rw [Hmk.out] at hm'
               injection hm' with hm'
               subst hm'
               refine ⟨by rw [Hz.out]; exact own3', _, Hvk.out, ?_⟩
               rcases hat3 with h | ⟨kk, h, hkk⟩
               · exact .inl h
               · exact .inr ⟨kk, h, Nat.le_trans hb.out.size hkk⟩)
           have s3 : w3.cell? ⟨b, 1, none⟩ = some vm := by have := B3.out.cell 1; simpa using this
           have s3a : ∀ o, (w3.alloc o).cell? ⟨b, 1, none⟩ = some vm := fun o => cell_kept ((Below.refl _ w3).alloc (Nat.le_refl _) o) s3
           obtain ⟨A3, c3, rfl, _, _, _⟩ := CellsAt.of_own own3'
           rw [List.length_replicate] at U3 ⊢
           clear own3 own3' old3 hg3 hg3' hat3))
      all_goals
        go_wp2_with fail
        refine ⟨⟨k + 1, .slice (some ⟨g5, 0, none⟩) (k + 1) c5, us ++ [.slice A3 (m + 1) c3], by omega, by go_num, ?_, ?_, ?_, ?_, ?_, ?_, ?_, ?_⟩, by simp [intOf]; omega⟩
        · simp [Hid, hul.out]
        · have h := GB.out.set_ 1 (.slice (some ⟨g5, 0, none⟩) (k + 1) c5); simpa [Hid] using h
        · exact own_setCell_blk GL.out GB.out (by decide) 1 _
        · exact own_setCell_blk G1.out GB.out (by decide) 1 _
        · exact GM.out
        · intro j v' m' hv' hm'; exact own_setCell_blk (GV.out j v' m' hv' hm') GB.out (by decide) 1 _
        · intro j u m' hu hm'
          obtain ⟨h1, h2⟩ := GU.out j u m' hu hm'
          exact ⟨own_setCell_blk h1 GB.out (by decide) 1 _, h2⟩
        · exact Gb.out.setCell (p := ⟨b, 1, none⟩) hbB _
    · have hkl : k = vs.length := by omega
      subst hkl
      obtain ⟨Am, cm, rfl, _, _, hAm⟩ := CellsAt.of_own hM.out
      have HM := Lib.hid hAm
      clear hAm
      go_wp2_with fail
      go_loop [4] (fun i => ∃ q : Nat, q ≤ vs.length ∧ i = .int .i64 q) (fun i => (vs.length - intOf i).toNat)
      case atStart => exact ⟨0, Nat.zero_le _, rfl⟩
      case round =>
        obtain ⟨q, hq, rfl⟩ := hrel
        by_cases hlt2 : q < vs.length
        · have hqn : q < ns.length := by rw [Hln.out]; exact hlt2
          have hqu : q < us.length := by rw [hul.out]; exact hlt2
          obtain ⟨v, hv⟩ : ∃ v, vs[q]? = some v := ⟨_, List.getElem?_eq_getElem hlt2⟩
          obtain ⟨u, hu⟩ : ∃ u, us[q]? = some u := ⟨_, List.getElem?_eq_getElem hqu⟩
          obtain ⟨m, hm⟩ : ∃ m, ns[q]? = some m := ⟨_, List.getElem?_eq_getElem hqn⟩
          have hml : m ≤ 1099511627776 := HN.out m (List.mem_of_getElem? hm)
          obtain ⟨Av, cv, rfl, hIv⟩ := OwnI.form (hV.out q v m hv hm)
          obtain ⟨Au, cu, rfl, hIu⟩ := OwnI.form (hU.out q u m hu hm).1
          rw [List.length_replicate] at hv hu
          obtain ⟨gl, cl', hAl, _, _⟩ := hL.out.form (by omega)
          injection hAl with hAl _ _
          subst hAl
          have kv : wo.cell? ⟨gl, q, none⟩ = some (.slice Av m cv) := own_at hL.out hv
          obtain ⟨am, rfl, hcm⟩ : ∃ ad, Am = some ad ∧ ∀ j u, us[j]? = some u → wo.cell? (ad.add j) = some u := by
            rcases HM.out with h | h
            · rw [h] at hqu; simp at hqu
            · exact h
          have ku : wo.cell? (am.add q) = some (.slice Au (m + 1) cu) := hcm q _ hu
          have e1 : IntKind.i64.wrap (-9000 - (q : Int)) = markI q := by unfold markI; exact IntWalk.i64_in _ (by omega)
          have hlz : (q : Int) < vs.length := by omega
          generalize hz : markI q = z at e1 hIv hIu
          have HIv := Lib.hid hIv
          have HIu := Lib.hid hIu
          clear hv hu hm hcm hz hIv hIu
          go_wp2_with fail
          go_loop [5] (fun i => ∃ j : Nat, j ≤ m + 1 ∧ i = .int .i64 j) (fun i => (m + 1 - intOf i).toNat)
          case atStart => exact ⟨0, Nat.zero_le _, rfl⟩
          case round =>
            obtain ⟨j, hj, rfl⟩ := hrel
            by_cases hlt3 : j < m + 1
            · obtain ⟨au, x, rfl, hcx, Hx⟩ := HIu.out.get (k := j) (by simp; omega)
              have hxz : x = z := by have h := Hx.out; rw [List.getElem?_replicate] at h; simp [hlt3] at h; exact h.symm
              subst hxz
              have hj1 : (j : Int) < ((m + 1 : Nat) : Int) := by omega
              have hj2 : (j : Int) < (m : Int) + 1 := by omega
              by_cases hlt4 : j < m
              · obtain ⟨av, y, rfl, hcy, Hy⟩ := HIv.out.get (k := j) (by simp; omega)
                have hyz : y = x := by have h := Hy.out; rw [List.getElem?_replicate] at h; simp [hlt4] at h; exact h.symm
                subst hyz
                have hj3 : (j : Int) < (m : Int) := by omega
                go_wp2_with fail
                exact ⟨⟨j + 1, by omega, by go_num⟩, by simp [intOf]; omega⟩
              · have hd1 : decide ((j : Int) < (m : Int)) = false := decide_eq_false (by omega)
                have hd2 : decide (j < m) = false := decide_eq_false hlt4
                go_wp2_with fail
                exact ⟨⟨j + 1, by omega, by go_num⟩, by simp [intOf]; omega⟩
            · have hd1 : decide ((j : Int) < ((m + 1 : Nat) : Int)) = false := decide_eq_false (by omega)
              have hd2 : decide (j < m + 1) = false := decide_eq_false hlt3
              have hd3 : decide ((j : Int) < (m : Int) + 1) = false := decide_eq_false (by omega)
              go_wp2_with fail
              exact ⟨⟨q + 1, by omega, by go_num⟩, by simp [intOf]; omega⟩
        · go_wp2_with fail
          go_ret
          exact ⟨rfl, hb.out⟩

end Go.Proofs.YtnadmnhkfdkafaaDoor
