/- Contract: the document's Tidy. -/
import Derived.Test.YtnadmnhkfdkafaaDoorSorted
import Derived.Test.YtnadmnhkfdkafaaDoorBlk
namespace Go.Proofs.YtnadmnhkfdkafaaDoor
open Go.RowKit
set_option linter.unusedVariables false
set_option linter.unusedSimpArgs false


theorem addC_skip {R : List (List Int)} {l : List Int} (h : taut (sortS l) = true) : addC R l = R := by unfold addC; rw [if_pos h]
theorem addC_ins {R : List (List Int)} {l : List Int} (h : taut (sortS l) = false) : addC R l = insG ltC (sortS l) R := by unfold addC; rw [if_neg (by simp [h])]

set_option maxHeartbeats 4000000 in
set_option maxRecDepth 100000 in
theorem refTidy_calls (n : Int) (A : Option Addr) (c : Nat) (xss : List (List Int)) (At : Option Addr) (ct : Nat) (ts : List Int) (w : World)
    (hx : RowsAt w A xss) (ht : IntsAt w At ts) (hl : xss.length ≤ 1099511627776) (htl : ts.length ≤ 1099511627776) (hxl : ∀ l ∈ xss, l.length ≤ 1099511627776) :
    Calls Tryd.prog 5 #[.agg #[.int .i64 n, .slice A xss.length c, .slice At ts.length ct]] w fun e w' =>
      ∃ vc vt, e = .returned (.tuple #[.agg #[.int .i64 (if okCnf ⟨n, xss, ts⟩ then n else 0), vc, vt], .int .i64 (if okCnf ⟨n, xss, ts⟩ then 0 else 62)]) ∧
        IsRows w' vc (if okCnf ⟨n, xss, ts⟩ then tidyR xss else []) ∧ IsInts w' vt (if okCnf ⟨n, xss, ts⟩ then ts else []) ∧ Below w.heap.size w w' := by
  have hbW := ((Below.refl w.heap.size w).alloc (Nat.le_refl _) (.cells #[.int .i64 n, .slice A xss.length c, .slice At ts.length ct] 25)).alloc (by simp) (.cells #[.int .i64 0, .slice none 0 0, .slice none 0 0] 25)
  have hB1 := (Blk.new w 25 #[.int .i64 n, .slice A xss.length c, .slice At ts.length ct]).alloc (.cells #[.int .i64 0, .slice none 0 0, .slice none 0 0] 25)
  have hB2 := Blk.new (w.alloc (.cells #[.int .i64 n, .slice A xss.length c, .slice At ts.length ct] 25)) 25 #[.int .i64 0, .slice none 0 0, .slice none 0 0]
  have ct1 := Lib.hid (refCheck_calls n A c xss At ct ts _ (hx.below hbW) (ht.below hbW) (by omega) (by omega))
  generalize hok : okCnf ⟨n, xss, ts⟩ = ok at ct1 ⊢
  have HX0 := Lib.hid hx
  have HT := Lib.hid (ht.below hbW)
  have HBW := Lib.hid hbW
  have HB1 := Lib.hid hB1
  have HB2 := Lib.hid hB2
  have HL := Lib.hid hxl
  clear hx ht hbW hB1 hB2 hxl
  have Hok := Lib.hid hok
  clear hok
  cases ok
  case false =>
    go_enter Tryd.func5, Tryd.ntmps5
    go_wp2_with fail
    refine ct1.out.mono ?_
    rintro e w1 ⟨rfl, hb1⟩
    have Hb1 := Lib.hid (below_of HBW.out HBW.out.size hb1)
    have HB2' := Lib.hid (HB2.out.below hb1)
    have hf : ∀ i, w1.frozen? ⟨w.heap.size + 1, i, none⟩ = false := fun i => by have := HB2'.out.frozen i; simpa using this
    have hc0 : w1.cell? ⟨w.heap.size + 1, 0, none⟩ = some (.int .i64 0) := by have := HB2'.out.cell 0; simpa using this
    have hc1 : w1.cell? ⟨w.heap.size + 1, 1, none⟩ = some (.slice none 0 0) := by have := HB2'.out.cell 1; simpa using this
    have hc2 : w1.cell? ⟨w.heap.size + 1, 2, none⟩ = some (.slice none 0 0) := by have := HB2'.out.cell 2; simpa using this
    clear hb1
    go_wp2_with fail
    refine bodyPost_ret (v := .tuple #[.agg #[.int .i64 0, .slice none 0 0, .slice none 0 0], .int .i64 62]) (by simp [results, Tryd.results5, go_sem, hc0, hc1, hc2]) rfl ⟨_, _, rfl, IsRows.nil _, IsInts.nil _, ?_⟩
    exact ((Hb1.out.setCell (p := ⟨w.heap.size + 1, 0, none⟩) (by simp) _).setCell (p := ⟨w.heap.size + 1, 1, none⟩) (by simp) _).setCell (p := ⟨w.heap.size + 1, 2, none⟩) (by simp) _
  case true =>
    obtain ⟨hv0, hv1⟩ : 0 ≤ n ∧ n ≤ 1000000 := by have h := Hok.out; simp only [okCnf, Bool.and_eq_true, okVars, decide_eq_true_eq] at h; exact h.1.1
    have HBD := Lib.hid (show ∀ l ∈ xss, ∀ x ∈ l, -1000000 ≤ x ∧ x ≤ 1000000 by
      have h := Hok.out
      simp only [okCnf, Bool.and_eq_true, okRows, List.all_eq_true, okLit, decide_eq_true_eq] at h
      intro l hl x hx
      have := h.2 l hl x hx
      omega)
    go_enter Tryd.func5, Tryd.ntmps5
    go_wp2_with fail
    refine ct1.out.mono ?_
    rintro e w1 ⟨rfl, hb1⟩
    have Hb1 := Lib.hid (below_of HBW.out HBW.out.size hb1)
    have HB1' := Lib.hid (HB1.out.below hb1)
    have HB2' := Lib.hid (HB2.out.below hb1)
    have HT1 := Lib.hid (HT.out.below hb1)
    have hsz1 : w.heap.size + 2 ≤ w1.heap.size := by have := hb1.size; simpa using this
    have hcA0 : w1.cell? ⟨w.heap.size, 0, none⟩ = some (.int .i64 n) := by have := HB1'.out.cell 0; simpa using this
    have hcA2 : w1.cell? ⟨w.heap.size, 2, none⟩ = some (.slice At ts.length ct) := by have := HB1'.out.cell 2; simpa using this
    have hcA2' : (w1.alloc (.cells #[.int .i64 n, .slice none 0 0, .slice none 0 0] 25)).cell? ⟨w.heap.size, 2, none⟩ = some (.slice At ts.length ct) := by have := (HB1'.out.alloc (.cells #[.int .i64 n, .slice none 0 0, .slice none 0 0] 25)).cell 2; simpa using this
    clear hb1 hcA2
    go_wp2_with ((
      at_builtin
      refine appN (w0 := w) w.heap.size rfl (.tmp 17) (.tmp 19) 23 3 (.int .i64 0) 8 rfl Tryd.underlying23 info_int rfl (.slice none 0 0) 0 [] (ts.map (Value.int .i64)) At ct rfl (by simp [Act.eval]) (by simp [Value.oneCell']) (World.ownsRow_nil _ _ _ _) ?hR ?hB ?hS (by simp; omega) (by simp; omega) ?_
      case hR => exact HT1.out.below ((Below.refl _ _).alloc (Nat.le_refl _) _)
      case hB => exact Hb1.out.alloc (by omega) _
      case hS => simp; omega
      intro vt w2 own2 hb2 hg2 hat2
      have own2' : w2.ownsRow w.heap.size 3 1 vt ts.length (ts.map (Value.int .i64)) := by simpa using own2
      have Own2 := Lib.hid (show OwnI w2 w.heap.size 3 vt ts from own2')
      have Hb2 := Lib.hid hb2
      have HB1a := Lib.hid ((HB1'.out.alloc _).grown_row (World.ownsRow_nil _ w.heap.size 3 1) (by decide) hg2)
      have HB2a := Lib.hid ((HB2'.out.alloc _).grown_row (World.ownsRow_nil _ w.heap.size 3 1) (by decide) hg2)
      have HB4a := Lib.hid ((Blk.new w1 25 #[.int .i64 n, .slice none 0 0, .slice none 0 0]).grown_row (World.ownsRow_nil _ w.heap.size 3 1) (by decide) hg2)
      have hd2 : w2.cell? ⟨w1.heap.size, 2, none⟩ = some (.slice none 0 0) := by have := HB4a.out.cell 2; simpa using this
      have hf2 : w2.frozen? ⟨w1.heap.size, 2, none⟩ = false := HB4a.out.frozen 2
      obtain ⟨At2, ct2, rfl, hct1, hct2, _⟩ := CellsAt.of_own own2'
      clear own2 own2' hb2 hg2 hat2))
    have Own3 := Lib.hid (show OwnI (w2.setCell ⟨w1.heap.size, 2, none⟩ (.slice At2 ts.length ct2)) w.heap.size 3 (.slice At2 ts.length ct2) ts from own_setCell_blk Own2.out HB4a.out (by decide) _ _)
    have HB1b := Lib.hid (HB1a.out.far (p := ⟨w1.heap.size, 2, none⟩) (by simp; omega) (.slice At2 ts.length ct2))
    have HB2b := Lib.hid (HB2a.out.far (p := ⟨w1.heap.size, 2, none⟩) (by simp; omega) (.slice At2 ts.length ct2))
    have HB4b := Lib.hid (HB4a.out.set_ 2 (.slice At2 ts.length ct2))
    have Hb3 := Lib.hid (Hb2.out.setCell (p := ⟨w1.heap.size, 2, none⟩) (by simp; omega) (.slice At2 ts.length ct2))
    generalize hb4e : w1.heap.size = b4 at HB1b HB2b HB4b Own3 Hb3 hsz1 ⊢
    clear hb4e HB1a HB2a HB4a Own2 Hb2 HB1 HB2 HBW HT HT1 HB1' HB2' hcA0 hcA2'
    go_loopw [5] (fun i wr => ∃ (k : Nat) (vc : Value) (vs : List Value), k ≤ xss.length ∧ i = .int .i64 k ∧ Hid (OwnC wr w.heap.size vc vs (tidyR (xss.take k))) ∧ Hid (OwnI wr w.heap.size 3 (.slice At2 ts.length ct2) ts) ∧ Hid (Blk wr w.heap.size 25 #[.int .i64 n, .slice A xss.length c, .slice At ts.length ct]) ∧ Hid (Blk wr (w.heap.size + 1) 25 #[.int .i64 0, .slice none 0 0, .slice none 0 0]) ∧ Hid (Blk wr b4 25 #[.int .i64 n, vc, .slice At2 ts.length ct2]) ∧ Hid (Below w.heap.size w wr)) (fun i _ => xss.length - (intOf i).toNat)
    case atStart => exact ⟨0, .slice none 0 0, [], Nat.zero_le _, rfl, ⟨World.ownsRow_nil _ _ _ _, All2.nil _⟩, Own3.out, by simpa [Hid] using HB1b.out, by simpa [Hid] using HB2b.out, by simpa [Hid] using HB4b.out, Hb3.out⟩
    case round =>
      obtain ⟨wo, rfl⟩ : ∃ wo : World, wo = wr := ⟨_, rfl⟩
      obtain ⟨k, vc, vs, hk, rfl, hown, hvt, hB1, hB2, hB4, hb⟩ := hrel
      have hc11 : wo.cell? ⟨w.heap.size, 1, none⟩ = some (.slice A xss.length c) := by have := hB1.out.cell 1; simpa using this
      by_cases hlt : k < xss.length
      · have Hvl := Lib.hid (show vs.length ≤ k by have h1 := hown.out.2.1; have h2 := tidyR_length (xss.take k); simp at h2; omega)
        obtain ⟨ad, A1, c1, l, rfl, hcell, hlc, hcm, Hx, HX1⟩ := (HX0.out.below hb.out).get hlt
        have hxm : l ∈ xss := List.mem_of_getElem? Hx.out
        have hll := HL.out l hxm
        have Hst := Lib.hid (tidyR_take Hx.out)
        have HRb := Lib.hid (show ∀ l' ∈ tidyR (xss.take k), (∀ x ∈ l', -1000000 ≤ x ∧ x ≤ 1000000) ∧ l'.length ≤ 1099511627776 from fun l' hl' => by
          obtain ⟨l0, h0, _, rfl⟩ := (tidyR_mem _ _).1 hl'
          have h1 := List.mem_of_mem_take h0
          exact ⟨fun x hx => HBD.out l0 h1 x (sortS_mem l0 x hx), Nat.le_trans (sortS_length l0) (HL.out l0 h1)⟩)
        generalize tidyR (xss.take k) = R at hown Hst HRb
        have cS := Lib.hid (sorted_calls A1 c1 l wo HX1.out hll (HBD.out l hxm))
        have HbdL := Lib.hid (show ∀ x ∈ sortS l, -1000000 ≤ x ∧ x ≤ 1000000 from fun x hx => HBD.out l hxm x (sortS_mem l x hx))
        have hLl : (sortS l).length ≤ 1099511627776 := Nat.le_trans (sortS_length l) hll
        obtain ⟨ht, hte⟩ : ∃ b, taut (sortS l) = b := ⟨_, rfl⟩
        have Hadd := Lib.hid (show (taut (sortS l) = true → addC R l = R) ∧ (taut (sortS l) = false → addC R l = insG ltC (sortS l) R) from ⟨addC_skip, addC_ins⟩)
        have Hte := Lib.hid hte
        clear hte
        generalize sortS l = L at cS HbdL hLl Hadd Hte
        obtain ⟨Av, cv, rfl, hcv1, hcv2, hAv⟩ := CellsAt.of_own hown.out.1
        have HAv := Lib.hid hAv
        clear hAv hxm
        have hc41 : wo.cell? ⟨b4, 1, none⟩ = some (.slice Av vs.length cv) := by have := hB4.out.cell 1; simpa using this
        go_wp2_with fail
        refine cS.out.mono ?_
        rintro e w4 ⟨vl, rfl, ownl, hb4⟩
        have Hb4 := Lib.hid hb4
        have Ownl := Lib.hid (show OwnI w4 w.heap.size 3 vl L from own_lower ownl hb.out.size)
        obtain ⟨Al, cl, rfl, hcl1, hcl2, hAl⟩ := CellsAt.of_own ownl
        have HAl := Lib.hid (show IntsAt w4 Al L from hAl)
        clear ownl hb4 hAl
        have cE := Lib.hid (refEmpty_calls Al cl L w4 HAl.out (by omega) HbdL.out)
        rw [Hte.out] at cE
        have Hown4 := Lib.hid (hown.out.below Hb4.out)
        have Hvt4 := Lib.hid (hvt.out.below Hb4.out)
        have HB14 := Lib.hid (hB1.out.below Hb4.out)
        have HB24 := Lib.hid (hB2.out.below Hb4.out)
        have HB44 := Lib.hid (hB4.out.below Hb4.out)
        have Hb5 := Lib.hid (below_of hb.out hb.out.size Hb4.out)
        cases ht
        case true =>
          have Hs := Lib.hid (show tidyR (xss.take (k + 1)) = R by rw [Hst.out]; exact Hadd.out.1 Hte.out)
          go_wp2_with fail
          refine cE.out.mono ?_
          rintro e w5 ⟨rfl, q, rfl⟩
          go_wp2_with fail
          exact ⟨⟨k + 1, _, vs, by omega, by go_num, by rw [Hs.out]; exact Hown4.out, Hvt4.out, HB14.out, HB24.out, HB44.out, below_drewN Hb5.out q⟩, by simp [intOf]; omega⟩
        case false =>
          have Hs := Lib.hid (show tidyR (xss.take (k + 1)) = insG ltC L R by rw [Hst.out]; exact Hadd.out.2 Hte.out)
          go_wp2_with fail
          refine cE.out.mono ?_
          rintro e w5 ⟨rfl, q, rfl⟩
          have HAv4 := Lib.hid (HAv.out.below Hb4.out)
          have hc4a : w4.cell? ⟨b4, 1, none⟩ = some (.slice Av vs.length cv) := by have := HB44.out.cell 1; simpa using this
          have hRl : R.length ≤ k := by have := Hown4.out.2.1; have := Hvl.out; omega
          have hvl : vs.length ≤ k := Hvl.out
          clear hc11 hc41 hcell cS
          go_wp2_with fail
          go_loopw [7] (fun i w2 => ∃ (j q2 : Nat), j ≤ vs.length ∧ i = .int .i64 j ∧ w2 = w4.drewN q2 ∧ Hid (posG ltC L R j = posG ltC L R R.length)) (fun i _ => (intOf i).toNat)
          case atStart => exact ⟨vs.length, _, Nat.le_refl _, rfl, rfl, by have := Hown4.out.2.1; rw [this]; rfl⟩
          case round =>
            obtain ⟨j, q2, hj, rfl, rfl, hpos⟩ := hrel
            rcases Nat.eq_zero_or_pos j with hj0 | hj0
            case inl =>
              subst hj0
              have Hs2 := Lib.hid (show tidyR (xss.take (k + 1)) = R.take 0 ++ L :: R.drop 0 by rw [Hs.out]; have := hpos.out; unfold insG; simp only; rw [← this]; simp [posG])
              go_wp2_with ((
               at_builtin
               refine app1 (w0 := w) w.heap.size rfl (.tmp 69) (.tmp 70) 22 23 (.slice none 0 0) 24 rfl Tryd.underlying22 info_ints rfl (.slice Av vs.length cv) vs.length vs (.slice none 0 0) rfl rfl rfl (by exact Hown4.out.1) (by exact below_drewN Hb5.out _) (by exact Hb5.out.size) (by omega) (by omega) ?_
               intro v1 w6 own6 hb6 hg6 hat6
               have Hg6 := Lib.hid hg6
               have Hin6 := Lib.hid (show All2 (fun u l => OwnI w6 w.heap.size 3 u l) vs R from Hown4.out.2.imp fun _ _ _ _ h => own_grown_row (w := w4.drewN _) h Hown4.out.1 (by decide) Hg6.out)
               have Hl6 := Lib.hid (show OwnI w6 w.heap.size 3 (.slice Al L.length cl) L from own_grown_row (w := w4.drewN _) Ownl.out Hown4.out.1 (by decide) Hg6.out)
               have Hvt6 := Lib.hid (show OwnI w6 w.heap.size 3 (.slice At2 ts.length ct2) ts from own_grown_row (w := w4.drewN _) Hvt4.out Hown4.out.1 (by decide) Hg6.out)
               have HB16 := Lib.hid (Blk.grown_row (w := w4.drewN _) HB14.out Hown4.out.1 (by decide) Hg6.out)
               have HB26 := Lib.hid (Blk.grown_row (w := w4.drewN _) HB24.out Hown4.out.1 (by decide) Hg6.out)
               have HB46 := Lib.hid (Blk.grown_row (w := w4.drewN _) HB44.out Hown4.out.1 (by decide) Hg6.out)
               have hd6 : w6.cell? ⟨b4, 1, none⟩ = some (.slice Av vs.length cv) := by have := HB46.out.cell 1; simpa using this
               have hf6 : w6.frozen? ⟨b4, 1, none⟩ = false := HB46.out.frozen 1
               obtain ⟨g, cap, rfl, hgB, hgs⟩ := own6.form (by omega)
               have Own6 := Lib.hid own6
               have Hb6 := Lib.hid hb6
               clear own6 hb6 hg6 hat6))
              have Own7 := Lib.hid (own_setCell_blk Own6.out HB46.out (by decide) 1 (.slice (some ⟨g, 0, none⟩) (vs.length + 1) cap))
              have Hin7 := Lib.hid (Hin6.out.imp (S := fun u l => OwnI (w6.setCell ⟨b4, 1, none⟩ (.slice (some ⟨g, 0, none⟩) (vs.length + 1) cap)) w.heap.size 3 u l) fun _ _ _ _ h => own_setCell_blk h HB46.out (by decide) 1 _)
              have Hl7 := Lib.hid (show OwnI (w6.setCell ⟨b4, 1, none⟩ (.slice (some ⟨g, 0, none⟩) (vs.length + 1) cap)) w.heap.size 3 (.slice Al L.length cl) L from own_setCell_blk Hl6.out HB46.out (by decide) 1 _)
              have Hvt7 := Lib.hid (show OwnI (w6.setCell ⟨b4, 1, none⟩ (.slice (some ⟨g, 0, none⟩) (vs.length + 1) cap)) w.heap.size 3 (.slice At2 ts.length ct2) ts from own_setCell_blk Hvt6.out HB46.out (by decide) 1 _)
              have HB17 := Lib.hid (HB16.out.far (p := ⟨b4, 1, none⟩) (by simp; omega) (.slice (some ⟨g, 0, none⟩) (vs.length + 1) cap))
              have HB27 := Lib.hid (HB26.out.far (p := ⟨b4, 1, none⟩) (by simp; omega) (.slice (some ⟨g, 0, none⟩) (vs.length + 1) cap))
              have HB47 := Lib.hid (HB46.out.set_ 1 (.slice (some ⟨g, 0, none⟩) (vs.length + 1) cap))
              have Hb7 := Lib.hid (Hb6.out.setCell (p := ⟨b4, 1, none⟩) (by simp; omega) (.slice (some ⟨g, 0, none⟩) (vs.length + 1) cap))
              clear Hg6 hd6 hf6
              go_loopw [8] (fun i wr => ∃ (jj : Nat) (y : Value), 0 ≤ jj ∧ jj ≤ vs.length ∧ i = .int .i64 jj ∧ Hid (wr.ownsRow w.heap.size 23 1 (.slice (some ⟨g, 0, none⟩) (vs.length + 1) cap) (vs.length + 1) (vs.take jj ++ y :: vs.drop jj)) ∧ Hid (All2 (fun u l => OwnI wr w.heap.size 3 u l) vs R) ∧ Hid (OwnI wr w.heap.size 3 (.slice Al L.length cl) L) ∧ Hid (OwnI wr w.heap.size 3 (.slice At2 ts.length ct2) ts) ∧ Hid (Blk wr w.heap.size 25 #[.int .i64 n, .slice (some ad) xss.length c, .slice At ts.length ct]) ∧ Hid (Blk wr (w.heap.size + 1) 25 #[.int .i64 0, .slice none 0 0, .slice none 0 0]) ∧ Hid (Blk wr b4 25 #[.int .i64 n, .slice (some ⟨g, 0, none⟩) (vs.length + 1) cap, .slice At2 ts.length ct2]) ∧ Hid (Below w.heap.size w wr)) (fun i _ => (intOf i).toNat)
              case atStart => exact ⟨vs.length, .slice none 0 0, by omega, Nat.le_refl _, by go_num, by have h := Own7.out; simpa [Hid] using h, Hin7.out, Hl7.out, Hvt7.out, by simpa [Hid] using HB17.out, by simpa [Hid] using HB27.out, by simpa [Hid] using HB47.out, Hb7.out⟩
              case round =>
                obtain ⟨jj, y, hjj0, hjj, rfl, own8, hin8, hl8, hvt8, hB18, hB28, hB48, hb8⟩ := hrel
                have hfz : ∀ t, wr.frozen? ⟨g, t, none⟩ = false := fun t => own8.out.frozenAt t
                have hcj : wr.cell? ⟨g, jj, none⟩ = some y := own_at own8.out (free_atG hjj)
                have hc8 : wr.cell? ⟨b4, 1, none⟩ = some (.slice (some ⟨g, 0, none⟩) (vs.length + 1) cap) := by have := hB48.out.cell 1; simpa using this
                rcases Nat.lt_or_ge 0 jj with hlt3 | hge3
                · obtain ⟨p3, hp3⟩ : ∃ p3 : Nat, p3 + 1 = jj := ⟨jj - 1, by omega⟩
                  have Hp3 := Lib.hid hp3
                  have hp3l : p3 < vs.length := by omega
                  obtain ⟨u3, l3, hu3, hl3, hr3⟩ := hin8.out.get (k := p3) (by rw [← hin8.out.1]; exact hp3l)
                  obtain ⟨A3, c3, rfl, _, _, _⟩ := CellsAt.of_own hr3
                  have Hu3 := Lib.hid hu3
                  have hcp : wr.cell? ⟨g, p3, none⟩ = some (.slice A3 l3.length c3) := own_at own8.out (by rw [← Hp3.out, free_getG hp3l]; exact hu3)
                  have hww1 : IntKind.i64.wrap ((jj : Int) - 1) = (p3 : Int) := by rw [IntWalk.i64_in _ (by omega)]; omega
                  have hww2 : wrap64 ((jj : Int) - 1) = (p3 : Int) := by unfold wrap64; omega
                  have hww3 : (jj : Int) - 1 = (p3 : Int) := by omega
                  clear hp3 hu3 hl3 hr3
                  go_wp2_with fail
                  go_region
                  have own9 := Lib.hid (show (wr.setCell ⟨g, jj, none⟩ (.slice A3 l3.length c3)).ownsRow w.heap.size 23 1 (.slice (some ⟨g, 0, none⟩) (vs.length + 1) cap) (vs.length + 1) (vs.take p3 ++ .slice A3 l3.length c3 :: vs.drop p3) by have h := own_set own8.out jj (.slice A3 l3.length c3); rw [← Hp3.out, shift_stepG Hu3.out, Hp3.out] at h; exact h)
                  have hin9 := Lib.hid (hin8.out.imp (S := fun u l => OwnI (wr.setCell ⟨g, jj, none⟩ (.slice A3 l3.length c3)) w.heap.size 3 u l) fun _ _ _ _ h => own_setCell_row h own8.out (by decide) jj _)
                  have hl9 := Lib.hid (show OwnI (wr.setCell ⟨g, jj, none⟩ (.slice A3 l3.length c3)) w.heap.size 3 (.slice Al L.length cl) L from own_setCell_row hl8.out own8.out (by decide) jj _)
                  have hvt9 := Lib.hid (show OwnI (wr.setCell ⟨g, jj, none⟩ (.slice A3 l3.length c3)) w.heap.size 3 (.slice At2 ts.length ct2) ts from own_setCell_row hvt8.out own8.out (by decide) jj _)
                  have hB19 := Lib.hid (hB18.out.set_row own8.out (by decide) jj (.slice A3 l3.length c3))
                  have hB29 := Lib.hid (hB28.out.set_row own8.out (by decide) jj (.slice A3 l3.length c3))
                  have hB49 := Lib.hid (hB48.out.set_row own8.out (by decide) jj (.slice A3 l3.length c3))
                  have hb9 := Lib.hid ((hb8.out.setCell (p := ⟨g, jj, none⟩) hgB (.slice A3 l3.length c3)).drew)
                  go_wp2_with fail
                  exact ⟨⟨p3, _, by have := Hp3.out; omega, by omega, by go_num, own9.out, hin9.out, hl9.out, hvt9.out, hB19.out, hB29.out, hB49.out, hb9.out⟩, by simp [intOf]; have := Hp3.out; omega⟩
                · have hjj' : jj = 0 := by omega
                  subst hjj'
                  have own9 := Lib.hid (show (wr.setCell ⟨g, 0, none⟩ (.slice Al L.length cl)).ownsRow w.heap.size 23 1 (.slice (some ⟨g, 0, none⟩) (vs.length + 1) cap) (vs.take 0 ++ .slice Al L.length cl :: vs.drop 0).length (vs.take 0 ++ .slice Al L.length cl :: vs.drop 0) by have h := own_set own8.out 0 (.slice Al L.length cl); rw [free_setG (by omega)] at h; rw [free_lenG (by omega)]; exact h)
                  have hin9 := Lib.hid (All2.free (hin8.out.imp (S := fun u l => OwnI (wr.setCell ⟨g, 0, none⟩ (.slice Al L.length cl)) w.heap.size 3 u l) fun _ _ _ _ h => own_setCell_row h own8.out (by decide) 0 _) 0 (x := .slice Al L.length cl) (y := L) (own_setCell_row hl8.out own8.out (by decide) 0 _))
                  have hvt9 := Lib.hid (show OwnI (wr.setCell ⟨g, 0, none⟩ (.slice Al L.length cl)) w.heap.size 3 (.slice At2 ts.length ct2) ts from own_setCell_row hvt8.out own8.out (by decide) 0 _)
                  have hB19 := Lib.hid (hB18.out.set_row own8.out (by decide) 0 (.slice Al L.length cl))
                  have hB29 := Lib.hid (hB28.out.set_row own8.out (by decide) 0 (.slice Al L.length cl))
                  have hB49 := Lib.hid (hB48.out.set_row own8.out (by decide) 0 (.slice Al L.length cl))
                  have hb9 := Lib.hid (hb8.out.setCell (p := ⟨g, 0, none⟩) hgB (.slice Al L.length cl))
                  go_wp2_with fail
                  exact ⟨⟨k + 1, _, _, by omega, by go_num, by rw [Hs2.out]; exact ⟨own9.out, hin9.out⟩, hvt9.out, hB19.out, hB29.out, hB49.out, hb9.out⟩, by simp [intOf]; omega⟩
            case inr =>
              obtain ⟨p, hp⟩ : ∃ p : Nat, p + 1 = j := ⟨j - 1, by omega⟩
              have Hp := Lib.hid hp
              have hpl : p < vs.length := by omega
              have hw1 : IntKind.i64.wrap ((j : Int) - 1) = (p : Int) := by rw [IntWalk.i64_in _ (by omega)]; omega
              have hw2 : wrap64 ((j : Int) - 1) = (p : Int) := by unfold wrap64; omega
              have hw3 : (j : Int) - 1 = (p : Int) := by omega
              have hg1 : decide ((0 : Int) < (j : Int)) = true := by simp; omega
              have hg2 : decide (0 < j) = true := by simp; omega
              have hplz : (p : Int) < vs.length := by omega
              clear hp
              obtain ⟨adv, u, rfl, hcu, hu⟩ := HAv4.out.get hpl
              obtain ⟨u', l', hu', hl', hr'⟩ := Hown4.out.2.get (k := p) (by rw [← Hown4.out.2.1]; exact hpl)
              obtain rfl : u = u' := by rw [hu] at hu'; injection hu'
              obtain ⟨Au, cu, rfl, hcu1, hcu2, hAu⟩ := CellsAt.of_own hr'
              have HAu := Lib.hid (show IntsAt w4 Au l' from hAu)
              have Hl' := Lib.hid hl'
              obtain ⟨hbd', hln'⟩ := HRb.out l' (List.mem_of_getElem? hl')
              have cO := Lib.hid (fun m : Nat => refOrder_calls Al cl L Au cu l' (w4.drewN m) HAl.out HAu.out (by omega) (by omega) HbdL.out hbd')
              have Hz := Lib.hid (show ltC L l' = decide (cmpC L l' < 0) from rfl)
              have Hz0 := Lib.hid (cmpC_zero L l')
              generalize cmpC L l' = z at cO Hz Hz0
              clear hu hu' hl' hr' hAu hbd'
              rcases Int.lt_trichotomy z 0 with hz | hz | hz
              · have Hs2 := Lib.hid (show posG ltC L R p = posG ltC L R R.length by rw [← hpos.out, ← Hp.out, posG_step Hl'.out, Hz.out, if_pos (by simpa using hz)])
                go_wp2_with fail
                refine (cO.out _).mono ?_
                rintro e w5 ⟨rfl, q5, rfl⟩
                go_wp2_with fail
                exact ⟨⟨p, _, by omega, by go_num, by first | rfl | (simp only [World.drewN_drewN]; rfl), Hs2⟩, by simp [intOf]; have := Hp.out; omega⟩
              · have hz1 : decide (z < 0) = false := by simp; omega
                have hz2 : (z == 0) = true := by simp [hz]
                have Hs2 := Lib.hid (show tidyR (xss.take (k + 1)) = R by
                  rw [Hs.out]
                  have h1 := hpos.out
                  rw [← Hp.out, posG_step Hl'.out, Hz.out, if_neg (by simp; omega)] at h1
                  unfold insG; simp only
                  rw [← h1, if_pos ⟨by omega, by rw [show p + 1 - 1 = p by omega, List.getD_eq_getElem?_getD, Hl'.out]; exact (Hz0.out.1 hz).symm⟩])
                clear hz
                go_wp2_with fail
                refine (cO.out _).mono ?_
                rintro e w5 ⟨rfl, q5, rfl⟩
                go_wp2_with fail
                refine (cO.out _).mono ?_
                rintro e w5 ⟨rfl, q6, rfl⟩
                go_wp2_with fail
                exact ⟨⟨k + 1, _, vs, by omega, by go_num, by rw [Hs2.out]; exact Hown4.out, Hvt4.out, HB14.out, HB24.out, HB44.out, by exact below_drewN Hb5.out _⟩, by simp [intOf]; omega⟩
              · have hz1 : decide (z < 0) = false := by simp; omega
                have hz2 : (z == 0) = false := by rw [beq_eq_false_iff_ne]; omega
                have Hs2 := Lib.hid (show tidyR (xss.take (k + 1)) = R.take j ++ L :: R.drop j by
                  rw [Hs.out]
                  have h1 := hpos.out
                  rw [← Hp.out, posG_step Hl'.out, Hz.out, if_neg (by simp; omega)] at h1
                  unfold insG; simp only
                  rw [← h1, if_neg (fun h => by have h2 := h.2; rw [show p + 1 - 1 = p by omega, List.getD_eq_getElem?_getD, Hl'.out] at h2; have := Hz0.out.2 h2.symm; omega), Hp.out])
                clear hz
                go_wp2_with fail
                refine (cO.out _).mono ?_
                rintro e w5 ⟨rfl, q5, rfl⟩
                go_wp2_with fail
                refine (cO.out _).mono ?_
                rintro e w5 ⟨rfl, q6, rfl⟩
                go_wp2_with ((
                 at_builtin
                 refine app1 (w0 := w) w.heap.size rfl (.tmp 69) (.tmp 70) 22 23 (.slice none 0 0) 24 rfl Tryd.underlying22 info_ints rfl (.slice (some adv) vs.length cv) vs.length vs (.slice none 0 0) rfl rfl rfl (by exact Hown4.out.1) (by exact below_drewN Hb5.out _) (by exact Hb5.out.size) (by omega) (by omega) ?_
                 intro v1 w6 own6 hb6 hg6 hat6
                 have Hg6 := Lib.hid hg6
                 have Hin6 := Lib.hid (show All2 (fun u l => OwnI w6 w.heap.size 3 u l) vs R from Hown4.out.2.imp fun _ _ _ _ h => own_grown_row (w := w4.drewN _) h Hown4.out.1 (by decide) Hg6.out)
                 have Hl6 := Lib.hid (show OwnI w6 w.heap.size 3 (.slice Al L.length cl) L from own_grown_row (w := w4.drewN _) Ownl.out Hown4.out.1 (by decide) Hg6.out)
                 have Hvt6 := Lib.hid (show OwnI w6 w.heap.size 3 (.slice At2 ts.length ct2) ts from own_grown_row (w := w4.drewN _) Hvt4.out Hown4.out.1 (by decide) Hg6.out)
                 have HB16 := Lib.hid (Blk.grown_row (w := w4.drewN _) HB14.out Hown4.out.1 (by decide) Hg6.out)
                 have HB26 := Lib.hid (Blk.grown_row (w := w4.drewN _) HB24.out Hown4.out.1 (by decide) Hg6.out)
                 have HB46 := Lib.hid (Blk.grown_row (w := w4.drewN _) HB44.out Hown4.out.1 (by decide) Hg6.out)
                 have hd6 : w6.cell? ⟨b4, 1, none⟩ = some (.slice (some adv) vs.length cv) := by have := HB46.out.cell 1; simpa using this
                 have hf6 : w6.frozen? ⟨b4, 1, none⟩ = false := HB46.out.frozen 1
                 obtain ⟨g, cap, rfl, hgB, hgs⟩ := own6.form (by omega)
                 have Own6 := Lib.hid own6
                 have Hb6 := Lib.hid hb6
                 clear own6 hb6 hg6 hat6))
                have Own7 := Lib.hid (own_setCell_blk Own6.out HB46.out (by decide) 1 (.slice (some ⟨g, 0, none⟩) (vs.length + 1) cap))
                have Hin7 := Lib.hid (Hin6.out.imp (S := fun u l => OwnI (w6.setCell ⟨b4, 1, none⟩ (.slice (some ⟨g, 0, none⟩) (vs.length + 1) cap)) w.heap.size 3 u l) fun _ _ _ _ h => own_setCell_blk h HB46.out (by decide) 1 _)
                have Hl7 := Lib.hid (show OwnI (w6.setCell ⟨b4, 1, none⟩ (.slice (some ⟨g, 0, none⟩) (vs.length + 1) cap)) w.heap.size 3 (.slice Al L.length cl) L from own_setCell_blk Hl6.out HB46.out (by decide) 1 _)
                have Hvt7 := Lib.hid (show OwnI (w6.setCell ⟨b4, 1, none⟩ (.slice (some ⟨g, 0, none⟩) (vs.length + 1) cap)) w.heap.size 3 (.slice At2 ts.length ct2) ts from own_setCell_blk Hvt6.out HB46.out (by decide) 1 _)
                have HB17 := Lib.hid (HB16.out.far (p := ⟨b4, 1, none⟩) (by simp; omega) (.slice (some ⟨g, 0, none⟩) (vs.length + 1) cap))
                have HB27 := Lib.hid (HB26.out.far (p := ⟨b4, 1, none⟩) (by simp; omega) (.slice (some ⟨g, 0, none⟩) (vs.length + 1) cap))
                have HB47 := Lib.hid (HB46.out.set_ 1 (.slice (some ⟨g, 0, none⟩) (vs.length + 1) cap))
                have Hb7 := Lib.hid (Hb6.out.setCell (p := ⟨b4, 1, none⟩) (by simp; omega) (.slice (some ⟨g, 0, none⟩) (vs.length + 1) cap))
                clear Hg6 hd6 hf6
                go_loopw [8] (fun i wr => ∃ (jj : Nat) (y : Value), j ≤ jj ∧ jj ≤ vs.length ∧ i = .int .i64 jj ∧ Hid (wr.ownsRow w.heap.size 23 1 (.slice (some ⟨g, 0, none⟩) (vs.length + 1) cap) (vs.length + 1) (vs.take jj ++ y :: vs.drop jj)) ∧ Hid (All2 (fun u l => OwnI wr w.heap.size 3 u l) vs R) ∧ Hid (OwnI wr w.heap.size 3 (.slice Al L.length cl) L) ∧ Hid (OwnI wr w.heap.size 3 (.slice At2 ts.length ct2) ts) ∧ Hid (Blk wr w.heap.size 25 #[.int .i64 n, .slice (some ad) xss.length c, .slice At ts.length ct]) ∧ Hid (Blk wr (w.heap.size + 1) 25 #[.int .i64 0, .slice none 0 0, .slice none 0 0]) ∧ Hid (Blk wr b4 25 #[.int .i64 n, .slice (some ⟨g, 0, none⟩) (vs.length + 1) cap, .slice At2 ts.length ct2]) ∧ Hid (Below w.heap.size w wr)) (fun i _ => (intOf i).toNat)
                case atStart => exact ⟨vs.length, .slice none 0 0, by omega, Nat.le_refl _, by go_num, by have h := Own7.out; simpa [Hid] using h, Hin7.out, Hl7.out, Hvt7.out, by simpa [Hid] using HB17.out, by simpa [Hid] using HB27.out, by simpa [Hid] using HB47.out, Hb7.out⟩
                case round =>
                  obtain ⟨jj, y, hjj0, hjj, rfl, own8, hin8, hl8, hvt8, hB18, hB28, hB48, hb8⟩ := hrel
                  have hfz : ∀ t, wr.frozen? ⟨g, t, none⟩ = false := fun t => own8.out.frozenAt t
                  have hcj : wr.cell? ⟨g, jj, none⟩ = some y := own_at own8.out (free_atG hjj)
                  have hc8 : wr.cell? ⟨b4, 1, none⟩ = some (.slice (some ⟨g, 0, none⟩) (vs.length + 1) cap) := by have := hB48.out.cell 1; simpa using this
                  rcases Nat.lt_or_ge j jj with hlt3 | hge3
                  · obtain ⟨p3, hp3⟩ : ∃ p3 : Nat, p3 + 1 = jj := ⟨jj - 1, by omega⟩
                    have Hp3 := Lib.hid hp3
                    have hp3l : p3 < vs.length := by omega
                    obtain ⟨u3, l3, hu3, hl3, hr3⟩ := hin8.out.get (k := p3) (by rw [← hin8.out.1]; exact hp3l)
                    obtain ⟨A3, c3, rfl, _, _, _⟩ := CellsAt.of_own hr3
                    have Hu3 := Lib.hid hu3
                    have hcp : wr.cell? ⟨g, p3, none⟩ = some (.slice A3 l3.length c3) := own_at own8.out (by rw [← Hp3.out, free_getG hp3l]; exact hu3)
                    have hww1 : IntKind.i64.wrap ((jj : Int) - 1) = (p3 : Int) := by rw [IntWalk.i64_in _ (by omega)]; omega
                    have hww2 : wrap64 ((jj : Int) - 1) = (p3 : Int) := by unfold wrap64; omega
                    have hww3 : (jj : Int) - 1 = (p3 : Int) := by omega
                    clear hp3 hu3 hl3 hr3
                    go_wp2_with fail
                    go_region
                    have own9 := Lib.hid (show (wr.setCell ⟨g, jj, none⟩ (.slice A3 l3.length c3)).ownsRow w.heap.size 23 1 (.slice (some ⟨g, 0, none⟩) (vs.length + 1) cap) (vs.length + 1) (vs.take p3 ++ .slice A3 l3.length c3 :: vs.drop p3) by have h := own_set own8.out jj (.slice A3 l3.length c3); rw [← Hp3.out, shift_stepG Hu3.out, Hp3.out] at h; exact h)
                    have hin9 := Lib.hid (hin8.out.imp (S := fun u l => OwnI (wr.setCell ⟨g, jj, none⟩ (.slice A3 l3.length c3)) w.heap.size 3 u l) fun _ _ _ _ h => own_setCell_row h own8.out (by decide) jj _)
                    have hl9 := Lib.hid (show OwnI (wr.setCell ⟨g, jj, none⟩ (.slice A3 l3.length c3)) w.heap.size 3 (.slice Al L.length cl) L from own_setCell_row hl8.out own8.out (by decide) jj _)
                    have hvt9 := Lib.hid (show OwnI (wr.setCell ⟨g, jj, none⟩ (.slice A3 l3.length c3)) w.heap.size 3 (.slice At2 ts.length ct2) ts from own_setCell_row hvt8.out own8.out (by decide) jj _)
                    have hB19 := Lib.hid (hB18.out.set_row own8.out (by decide) jj (.slice A3 l3.length c3))
                    have hB29 := Lib.hid (hB28.out.set_row own8.out (by decide) jj (.slice A3 l3.length c3))
                    have hB49 := Lib.hid (hB48.out.set_row own8.out (by decide) jj (.slice A3 l3.length c3))
                    have hb9 := Lib.hid ((hb8.out.setCell (p := ⟨g, jj, none⟩) hgB (.slice A3 l3.length c3)).drew)
                    go_wp2_with fail
                    exact ⟨⟨p3, _, by have := Hp3.out; omega, by omega, by go_num, own9.out, hin9.out, hl9.out, hvt9.out, hB19.out, hB29.out, hB49.out, hb9.out⟩, by simp [intOf]; have := Hp3.out; omega⟩
                  · have hjj' : jj = j := by omega
                    obtain rfl : j = jj := hjj'.symm
                    have own9 := Lib.hid (show (wr.setCell ⟨g, j, none⟩ (.slice Al L.length cl)).ownsRow w.heap.size 23 1 (.slice (some ⟨g, 0, none⟩) (vs.length + 1) cap) (vs.take j ++ .slice Al L.length cl :: vs.drop j).length (vs.take j ++ .slice Al L.length cl :: vs.drop j) by have h := own_set own8.out j (.slice Al L.length cl); rw [free_setG (by omega)] at h; rw [free_lenG (by omega)]; exact h)
                    have hin9 := Lib.hid (All2.free (hin8.out.imp (S := fun u l => OwnI (wr.setCell ⟨g, j, none⟩ (.slice Al L.length cl)) w.heap.size 3 u l) fun _ _ _ _ h => own_setCell_row h own8.out (by decide) j _) j (x := .slice Al L.length cl) (y := L) (own_setCell_row hl8.out own8.out (by decide) j _))
                    have hvt9 := Lib.hid (show OwnI (wr.setCell ⟨g, j, none⟩ (.slice Al L.length cl)) w.heap.size 3 (.slice At2 ts.length ct2) ts from own_setCell_row hvt8.out own8.out (by decide) j _)
                    have hB19 := Lib.hid (hB18.out.set_row own8.out (by decide) j (.slice Al L.length cl))
                    have hB29 := Lib.hid (hB28.out.set_row own8.out (by decide) j (.slice Al L.length cl))
                    have hB49 := Lib.hid (hB48.out.set_row own8.out (by decide) j (.slice Al L.length cl))
                    have hb9 := Lib.hid (hb8.out.setCell (p := ⟨g, j, none⟩) hgB (.slice Al L.length cl))
                    go_wp2_with fail
                    exact ⟨⟨k + 1, _, _, by omega, by go_num, by rw [Hs2.out]; exact ⟨own9.out, hin9.out⟩, hvt9.out, hB19.out, hB29.out, hB49.out, hb9.out⟩, by simp [intOf]; omega⟩
      · have hkk : xss.take k = xss := List.take_of_length_le (by omega)
        have hown' := Lib.hid (show OwnC wo w.heap.size vc vs (tidyR xss) by have h := hown.out; rwa [hkk] at h)
        clear hown hkk
        obtain ⟨Av, cv, rfl, hcv1, hcv2, _⟩ := CellsAt.of_own hown'.out.1
        have hc40 : wo.cell? ⟨b4, 0, none⟩ = some (.int .i64 n) := by have := hB4.out.cell 0; simpa using this
        have hc41 : wo.cell? ⟨b4, 1, none⟩ = some (.slice Av vs.length cv) := by have := hB4.out.cell 1; simpa using this
        have hc42 : wo.cell? ⟨b4, 2, none⟩ = some (.slice At2 ts.length ct2) := by have := hB4.out.cell 2; simpa using this
        have hc20 : wo.cell? ⟨w.heap.size + 1, 0, none⟩ = some (.int .i64 0) := by have := hB2.out.cell 0; simpa using this
        have hc21 : wo.cell? ⟨w.heap.size + 1, 1, none⟩ = some (.slice none 0 0) := by have := hB2.out.cell 1; simpa using this
        have hc22 : wo.cell? ⟨w.heap.size + 1, 2, none⟩ = some (.slice none 0 0) := by have := hB2.out.cell 2; simpa using this
        have hf2 : ∀ i, wo.frozen? ⟨w.heap.size + 1, i, none⟩ = false := fun i => hB2.out.frozen i
        have HB2a := Lib.hid (hB2.out.set_ 0 (.int .i64 n))
        have HB2b := Lib.hid (HB2a.out.set_ 1 (.slice Av vs.length cv))
        have HB2c := Lib.hid (HB2b.out.set_ 2 (.slice At2 ts.length ct2))
        have HO := Lib.hid (((hown'.out.set_blk hB2.out (by decide) (by decide) 0 (.int .i64 n)).set_blk HB2a.out (by decide) (by decide) 1 (.slice Av vs.length cv)).set_blk HB2b.out (by decide) (by decide) 2 (.slice At2 ts.length ct2))
        have HT := Lib.hid (own_setCell_blk (own_setCell_blk (own_setCell_blk hvt.out hB2.out (by decide) 0 (.int .i64 n)) HB2a.out (by decide) 1 (.slice Av vs.length cv)) HB2b.out (by decide) 2 (.slice At2 ts.length ct2))
        have Hbf := Lib.hid (((hb.out.setCell (p := ⟨w.heap.size + 1, 0, none⟩) (by simp) (.int .i64 n)).setCell (p := ⟨w.heap.size + 1, 1, none⟩) (by simp) (.slice Av vs.length cv)).setCell (p := ⟨w.heap.size + 1, 2, none⟩) (by simp) (.slice At2 ts.length ct2))
        go_wp2_with fail
        have HC := HB2c.out
        refine bodyPost_ret (v := .tuple #[.agg #[.int .i64 n, .slice Av vs.length cv, .slice At2 ts.length ct2], .int .i64 0]) (by simp [results, Tryd.results5, go_sem, hc20, hc21, hc22]) rfl ⟨_, _, rfl, HO.out.rows, OwnI.ints HT.out, Hbf.out⟩

end Go.Proofs.YtnadmnhkfdkafaaDoor
