/- Contract: the law's copied. -/
import Derived.Test.YtnadmnhkfdkafaaDoorRooms
import Derived.Test.YtnadmnhkfdkafaaDoorShow
import Derived.OwnWalk
namespace Go.Proofs.YtnadmnhkfdkafaaDoor
open Go.RowKit
set_option linter.unusedVariables false
set_option linter.unusedSimpArgs false

/-- append(v, ys...) at a step of a region that draws -/
theorem stepN {P : Program} {ops : Array Oper} {o : Oper} {a : Act} {K : Act → World → Prop} {Q : Exit → Act → World → Prop} {E : Prop} {w0 W : World} (B : Nat) (hgd : o.guard = none) (s x : Operand) (t e : TypeId) (z : Value) (bytes : Nat)
    (ho : o.op = .call { callee := .builtin .append, args := #[s, x], argTypes := #[t, t] })
    (ht : P.underlying t = some (.slice e)) (hinfo : (P.info? e).map (fun i => (i.zero, i.size, i.bytes)) = some (some z, 1, bytes)) (hz : z.cells.size = 1)
    (v : Value) (n : Nat) (xs ys : List Value) (A : Option Addr) (c : Nat) (hs : a.eval s = v) (hx : a.eval x = .slice A ys.length c) (h1 : ∀ u ∈ ys, u.oneCell' = true)
    (HO : W.ownsRow B e 1 v n xs) (HR : CellsAt W A ys) (HB : Below B w0 W) (hbase : B ≤ W.heap.size) (hm : n + ys.length ≤ 140737488355328) (hl : (n + ys.length) * bytes ≤ 140737488355328)
    (h : ∀ v1 w1, w1.ownsRow B e 1 v1 (n + ys.length) (xs ++ ys) → Below B w0 w1 → W.grownBy w1 v.ownBlock → K (a.put o.dst v1) w1) :
    if Region.wanted o (yielded ops a.tmps) = true then Oper.wp P o a W K Q else E := by
  have hw : Region.wanted o (yielded ops a.tmps) = true := by simp [Region.wanted, hgd]
  rw [if_pos hw]
  obtain ⟨i0, hi, hz0, hz1, hz2⟩ := info_parts hinfo
  have key : ∃ v1 w1, (Builtin.append_ #[t, t] o.type #[v, .slice A ys.length c]).run P W = .ok v1 w1 ∧ w1.ownsRow B e 1 v1 (n + ys.length) (xs ++ ys) ∧ W.grownBy w1 v.ownBlock := by
    have own : ∀ (ad : Addr), A = some ad → (∀ j u, ys[j]? = some u → W.cell? (ad.add j) = some u) → ∃ v1 w1, (Builtin.append_ #[t, t] o.type #[v, .slice A ys.length c]).run P W = .ok v1 w1 ∧ w1.ownsRow B e 1 v1 (n + ys.length) (xs ++ ys) ∧ W.grownBy w1 v.ownBlock := by
      rintro ad rfl hc
      obtain ⟨v1, w1, hr, hown, hg, _, _⟩ := run_append_own_at (P := P) W B t o.type e i0 z 1 bytes ht hi hz0 hz1 hz2 hz (by omega) v n xs HO ad ys.length c ys (by simp) hc h1 (by simp only [maxLen]; omega) hl hbase
      exact ⟨v1, w1, hr, hown, hg⟩
    rcases HR with hnil | ⟨ad, hA, hc⟩
    · subst hnil
      rcases A with _ | ad
      · have hrun : (Builtin.append_ #[t, t] o.type #[v, .slice none 0 c]).run P W = .ok v W := by
          rcases HO.2 with ⟨rfl, hn⟩ | ⟨g, cap, cur, rfl, _, _, hnc, _⟩
          · simp [Builtin.append_, run_underlying ht, sizeOf, typeInfo, hi, Builtin.lenOf, Builtin.firstCells]
          · simp [Builtin.append_, run_underlying ht, sizeOf, typeInfo, hi, Builtin.lenOf, Builtin.firstCells, hnc, storeCells]
        exact ⟨v, W, hrun, by simpa using HO, World.grownBy.refl W _⟩
      · exact own ad rfl (by simp)
    · exact own ad hA hc
  obtain ⟨v1, w1, hr, hown, hg⟩ := key
  unfold Oper.wp execOp
  simp only [ho, resolve, invoke, builtin, Sem.run_bind, Sem.run_pure, Result.andThen_ok, List.map_toArray, List.map_cons, List.map_nil, hs, hx, hr]
  exact h v1 w1 hown (HB.grown hg hbase (fun k hk => (HO.lt k hk).1)) hg

set_option maxHeartbeats 8000000 in
set_option maxRecDepth 100000 in
theorem copied_calls (n : Int) (A : Option Addr) (c : Nat) (xss : List (List Int)) (At : Option Addr) (ct : Nat) (ts : List Int) (w : World)
    (hx : RowsAt w A xss) (ht : IntsAt w At ts) (hl : xss.length ≤ 1048576) (htl : ts.length ≤ 1048576) (hxl : ∀ l ∈ xss, l.length ≤ 1048576) :
    Calls Tryd.prog 6 #[.agg #[.int .i64 n, .slice A xss.length c, .slice At ts.length ct]] w fun e w' => ∃ A2 c2 At2 ct2, e = .returned (.agg #[.int .i64 n, .slice A2 xss.length c2, .slice At2 ts.length ct2]) ∧ xss.length ≤ c2 ∧ RowsAt w' A2 xss ∧ IntsAt w' At2 ts ∧ Below w.heap.size w w' := by
  have hbW := ((Below.refl w.heap.size w).alloc (Nat.le_refl _) (.cells #[.int .i64 n, .slice A xss.length c, .slice At ts.length ct] 25)).alloc (by simp) (.cells #[.int .i64 0, .slice none 0 0, .slice none 0 0] 25)
  have HX := Lib.hid hx
  have HT := Lib.hid ht
  have HL := Lib.hid hxl
  have HbW := Lib.hid hbW
  have HB1 := Lib.hid ((Blk.new w 25 #[.int .i64 n, .slice A xss.length c, .slice At ts.length ct]).alloc (.cells #[.int .i64 0, .slice none 0 0, .slice none 0 0] 25))
  have HB2 := Lib.hid (show Blk ((w.alloc (.cells #[.int .i64 n, .slice A xss.length c, .slice At ts.length ct] 25)).alloc (.cells #[.int .i64 0, .slice none 0 0, .slice none 0 0] 25)) (w.heap.size + 1) 25 #[.int .i64 0, .slice none 0 0, .slice none 0 0] by
    have h := Blk.new (w.alloc (.cells #[.int .i64 n, .slice A xss.length c, .slice At ts.length ct] 25)) 25 #[.int .i64 0, .slice none 0 0, .slice none 0 0]; simpa using h)
  clear hx ht hxl hbW
  go_enter Tryd.func6, Tryd.ntmps6
  obtain ⟨W, hW⟩ : ∃ W, W = (w.alloc (.cells #[.int .i64 n, .slice A xss.length c, .slice At ts.length ct] 25)).alloc (.cells #[.int .i64 0, .slice none 0 0, .slice none 0 0] 25) := ⟨_, rfl⟩
  have hszW : W.heap.size = w.heap.size + 2 := by rw [hW]; simp
  have HB3 := Lib.hid (show Blk (W.alloc (.cells #[.int .i64 n, .slice none 0 0, .slice none 0 0] 25)) (w.heap.size + 2) 25 #[.int .i64 n, .slice none 0 0, .slice none 0 0] by rw [← hszW]; exact Blk.new W _ _)
  rw [← hW] at HbW HB1 HB2
  have HbW3 := Lib.hid (HbW.out.alloc HbW.out.size (.cells #[.int .i64 n, .slice none 0 0, .slice none 0 0] 25))
  have HB13 := Lib.hid (HB1.out.alloc (.cells #[.int .i64 n, .slice none 0 0, .slice none 0 0] 25))
  have HB23 := Lib.hid (HB2.out.alloc (.cells #[.int .i64 n, .slice none 0 0, .slice none 0 0] 25))
  subst hW
  clear hszW
  go_wp2_with ((
    at_builtin
    go_loud (refine appN (w0 := w) w.heap.size rfl (.tmp 9) (.tmp 11) 23 3 (.int .i64 0) 8 rfl Tryd.underlying23 info_int rfl (.slice none 0 0) 0 [] (ts.map (Value.int .i64)) At ct rfl (by simp [Act.eval]) (by simp [Value.oneCell']) (World.ownsRow_nil _ _ _ _) ?hR ?hB ?hS (by simp; omega) (by simp; omega) ?_)
    case hR => exact IntsAt.below HT.out HbW3.out
    case hB => exact HbW3.out
    case hS => exact HbW3.out.size
    intro vt w2 own2 hb2 hg2 hat2
    have own2' : w2.ownsRow w.heap.size 3 1 vt ts.length (ts.map (Value.int .i64)) := by simpa using own2
    have Own2 := Lib.hid (show OwnI w2 w.heap.size 3 vt ts from own2')
    have Hb2 := Lib.hid hb2
    have HB12 := Lib.hid (Blk.grown_row HB13.out (World.ownsRow_nil _ w.heap.size 3 1) (by decide) hg2)
    have HB22 := Lib.hid (Blk.grown_row HB23.out (World.ownsRow_nil _ w.heap.size 3 1) (by decide) hg2)
    have HB32 := Lib.hid (Blk.grown_row HB3.out (World.ownsRow_nil _ w.heap.size 3 1) (by decide) hg2)
    have hd2 : w2.cell? ⟨w.heap.size + 1 + 1, 2, none⟩ = some (.slice none 0 0) := by have := HB32.out.cell 2; simpa using this
    have hf2 : w2.frozen? ⟨w.heap.size + 1 + 1, 2, none⟩ = false := HB32.out.frozen 2
    obtain ⟨At2, ct2, rfl, _, _, _⟩ := CellsAt.of_own own2'
    clear own2 own2' hb2 hg2 hat2))
  have Own3 := Lib.hid (own_setCell_blk Own2.out HB32.out (by decide) 2 (.slice At2 ts.length ct2))
  have HB33 := Lib.hid (show Blk (w2.setCell ⟨w.heap.size + 1 + 1, 2, none⟩ (.slice At2 ts.length ct2)) (w.heap.size + 2) 25 #[.int .i64 n, .slice none 0 0, .slice At2 ts.length ct2] by have h := HB32.out.set_ 2 (.slice At2 ts.length ct2); simpa using h)
  have HB13' := Lib.hid (HB12.out.far (p := ⟨w.heap.size + 1 + 1, 2, none⟩) (by simp; omega) (.slice At2 ts.length ct2))
  have HB23' := Lib.hid (HB22.out.far (p := ⟨w.heap.size + 1 + 1, 2, none⟩) (by simp) (.slice At2 ts.length ct2))
  have Hb3 := Lib.hid (Hb2.out.setCell (p := ⟨w.heap.size + 1 + 1, 2, none⟩) (by simp; omega) (.slice At2 ts.length ct2))
  clear HB3 HbW3 HB13 HB23 HB12 HB22 HB32 Hb2 Own2 HbW HB1 HB2
  go_loopw [4] (fun i wr => ∃ (k : Nat) (vc : Value) (vs : List Value), k ≤ xss.length ∧ i = .int .i64 k ∧ Hid (OwnC wr w.heap.size vc vs (xss.take k)) ∧ Hid (OwnI wr w.heap.size 3 (.slice At2 ts.length ct2) ts) ∧
    Hid (Blk wr (w.heap.size + 2) 25 #[.int .i64 n, vc, .slice At2 ts.length ct2]) ∧ Hid (Blk wr w.heap.size 25 #[.int .i64 n, .slice A xss.length c, .slice At ts.length ct]) ∧ Hid (Blk wr (w.heap.size + 1) 25 #[.int .i64 0, .slice none 0 0, .slice none 0 0]) ∧ Hid (Below w.heap.size w wr)) (fun i _ => (xss.length - intOf i).toNat)
  case atStart => exact ⟨0, .slice none 0 0, [], Nat.zero_le _, rfl, ⟨World.ownsRow_nil _ _ _ _, All2.nil _⟩, Own3.out, HB33.out, HB13'.out, HB23'.out, Hb3.out⟩
  case round =>
    obtain ⟨k, vc, vs, hk, rfl, hown, hvt, hB3, hB1, hB2, hb⟩ := hrel
    clear Own3 HB33 HB13' HB23' Hb3
    obtain ⟨wo, rfl⟩ : ∃ wo : World, wo = wr := ⟨_, rfl⟩
    have k1 : wo.cell? ⟨w.heap.size, 1, none⟩ = some (.slice A xss.length c) := by have := hB1.out.cell 1; simpa using this
    have k31 : wo.cell? ⟨w.heap.size + 1 + 1, 1, none⟩ = some vc := by have := hB3.out.cell 1; simpa using this
    have hvl := Lib.hid (show vs.length = (xss.take k).length from hown.out.2.1)
    have hvl2 : vs.length ≤ 1048576 := by rw [hvl.out]; simp; omega
    by_cases hlt : k < xss.length
    · obtain ⟨ad, A1, c1, l, rfl, hcell, h1, h2, Hl, Hi⟩ := (HX.out.below hb.out).get hlt
      have hl1 : l.length ≤ 1048576 := HL.out l (List.mem_of_getElem? Hl.out)
      have hlz : (k : Int) < xss.length := by omega
      have q1 : ∀ o, (wo.alloc o).cell? ⟨w.heap.size, 1, none⟩ = some (.slice (some ad) xss.length c) := fun o => cell_kept ((Below.refl _ wo).alloc (Nat.le_refl _) o) k1
      have q31 : ∀ o, (wo.alloc o).cell? ⟨w.heap.size + 1 + 1, 1, none⟩ = some vc := fun o => cell_kept ((Below.refl _ wo).alloc (Nat.le_refl _) o) k31
      have qc : ∀ o, (wo.alloc o).cell? (ad.add k) = some (.slice A1 l.length c1) := fun o => cell_kept ((Below.refl _ wo).alloc (Nat.le_refl _) o) hcell
      have Own0 := Lib.hid (show (wo.alloc (.cells #[] 3)).ownsRow w.heap.size 3 1 (.slice (some ⟨wo.heap.size, 0, none⟩) 0 0) 0 [] by
        have h := World.ownsRow_lit wo (e := 3) (size := 1) (base := w.heap.size) #[] 0 hb.out.size (by simp) (by simp)
        simpa using h)
      have Hb0 := Lib.hid (hb.out.alloc hb.out.size (.cells #[] 3))
      go_wp2_with fail
      go_region_law (first
        | (refine stepS (w0 := w) (W := w3) w.heap.size rfl (.tmp 22) (.tmp 30) 22 23 (.slice none 0 0) 1 24 1 rfl Tryd.underlying22 info_ints rfl (by decide) vc vs.length vs [.slice A3 l.length c3] rfl rfl ?hx (by simp [Value.oneCell']) C3.out.1 Hb3.out Hb3.out.size (by omega) (by omega) ?_
           case hx => simp [Act.eval]
           intro v5 w5 own5 hb5 hg5
           have G1 := Lib.hid (show All2 (fun u l => OwnI w5 w.heap.size 3 u l) (vs ++ [.slice A3 l.length c3]) (xss.take (k + 1)) by
             rw [List.take_add_one, Hl.out]
             exact (C3.out.2.imp fun _ _ _ _ h => own_grown_row h C3.out.1 (by decide) hg5).snoc (own_grown_row Own3.out C3.out.1 (by decide) hg5))
           have G2 := Lib.hid (show OwnI w5 w.heap.size 3 (.slice At2 ts.length ct2) ts from own_grown_row T3.out C3.out.1 (by decide) hg5)
           have B35 := Lib.hid (Blk.grown_row B33.out C3.out.1 (by decide) hg5)
           have B15 := Lib.hid (Blk.grown_row B13.out C3.out.1 (by decide) hg5)
           have B25 := Lib.hid (Blk.grown_row B23.out C3.out.1 (by decide) hg5)
           have Hb5 := Lib.hid hb5
           have s5 : w5.cell? ⟨w.heap.size + 1 + 1, 1, none⟩ = some vc := by have := B35.out.cell 1; simpa using this
           have f5 : ∀ i, w5.frozen? ⟨w.heap.size + 1 + 1, i, none⟩ = false := fun i => B35.out.frozen i
           obtain ⟨g5, c5, rfl, _, _⟩ := own5.form (by simp)
           have Own5 := Lib.hid own5
           clear own5 hb5 hg5)
        | (refine stepN (w0 := w) w.heap.size rfl (.tmp 23) (.tmp 28) 23 3 (.int .i64 0) 8 rfl Tryd.underlying23 info_int rfl (.slice (some ⟨wo.heap.size, 0, none⟩) 0 0) 0 [] (l.map (Value.int .i64)) A1 c1 rfl ?hx (by simp [Value.oneCell']) Own0.out ?hR ?hB Hb0.out.size (by simp; omega) (by simp; omega) ?_
           case hx => simp [Act.eval]
           case hB => first | exact Hb0.out | exact Hb0.out.drew
           case hR => first | exact IntsAt.below Hi.out ((Below.refl _ wo).alloc (Nat.le_refl _) _).drew | exact IntsAt.below Hi.out ((Below.refl _ wo).alloc (Nat.le_refl _) _)
           intro v3 w3 own3 hb3 hg3'
           have hg3 : (wo.alloc (.cells #[] 3)).grownBy w3 (Value.slice (some ⟨wo.heap.size, 0, none⟩) 0 0).ownBlock := ⟨hg3'.os, hg3'.tape, hg3'.output, hg3'.size, hg3'.block⟩
           have own3' : w3.ownsRow w.heap.size 3 1 v3 l.length (l.map (Value.int .i64)) := by simpa using own3
           have Own3 := Lib.hid (show OwnI w3 w.heap.size 3 v3 l from own3')
           have Hb3 := Lib.hid hb3
           have B33 := Lib.hid (Blk.grown_row (hB3.out.alloc _) Own0.out (by decide) hg3)
           have B13 := Lib.hid (Blk.grown_row (hB1.out.alloc _) Own0.out (by decide) hg3)
           have B23 := Lib.hid (Blk.grown_row (hB2.out.alloc _) Own0.out (by decide) hg3)
           have C3 := Lib.hid (show OwnC w3 w.heap.size vc vs (xss.take k) from ⟨own_grown_row (World.ownsRow.alloc hown.out.1 _) Own0.out (by decide) hg3, hown.out.2.imp fun _ _ _ _ h => h.below ((show Below wo.heap.size wo w3 from ((Below.refl wo.heap.size wo).alloc (Nat.le_refl _) _).grown hg3 (by simp) (fun k hk => by simp [Value.ownBlock] at hk; omega)))⟩)
           have T3 := Lib.hid (show OwnI w3 w.heap.size 3 (.slice At2 ts.length ct2) ts from OwnI.below hvt.out ((show Below wo.heap.size wo w3 from ((Below.refl wo.heap.size wo).alloc (Nat.le_refl _) _).grown hg3 (by simp) (fun k hk => by simp [Value.ownBlock] at hk; omega))))
           have s31 : w3.cell? ⟨w.heap.size + 1 + 1, 1, none⟩ = some vc := by have := B33.out.cell 1; simpa using this
           have q32 : ∀ o, (w3.alloc o).cell? ⟨w.heap.size + 1 + 1, 1, none⟩ = some vc := fun o => cell_kept ((Below.refl _ w3).alloc (Nat.le_refl _) o) s31
           obtain ⟨A3, c3, rfl, _, _, _⟩ := CellsAt.of_own own3'
           clear own3 own3' hb3 hg3 hg3'))
      all_goals
        go_wp2_with fail
        refine ⟨⟨k + 1, .slice (some ⟨g5, 0, none⟩) (vs.length + 1) c5, vs ++ [.slice A3 l.length c3], by omega, by go_num, ?_, ?_, ?_, ?_, ?_, ?_⟩, by simp [intOf]; omega⟩
        · refine ⟨?_, G1.out.imp fun _ _ _ _ h => own_setCell_blk h B35.out (by decide) 1 _⟩
          rw [List.length_append]
          exact own_setCell_blk Own5.out B35.out (by decide) 1 _
        · exact own_setCell_blk G2.out B35.out (by decide) 1 _
        · have h := B35.out.set_ 1 (.slice (some ⟨g5, 0, none⟩) (vs.length + 1) c5); simpa [Hid] using h
        · exact B15.out.far (p := ⟨w.heap.size + 1 + 1, 1, none⟩) (by simp; omega) _
        · exact B25.out.far (p := ⟨w.heap.size + 1 + 1, 1, none⟩) (by simp) _
        · exact Hb5.out.setCell (p := ⟨w.heap.size + 1 + 1, 1, none⟩) (by simp; omega) _
    · have hkk := Lib.hid (show xss.take k = xss from List.take_of_length_le (by omega))
      have hvx : vs.length = xss.length := by rw [hvl.out, hkk.out]
      have k30 : wo.cell? ⟨w.heap.size + 1 + 1, 0, none⟩ = some (.int .i64 n) := by have := hB3.out.cell 0; simpa using this
      have k32 : wo.cell? ⟨w.heap.size + 1 + 1, 2, none⟩ = some (.slice At2 ts.length ct2) := by have := hB3.out.cell 2; simpa using this
      obtain ⟨Ac, cc, rfl, hcc1, hcc2, _⟩ := CellsAt.of_own hown.out.1
      have HR := Lib.hid (show IsRows wo (.slice Ac vs.length cc) xss by have h := hown.out.rows; rwa [hkk.out] at h)
      have k20 : wo.cell? ⟨w.heap.size + 1, 0, none⟩ = some (.int .i64 0) := by have := hB2.out.cell 0; simpa using this
      have k21 : wo.cell? ⟨w.heap.size + 1, 1, none⟩ = some (.slice none 0 0) := by have := hB2.out.cell 1; simpa using this
      have k22 : wo.cell? ⟨w.heap.size + 1, 2, none⟩ = some (.slice none 0 0) := by have := hB2.out.cell 2; simpa using this
      have f2 : ∀ i, wo.frozen? ⟨w.heap.size + 1, i, none⟩ = false := fun i => hB2.out.frozen i
      have HB2a := Lib.hid (hB2.out.set_ 0 (.int .i64 n))
      have HB2b := Lib.hid (HB2a.out.set_ 1 (.slice Ac vs.length cc))
      have HO := Lib.hid (((hown.out.set_blk hB2.out (by decide) (by decide) 0 (.int .i64 n)).set_blk HB2a.out (by decide) (by decide) 1 (.slice Ac vs.length cc)).set_blk HB2b.out (by decide) (by decide) 2 (.slice At2 ts.length ct2))
      have HT2 := Lib.hid (own_setCell_blk (own_setCell_blk (own_setCell_blk hvt.out hB2.out (by decide) 0 (.int .i64 n)) HB2a.out (by decide) 1 (.slice Ac vs.length cc)) HB2b.out (by decide) 2 (.slice At2 ts.length ct2))
      have Hbf := Lib.hid (((hb.out.setCell (p := ⟨w.heap.size + 1, 0, none⟩) (by simp) (.int .i64 n)).setCell (p := ⟨w.heap.size + 1, 1, none⟩) (by simp) (.slice Ac vs.length cc)).setCell (p := ⟨w.heap.size + 1, 2, none⟩) (by simp) (.slice At2 ts.length ct2))
      have Hvx := Lib.hid hvx
      clear hvx hvl
      go_wp2_with fail
      obtain ⟨Ar, cr, er, r1, r2, hrr⟩ := HO.out.rows
      obtain ⟨Ai, ci, ei, i1, i2, hii⟩ := OwnI.ints HT2.out
      rw [hkk.out] at er r1 hrr
      injection er with er1 _ er3
      injection ei with ei1 _ ei3
      subst er1; subst er3; subst ei1; subst ei3
      refine bodyPost_ret (v := .agg #[.int .i64 n, .slice Ac vs.length cc, .slice At2 ts.length ct2]) (by simp [results, Tryd.results6, go_sem, k20, k21, k22]) rfl ⟨Ac, cc, At2, ct2, by rw [Hvx.out], r1, hrr, hii, Hbf.out⟩

end Go.Proofs.YtnadmnhkfdkafaaDoor
