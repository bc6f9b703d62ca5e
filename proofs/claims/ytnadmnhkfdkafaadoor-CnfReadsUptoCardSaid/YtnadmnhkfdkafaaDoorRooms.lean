/- Contracts of the law's rooms: newRooms, rooms.in, rooms.kept. -/
import Derived.Test.YtnadmnhkfdkafaaDoorRoom
import Derived.Test.YtnadmnhkfdkafaaDoorRefTidy
import Derived.Deep.CutRange
import Derived.Deep.RegionLaw
import Derived.OwnWalk
namespace Go.Proofs.YtnadmnhkfdkafaaDoor
open Go.RowKit
set_option linter.unusedVariables false
set_option linter.unusedSimpArgs false

/-- append(v, y) at elements of some cells: the goal's world is the one with y's box. -/
theorem appS {P : Program} {ops : Array Oper} {rest : List Oper} {o : Oper} {a : Act} {Q : Exit → Act → World → Prop} {w0 W : World} (B : Nat) (hgd : o.guard = none) (s x : Operand) (t e : TypeId) (z : Value) (size bytes m : Nat)
    (ho : o.op = .call { callee := .builtin .append, args := #[s, x], argTypes := #[t, t] })
    (ht : P.underlying t = some (.slice e)) (hinfo : (P.info? e).map (fun i => (i.zero, i.size, i.bytes)) = some (some z, size, bytes)) (hz : z.cells.size = size) (hs0 : 0 < size)
    (v : Value) (n : Nat) (xs ys : List Value) (hyl : ys.length = m * size) (hs : a.eval s = v) (hx : a.eval x = .slice (some ⟨W.heap.size, 0, none⟩) m m) (h1 : ∀ u ∈ ys, u.oneCell' = true)
    (HO : W.ownsRow B e size v n xs) (HB : Below B w0 W) (hbase : B ≤ W.heap.size) (hm : n + m ≤ 140737488355328) (hl : (n + m) * bytes ≤ 140737488355328)
    (h : ∀ v1 w1, w1.ownsRow B e size v1 (n + m) (xs ++ ys) → Below B w0 w1 → W.grownBy w1 v.ownBlock → wpList P ops Q rest (a.put o.dst v1) w1) :
    wpList P ops Q (o :: rest) a (W.alloc (.cells ys.toArray e)) := by
  obtain ⟨i0, hi, hz0, hz1, hz2⟩ := info_parts hinfo
  refine wpList_append_own_at _ hgd s x t ho B e i0 z size bytes ht hi hz0 hz1 hz2 hz hs0 v n xs hs (HO.alloc _) ⟨W.heap.size, 0, none⟩ m m ys hx hyl
    ?_ h1 (by simp only [maxLen]; omega) hl (by simp; omega) ?_
  · intro j u hu
    have hc := (Blk.new W e ys.toArray).cell j
    have e' : (⟨W.heap.size, 0, none⟩ : Addr).add j = ⟨W.heap.size, j, none⟩ := by unfold Addr.add; split <;> simp_all
    rw [e', hc]
    simpa using hu
  · intro v1 w1 hown hg _ hat
    have hg' : W.grownBy w1 v.ownBlock := World.grownBy.trans (World.grownBy_alloc W _ _) hg
    exact h v1 w1 hown (HB.grown hg' hbase (fun k hk => (HO.lt k hk).1)) hg'
/-- .. at a step of a region that draws -/
theorem stepS {P : Program} {ops : Array Oper} {o : Oper} {a : Act} {K : Act → World → Prop} {Q : Exit → Act → World → Prop} {E : Prop} {w0 W : World} (B : Nat) (hgd : o.guard = none) (s x : Operand) (t e : TypeId) (z : Value) (size bytes m : Nat)
    (ho : o.op = .call { callee := .builtin .append, args := #[s, x], argTypes := #[t, t] })
    (ht : P.underlying t = some (.slice e)) (hinfo : (P.info? e).map (fun i => (i.zero, i.size, i.bytes)) = some (some z, size, bytes)) (hz : z.cells.size = size) (hs0 : 0 < size)
    (v : Value) (n : Nat) (xs ys : List Value) (hyl : ys.length = m * size) (hs : a.eval s = v) (hx : a.eval x = .slice (some ⟨W.heap.size, 0, none⟩) m m) (h1 : ∀ u ∈ ys, u.oneCell' = true)
    (HO : W.ownsRow B e size v n xs) (HB : Below B w0 W) (hbase : B ≤ W.heap.size) (hm : n + m ≤ 140737488355328) (hl : (n + m) * bytes ≤ 140737488355328)
    (h : ∀ v1 w1, w1.ownsRow B e size v1 (n + m) (xs ++ ys) → Below B w0 w1 → W.grownBy w1 v.ownBlock → K (a.put o.dst v1) w1) :
    if Region.wanted o (yielded ops a.tmps) = true then Oper.wp P o a (W.alloc (.cells ys.toArray e)) K Q else E := by
  have hw : Region.wanted o (yielded ops a.tmps) = true := by simp [Region.wanted, hgd]
  rw [if_pos hw]
  obtain ⟨i0, hi, hz0, hz1, hz2⟩ := info_parts hinfo
  obtain ⟨v1, w1, hr, hown, hg, _, hat⟩ := run_append_own_at (P := P) (W.alloc (.cells ys.toArray e)) B t o.type e i0 z size bytes ht hi hz0 hz1 hz2 hz hs0 v n xs (HO.alloc _) ⟨W.heap.size, 0, none⟩ m m ys hyl
    (by
      intro j u hu
      have hc := (Blk.new W e ys.toArray).cell j
      have e' : (⟨W.heap.size, 0, none⟩ : Addr).add j = ⟨W.heap.size, j, none⟩ := by unfold Addr.add; split <;> simp_all
      rw [e', hc]
      simpa using hu) h1 (by simp only [maxLen]; omega) hl (by simp; omega)
  unfold Oper.wp execOp
  simp only [ho, resolve, invoke, builtin, Sem.run_bind, Sem.run_pure, Result.andThen_ok, List.map_toArray, List.map_cons, List.map_nil, hs, hx, hr]
  have hg' : W.grownBy w1 v.ownBlock := World.grownBy.trans (World.grownBy_alloc W _ _) hg
  exact h v1 w1 hown (HB.grown hg' hbase (fun k hk => (HO.lt k hk).1)) hg'

theorem info_room : (Tryd.prog.info? 33).map (fun i => (i.zero, i.size, i.bytes)) = some (some (.agg #[.slice none 0 0, .int .i64 0]), 2, 32) := by kernel_rfl

def eOf (t : Nat × Nat × List Int) : List Value := [.slice (some ⟨t.1, 0, none⟩) (t.2.2.length + 3) t.2.1, .int .i64 t.2.2.length]
def rOf (t : Nat × Nat × List Int) : Value := .slice (some ⟨t.1, 0, none⟩) t.2.2.length t.2.1
theorem eOf_length (ts : List (Nat × Nat × List Int)) : (ts.flatMap eOf).length = ts.length * 2 := by
  induction ts with
  | nil => rfl
  | cons t ts ih => rw [List.flatMap_cons, List.length_append, ih]; simp [eOf]; omega
theorem eOf_get {ts : List (Nat × Nat × List Int)} : ∀ {k : Nat} {t : Nat × Nat × List Int}, ts[k]? = some t →
    (ts.flatMap eOf)[k * 2]? = some (.slice (some ⟨t.1, 0, none⟩) (t.2.2.length + 3) t.2.1) ∧ (ts.flatMap eOf)[k * 2 + 1]? = some (.int .i64 t.2.2.length) := by
  induction ts with
  | nil => intro k t h; simp at h
  | cons u ts ih =>
    intro k t h
    rw [List.flatMap_cons]
    cases k with
    | zero => simp at h; subst h; simp [eOf]
    | succ k =>
      simp at h
      obtain ⟨h1, h2⟩ := ih h
      have e : (eOf u).length = 2 := rfl
      rw [List.getElem?_append_right (by rw [e]; omega), List.getElem?_append_right (by rw [e]; omega), e]
      rw [show (k + 1) * 2 - 2 = k * 2 by omega, show (k + 1) * 2 + 1 - 2 = k * 2 + 1 by omega]
      exact ⟨h1, h2⟩

def RoomsAt (w : World) (v : Value) (xss : List (List Int)) : Prop :=
  ∃ (ts : List (Nat × Nat × List Int)) (ae : Option Addr) (ce : Nat) (af : Addr) (cf p1 p2 : Nat),
    v = .agg #[.slice ae xss.length ce, .slice (some af) (xss.length + 2) cf] ∧ ts.map (·.2.2) = xss ∧ (∀ t ∈ ts, RoomAt w (roomV t) t.2.2) ∧ xss.length ≤ ce ∧ ce ≤ 9223372036854775807 ∧ CellsAt w ae (ts.flatMap eOf) ∧
    xss.length + 2 ≤ cf ∧ cf ≤ 9223372036854775807 ∧ CellsAt w (some af) (ts.map rOf ++ [.slice (some ⟨p1, 0, none⟩) 1 1, .slice (some ⟨p2, 0, none⟩) 1 1]) ∧
    w.cell? ⟨p1, 0, none⟩ = some (.int .i64 (-7004)) ∧ w.cell? ⟨p2, 0, none⟩ = some (.int .i64 (-7005))
theorem RoomsAt.below {w w' : World} {v : Value} {xss : List (List Int)} (h : RoomsAt w v xss) (hb : Below w.heap.size w w') : RoomsAt w' v xss := by
  obtain ⟨ts, ae, ce, af, cf, p1, p2, e, h1, h2, h3, h4, h5, h6, h7, h8, h9, h10⟩ := h
  exact ⟨ts, ae, ce, af, cf, p1, p2, e, h1, fun t ht => (h2 t ht).below hb, h3, h4, h5.below hb, h6, h7, h8.below hb, cell_kept hb h9, cell_kept hb h10⟩

/-- rooms of the call's own -/
structure RoomsT (w : World) (B : Nat) (xss : List (List Int)) (ts : List (Nat × Nat × List Int)) (ve vf : Value) (p1 p2 : Nat) : Prop where
  lists : ts.map (·.2.2) = xss
  each : ∀ t ∈ ts, RoomT w B t
  ownE : w.ownsRow B 33 2 ve xss.length (ts.flatMap eOf)
  ownF : w.ownsRow B 23 1 vf (xss.length + 2) (ts.map rOf ++ [.slice (some ⟨p1, 0, none⟩) 1 1, .slice (some ⟨p2, 0, none⟩) 1 1])
  m1 : Blk w p1 3 #[.int .i64 (-7004)]
  m2 : Blk w p2 3 #[.int .i64 (-7005)]
  b1 : B ≤ p1
  b2 : B ≤ p2
theorem RoomsT.form {w : World} {B : Nat} {xss : List (List Int)} {ts : List (Nat × Nat × List Int)} {ve vf : Value} {p1 p2 : Nat} (h : RoomsT w B xss ts ve vf p1 p2) :
    ∃ ae ce gf cf, ve = .slice ae xss.length ce ∧ vf = .slice (some ⟨gf, 0, none⟩) (xss.length + 2) cf := by
  obtain ⟨g, cap, e, _, _⟩ := h.ownF.form (by omega)
  rcases h.ownE.2 with ⟨h1, h2⟩ | ⟨g', cap', cur, h1, _⟩
  · exact ⟨none, 0, g, cap, by rw [h1, h2], e⟩
  · exact ⟨_, cap', g, cap, h1, e⟩
theorem RoomsT.at_ {w : World} {B : Nat} {xss : List (List Int)} {ts : List (Nat × Nat × List Int)} {ve vf : Value} {p1 p2 : Nat} (h : RoomsT w B xss ts ve vf p1 p2) : RoomsAt w (.agg #[ve, vf]) xss := by
  obtain ⟨ae, ce, gf, cf, rfl, rfl⟩ := h.form
  obtain ⟨_, _, e7, hcf1, hcf2, hcF⟩ := CellsAt.of_own h.ownF
  injection e7 with e71 _ e72
  subst e71; subst e72
  have q1 := h.m1.cell 0
  have q2 := h.m2.cell 0
  have key : xss.length ≤ ce ∧ ce ≤ 9223372036854775807 ∧ CellsAt w ae (ts.flatMap eOf) := by
    rcases h.ownE.2 with ⟨h1, h2⟩ | ⟨g, cap, cur, h1, _, _, h2, h3, _⟩
    · have hl0 := h.ownE.1
      rw [h2] at hl0
      injection h1 with _ _ h1
      exact ⟨by omega, by omega, .inl (List.eq_nil_of_length_eq_zero (by simpa using hl0))⟩
    · injection h1 with h1 _ h4
      subst h1
      exact ⟨by omega, by rw [h4]; simpa [maxLen] using h3, .inr ⟨_, rfl, h.ownE.cells (g := g) rfl⟩⟩
  exact ⟨ts, ae, ce, ⟨gf, 0, none⟩, cf, p1, p2, rfl, h.lists, fun t ht => (h.each t ht).at_, key.1, key.2.1, key.2.2, hcf1, hcf2, hcF, by simpa using q1, by simpa using q2⟩
theorem own_far {w : World} {B e s n : Nat} {v : Value} {xs : List Value} (h : w.ownsRow B e s v n xs) {p : Addr} (hp : p.block < B) (u : Value) : (w.setCell p u).ownsRow B e s v n xs :=
  own_setCell_far h (.inr fun e => by have := (h.lt p.block e).1; omega) u
theorem RoomsT.far {w : World} {B : Nat} {xss : List (List Int)} {ts : List (Nat × Nat × List Int)} {ve vf : Value} {p1 p2 : Nat} (h : RoomsT w B xss ts ve vf p1 p2) {p : Addr} (hp : p.block < B) (u : Value) : RoomsT (w.setCell p u) B xss ts ve vf p1 p2 where
  lists := h.lists
  each t ht := own_far (h.each t ht) hp u
  ownE := own_far h.ownE hp u
  ownF := own_far h.ownF hp u
  m1 := h.m1.far (by have := h.b1; omega) u
  m2 := h.m2.far (by have := h.b2; omega) u
  b1 := h.b1
  b2 := h.b2
theorem RoomsT.below {w w' : World} {B : Nat} {xss : List (List Int)} {ts : List (Nat × Nat × List Int)} {ve vf : Value} {p1 p2 : Nat} (h : RoomsT w B xss ts ve vf p1 p2) (hb : Below w.heap.size w w') : RoomsT w' B xss ts ve vf p1 p2 where
  lists := h.lists
  each t ht := own_below (h.each t ht) hb
  ownE := own_below h.ownE hb
  ownF := own_below h.ownF hb
  m1 := h.m1.below hb
  m2 := h.m2.below hb
  b1 := h.b1
  b2 := h.b2

set_option maxHeartbeats 4000000 in
set_option maxRecDepth 100000 in
theorem newRooms_calls (A : Option Addr) (c : Nat) (xss : List (List Int)) (w : World) (hx : RowsAt w A xss) (hl : xss.length ≤ 1048576) (hxl : ∀ l ∈ xss, l.length ≤ 1048576) :
    Calls Tryd.prog 22 #[.slice A xss.length c] w fun e w' => ∃ ts ve vf p1 p2, e = .returned (.agg #[ve, vf]) ∧ RoomsT w' w.heap.size xss ts ve vf p1 p2 ∧ Below w.heap.size w w' := by
  have HX := Lib.hid hx
  have HL := Lib.hid hxl
  clear hx hxl
  go_enter Tryd.func22, Tryd.ntmps22
  go_wp2_with fail
  go_loopw [4] (fun i wr => ∃ (k : Nat) (ve vf : Value) (ts : List (Nat × Nat × List Int)), k ≤ xss.length ∧ i = .int .i64 k ∧ Hid (ts.map (·.2.2) = xss.take k) ∧ Hid (∀ t ∈ ts, RoomT wr w.heap.size t) ∧
    Hid (wr.ownsRow w.heap.size 33 2 ve k (ts.flatMap eOf)) ∧ Hid (wr.ownsRow w.heap.size 23 1 vf k (ts.map rOf)) ∧
    Hid (Blk wr w.heap.size 31 #[.slice none 0 0, .slice none 0 0]) ∧ Hid (Blk wr (w.heap.size + 1) 31 #[ve, vf]) ∧ Hid (Below w.heap.size w wr)) (fun i _ => (xss.length - intOf i).toNat)
  case atStart =>
    refine ⟨0, .slice none 0 0, .slice none 0 0, [], Nat.zero_le _, rfl, rfl, by simp [Hid], World.ownsRow_nil _ _ _ _, World.ownsRow_nil _ _ _ _, (Blk.new w 31 #[.slice none 0 0, .slice none 0 0]).alloc _, ?_, ((Below.refl w.heap.size w).alloc (Nat.le_refl _) _).alloc (by simp) _⟩
    have h := Blk.new (w.alloc (.cells #[.slice none 0 0, .slice none 0 0] 31)) 31 #[.slice none 0 0, .slice none 0 0]
    simpa [Hid] using h
  case round =>
    obtain ⟨k, ve, vf, ts, hk, rfl, hts, hrt, he, hf, hB2, hB3, hb⟩ := hrel
    obtain ⟨wo, rfl⟩ : ∃ wo : World, wo = wr := ⟨_, rfl⟩
    by_cases hlt : k < xss.length
    · obtain ⟨ad, A1, c1, l, rfl, hcell, h1, h2, Hl, Hi⟩ := (HX.out.below hb.out).get hlt
      have hl1 : l.length ≤ 1048576 := HL.out l (List.mem_of_getElem? Hl.out)
      have hlz : (k : Int) < xss.length := by omega
      have cR := Lib.hid (newRoom_calls A1 c1 l wo Hi.out hl1)
      go_wp2_with fail
      refine cR.out.mono ?_
      rintro e w1 ⟨g, cap, rfl, hrt1, hb1⟩
      unfold roomV
      have Hb1 := Lib.hid hb1
      have T1 := Lib.hid (show RoomT w1 w.heap.size (g, cap, l) from own_lower hrt1 hb.out.size)
      have he1 := Lib.hid (own_below he.out hb1)
      have hf1 := Lib.hid (own_below hf.out hb1)
      have hr1 := Lib.hid (show ∀ t ∈ ts, RoomT w1 w.heap.size t from fun t ht => (hrt.out t ht).below hb1)
      have hB21 := Lib.hid (hB2.out.below hb1)
      have hB31 := Lib.hid (hB3.out.below hb1)
      have hb11 := Lib.hid (below_of hb.out hb.out.size hb1)
      have hBx := Lib.hid (Blk.new w1 33 #[.slice (some ⟨g, 0, none⟩) (l.length + 3) cap, .int .i64 l.length])
      have he1' := Lib.hid (World.ownsRow.alloc he1.out (.cells #[.slice (some ⟨g, 0, none⟩) (l.length + 3) cap, .int .i64 l.length] 33))
      have hd1 : (w1.alloc (.cells #[.slice (some ⟨g, 0, none⟩) (l.length + 3) cap, .int .i64 l.length] 33)).cell? ⟨w.heap.size + 1, 0, none⟩ = some ve := by
        have := (hB31.out.alloc (.cells #[.slice (some ⟨g, 0, none⟩) (l.length + 3) cap, .int .i64 l.length] 33)).cell 0; simpa using this
      have Bx1 := Lib.hid (hb11.out.alloc hb11.out.size (.cells #[.slice (some ⟨g, 0, none⟩) (l.length + 3) cap, .int .i64 l.length] 33))
      clear hrt1 hb1
      go_wp2_with ((
        at_builtin
        refine appS (w0 := w) (W := w1.alloc (.cells #[.slice (some ⟨g, 0, none⟩) (l.length + 3) cap, .int .i64 l.length] 33)) w.heap.size rfl (.tmp 18) (.tmp 20) 29 33 (.agg #[.slice none 0 0, .int .i64 0]) 2 32 1 rfl Tryd.underlying29 info_room rfl (by decide) ve k (ts.flatMap eOf) (eOf (g, cap, l)) rfl rfl ?hx (by simp [eOf, Value.oneCell']) he1'.out Bx1.out Bx1.out.size (by omega) (by omega) ?_
        case hx => simp [Act.eval]
        intro ve1 w2 own2 hb2 hg2
        have E2 := Lib.hid (show w2.ownsRow w.heap.size 33 2 ve1 (k + 1) ((ts ++ [(g, cap, l)]).flatMap eOf) by simpa using own2)
        have F2 := Lib.hid (own_grown_row (World.ownsRow.alloc hf1.out _) he1'.out (by decide) hg2)
        have R2 := Lib.hid (show ∀ t ∈ ts ++ [(g, cap, l)], RoomT w2 w.heap.size t from by
          intro t ht
          rw [List.mem_append, List.mem_singleton] at ht
          refine own_grown_row ?_ he1'.out (by decide) hg2
          refine World.ownsRow.alloc ?_ _
          rcases ht with ht | rfl
          · exact hr1.out t ht
          · exact T1.out)
        have hB22 := Lib.hid (Blk.grown_row (hB21.out.alloc _) he1'.out (by decide) hg2)
        have hB32 := Lib.hid (Blk.grown_row (hB31.out.alloc _) he1'.out (by decide) hg2)
        have hd2 : w2.cell? ⟨w.heap.size + 1, 0, none⟩ = some ve := by have := hB32.out.cell 0; simpa using this
        have hf2 : ∀ i, w2.frozen? ⟨w.heap.size + 1, i, none⟩ = false := fun i => hB32.out.frozen i
        have Hb2 := Lib.hid hb2
        have hBx2 := Lib.hid (show Blk w2 w1.heap.size 33 #[.slice (some ⟨g, 0, none⟩) (l.length + 3) cap, .int .i64 l.length] from
          hBx.out.grown hg2 (fun e => by have := (he1.out.lt w1.heap.size e.symm).2; omega))
        obtain ⟨ge, ce, rfl, hgB, hgs⟩ := own2.form (by simp)
        clear own2 hb2 hg2))
      obtain ⟨w3, hw3⟩ : ∃ w3, w3 = w2.setCell ⟨w.heap.size + 1, 0, none⟩ (.slice (some ⟨ge, 0, none⟩) (k + 1) ce) := ⟨_, rfl⟩
      have E3 := Lib.hid (show w3.ownsRow w.heap.size 33 2 (.slice (some ⟨ge, 0, none⟩) (k + 1) ce) (k + 1) ((ts ++ [(g, cap, l)]).flatMap eOf) by rw [hw3]; exact own_setCell_blk E2.out hB32.out (by decide) 0 _)
      have F3 := Lib.hid (show w3.ownsRow w.heap.size 23 1 vf k (ts.map rOf) by rw [hw3]; exact own_setCell_blk F2.out hB32.out (by decide) 0 _)
      have R3 := Lib.hid (show ∀ t ∈ ts ++ [(g, cap, l)], RoomT w3 w.heap.size t from fun t ht => by rw [hw3]; exact own_setCell_blk (R2.out t ht) hB32.out (by decide) 0 _)
      have hB23 := Lib.hid (show Blk w3 w.heap.size 31 #[.slice none 0 0, .slice none 0 0] by rw [hw3]; exact hB22.out.far (p := ⟨w.heap.size + 1, 0, none⟩) (by simp) _)
      have hB33 := Lib.hid (show Blk w3 (w.heap.size + 1) 31 #[.slice (some ⟨ge, 0, none⟩) (k + 1) ce, vf] by rw [hw3]; have h := hB32.out.set_ 0 (.slice (some ⟨ge, 0, none⟩) (k + 1) ce); simpa using h)
      have hlt31 : w.heap.size + 1 < w1.heap.size := hB31.out.lt
      have hBx3 := Lib.hid (show Blk w3 w1.heap.size 33 #[.slice (some ⟨g, 0, none⟩) (l.length + 3) cap, .int .i64 l.length] by rw [hw3]; exact hBx2.out.far (p := ⟨w.heap.size + 1, 0, none⟩) (by simp; omega) _)
      have Hb3 := Lib.hid (show Below w.heap.size w w3 by rw [hw3]; exact Hb2.out.setCell (p := ⟨w.heap.size + 1, 0, none⟩) (by simp) _)
      have k0 : w3.cell? ⟨w1.heap.size, 0, none⟩ = some (.slice (some ⟨g, 0, none⟩) (l.length + 3) cap) := by have := hBx3.out.cell 0; simpa using this
      have k1 : w3.cell? ⟨w1.heap.size, 1, none⟩ = some (.int .i64 l.length) := by have := hBx3.out.cell 1; simpa using this
      have k2 : w3.cell? ⟨w.heap.size + 1, 1, none⟩ = some vf := by have := hB33.out.cell 1; simpa using this
      rw [← hw3]
      clear hw3 E2 F2 R2 hB22 hB32 hBx2 Hb2 hd2 hf2 hd1 he1' hBx Bx1 hb11 hB31 hB21 hr1 hf1 he1 T1 cR
      go_region_law (first
        | (go_simp
           go_at_call 26
           refine (roomInT_calls _ w.heap.size (g, cap, l) ?_ ?_).mono ?_
           exact R3.out (g, cap, l) (by simp)
           exact hl1
           rintro e w4 ⟨rfl, hb4⟩
           have Hb4 := Lib.hid (show Below w3.heap.size w3 w4 by first | exact hb4 | exact (Below.refl _ w3).drew.trans hb4)
           have k3 : w4.cell? ⟨w.heap.size + 1, 1, none⟩ = some vf := cell_kept Hb4.out k2
           have k4 : ∀ o, (w4.alloc o).cell? ⟨w.heap.size + 1, 1, none⟩ = some vf := fun o => cell_kept ((Below.refl _ w4).alloc (Nat.le_refl _) o) k3
           have F4 := Lib.hid (own_below F3.out Hb4.out)
           have Bb4 := Lib.hid (below_of Hb3.out Hb3.out.size Hb4.out)
           clear hb4)
        | (refine stepS (w0 := w) (W := w4) w.heap.size rfl (.tmp 24) (.tmp 27) 22 23 (.slice none 0 0) 1 24 1 rfl Tryd.underlying22 info_ints rfl (by decide) vf k (ts.map rOf) [rOf (g, cap, l)] rfl rfl ?hx (by simp [rOf, Value.oneCell']) F4.out Bb4.out Bb4.out.size (by omega) (by omega) ?_
           case hx => simp [Act.eval]
           intro v5 w5 own5 hb5 hg5
           have F5 := Lib.hid (show w5.ownsRow w.heap.size 23 1 v5 (k + 1) ((ts ++ [(g, cap, l)]).map rOf) by simpa using own5)
           have E5 := Lib.hid (own_grown_row (own_below E3.out Hb4.out) F4.out (by decide) hg5)
           have R5 := Lib.hid (show ∀ t ∈ ts ++ [(g, cap, l)], RoomT w5 w.heap.size t from fun t ht => own_grown_row ((R3.out t ht).below Hb4.out) F4.out (by decide) hg5)
           have hB25 := Lib.hid (Blk.grown_row (hB23.out.below Hb4.out) F4.out (by decide) hg5)
           have hB35 := Lib.hid (Blk.grown_row (hB33.out.below Hb4.out) F4.out (by decide) hg5)
           have Hb5 := Lib.hid hb5
           have k5 : w5.cell? ⟨w.heap.size + 1, 1, none⟩ = some vf := by have := hB35.out.cell 1; simpa using this
           have kf5 : ∀ i, w5.frozen? ⟨w.heap.size + 1, i, none⟩ = false := fun i => hB35.out.frozen i
           obtain ⟨gf, cf, rfl, hgfB, hgfs⟩ := own5.form (by simp)
           clear own5 hb5 hg5))
      all_goals
        go_wp2_with fail
        have Hts := Lib.hid (show (ts ++ [(g, cap, l)]).map (·.2.2) = xss.take (k + 1) by rw [List.map_append, hts.out, List.take_add_one, Hl.out]; rfl)
        refine ⟨⟨k + 1, .slice (some ⟨ge, 0, none⟩) (k + 1) ce, .slice (some ⟨gf, 0, none⟩) (k + 1) cf, ts ++ [(g, cap, l)], by omega, by go_num, Hts, ?_, ?_, ?_, ?_, ?_, ?_⟩, by simp [intOf]; omega⟩
        · intro t ht; exact own_setCell_blk (R5.out t ht) hB35.out (by decide) 1 _
        · exact own_setCell_blk E5.out hB35.out (by decide) 1 _
        · exact own_setCell_blk F5.out hB35.out (by decide) 1 _
        · exact hB25.out.far (p := ⟨w.heap.size + 1, 1, none⟩) (by simp) _
        · have h := hB35.out.set_ 1 (.slice (some ⟨gf, 0, none⟩) (k + 1) cf); simpa [Hid] using h
        · exact Hb5.out.setCell (p := ⟨w.heap.size + 1, 1, none⟩) (by simp) _
    · have hkk : k = xss.length := by omega
      subst hkk
      rw [List.take_length] at hts
      have hd3 : (((wo.alloc (.cells #[.int .i64 (-7004)] 3)).alloc (.cells #[.int .i64 (-7005)] 3))).cell? ⟨w.heap.size + 1, 1, none⟩ = some vf := by
        have := ((hB3.out.alloc (.cells #[.int .i64 (-7004)] 3)).alloc (.cells #[.int .i64 (-7005)] 3)).cell 1; simpa using this
      have hd0 : wo.cell? ⟨w.heap.size + 1, 1, none⟩ = some vf := by have := hB3.out.cell 1; simpa using this
      have P1 := Lib.hid ((Blk.new wo 3 #[.int .i64 (-7004)]).alloc (.cells #[.int .i64 (-7005)] 3))
      have P2 := Lib.hid (show Blk ((wo.alloc (.cells #[.int .i64 (-7004)] 3)).alloc (.cells #[.int .i64 (-7005)] 3)) (wo.heap.size + 1) 3 #[.int .i64 (-7005)] by
        have h := Blk.new (wo.alloc (.cells #[.int .i64 (-7004)] 3)) 3 #[.int .i64 (-7005)]; simpa using h)
      have hfA := Lib.hid (World.ownsRow.alloc (World.ownsRow.alloc hf.out (.cells #[.int .i64 (-7004)] 3)) (.cells #[.int .i64 (-7005)] 3))
      have hbA := Lib.hid ((hb.out.alloc hb.out.size (.cells #[.int .i64 (-7004)] 3)).alloc (by have := hb.out.size; simp; omega) (.cells #[.int .i64 (-7005)] 3))
      go_wp2_with ((
        at_builtin
        refine appS (w0 := w) (W := (wo.alloc (.cells #[.int .i64 (-7004)] 3)).alloc (.cells #[.int .i64 (-7005)] 3)) w.heap.size rfl (.tmp 31) (.tmp 34) 22 23 (.slice none 0 0) 1 24 2 rfl Tryd.underlying22 info_ints rfl (by decide) vf xss.length (ts.map rOf) [.slice (some ⟨wo.heap.size, 0, none⟩) 1 1, .slice (some ⟨wo.heap.size + 1, 0, none⟩) 1 1] rfl rfl ?hx (by simp [Value.oneCell']) hfA.out hbA.out hbA.out.size (by omega) (by omega) ?_
        case hx => simp [Act.eval]
        intro v5 w5 own5 hb5 hg5
        have F5 := Lib.hid own5
        have E5 := Lib.hid (own_grown_row (World.ownsRow.alloc (World.ownsRow.alloc he.out _) _) hfA.out (by decide) hg5)
        have R5 := Lib.hid (show ∀ t ∈ ts, RoomT w5 w.heap.size t from fun t ht => own_grown_row (World.ownsRow.alloc (World.ownsRow.alloc (hrt.out t ht) _) _) hfA.out (by decide) hg5)
        have hB25 := Lib.hid (Blk.grown_row ((hB2.out.alloc _).alloc _) hfA.out (by decide) hg5)
        have hB35 := Lib.hid (Blk.grown_row ((hB3.out.alloc _).alloc _) hfA.out (by decide) hg5)
        have P15 := Lib.hid (Blk.grown_row P1.out hfA.out (by decide) hg5)
        have P25 := Lib.hid (Blk.grown_row P2.out hfA.out (by decide) hg5)
        have Hb5 := Lib.hid hb5
        have k5 : w5.cell? ⟨w.heap.size + 1, 1, none⟩ = some vf := by have := hB35.out.cell 1; simpa using this
        have k50 : w5.cell? ⟨w.heap.size + 1, 0, none⟩ = some ve := by have := hB35.out.cell 0; simpa using this
        have k20 : w5.cell? ⟨w.heap.size, 0, none⟩ = some (.slice none 0 0) := by have := hB25.out.cell 0; simpa using this
        have k21 : w5.cell? ⟨w.heap.size, 1, none⟩ = some (.slice none 0 0) := by have := hB25.out.cell 1; simpa using this
        have kf5 : ∀ i, w5.frozen? ⟨w.heap.size + 1, i, none⟩ = false := fun i => hB35.out.frozen i
        have kf2 : ∀ i, w5.frozen? ⟨w.heap.size, i, none⟩ = false := fun i => hB25.out.frozen i
        obtain ⟨gf, cf, rfl, hgfB, hgfs⟩ := own5.form (by simp)
        obtain ⟨ae, ce, rfl, hce1, hce2, _⟩ : ∃ ae ce, ve = .slice ae xss.length ce ∧ xss.length ≤ ce ∧ ce ≤ 9223372036854775807 ∧ True := by
          rcases he.out.2 with ⟨h1, h2⟩ | ⟨g, cap, cur, h1, _, _, h2, h3, _⟩
          · exact ⟨none, 0, by rw [h1, h2], by omega, by omega, trivial⟩
          · exact ⟨_, cap, h1, h2, by simpa [maxLen] using h3, trivial⟩
        clear own5 hb5 hg5))
      obtain ⟨VE, hVE⟩ : ∃ VE : Value, VE = .slice ae xss.length ce := ⟨_, rfl⟩
      obtain ⟨VF, hVF⟩ : ∃ VF : Value, VF = .slice (some ⟨gf, 0, none⟩) (xss.length + 2) cf := ⟨_, rfl⟩
      have step : ∀ {e s n : Nat} {v : Value} {xs : List Value}, w5.ownsRow w.heap.size e s v n xs → e ≠ 31 →
          (((w5.setCell ⟨w.heap.size + 1, 1, none⟩ VF).setCell ⟨w.heap.size, 0, none⟩ VE).setCell ⟨w.heap.size, 1, none⟩ VF).ownsRow w.heap.size e s v n xs := fun h hne => by
        have b1 := hB25.out.far (p := ⟨w.heap.size + 1, 1, none⟩) (by simp) VF
        exact own_setCell_blk (own_setCell_blk (own_setCell_blk h hB35.out hne 1 _) b1 hne 0 _) (b1.set_ 0 VE) hne 1 _
      have hB3f := hB35.out
      have PA : ∀ {p : Nat} {z : Int}, Blk w5 p 3 #[.int .i64 z] → Blk (((w5.setCell ⟨w.heap.size + 1, 1, none⟩ VF).setCell ⟨w.heap.size, 0, none⟩ VE).setCell ⟨w.heap.size, 1, none⟩ VF) p 3 #[.int .i64 z] := fun {p z} h => by
        have n1 : p ≠ w.heap.size + 1 := fun e => by subst e; have h2 := hB3f; unfold Blk at h h2; rw [h] at h2; simp at h2
        have n2 : p ≠ w.heap.size := fun e => by subst e; have h2 := hB25.out; unfold Blk at h h2; rw [h] at h2; simp at h2
        exact ((h.far (p := ⟨w.heap.size + 1, 1, none⟩) n1 VF).far (p := ⟨w.heap.size, 0, none⟩) n2 VE).far (p := ⟨w.heap.size, 1, none⟩) n2 VF
      have E6 := Lib.hid (step E5.out (by decide))
      have F6 := Lib.hid (step F5.out (by decide))
      have R6 := Lib.hid (show ∀ t ∈ ts, RoomT _ w.heap.size t from fun t ht => step (R5.out t ht) (by decide))
      have Q1 := Lib.hid (PA P15.out)
      have Q2 := Lib.hid (PA P25.out)
      have Hb6 := Lib.hid (((Hb5.out.setCell (p := ⟨w.heap.size + 1, 1, none⟩) (by simp) VF).setCell (p := ⟨w.heap.size, 0, none⟩) (by simp) VE).setCell (p := ⟨w.heap.size, 1, none⟩) (by simp) VF)
      subst hVE hVF
      clear step PA
      exact bodyPost_ret (v := .agg #[.slice ae xss.length ce, .slice (some ⟨gf, 0, none⟩) (xss.length + 2) cf]) (by simp [results, Tryd.results22, go_sem, k20, k21]) rfl ⟨ts, _, _, wo.heap.size, wo.heap.size + 1, rfl, ⟨hts.out, R6.out, E6.out, F6.out, Q1.out, Q2.out, hb.out.size, Nat.le_succ_of_le hb.out.size⟩, Hb6.out⟩

end Go.Proofs.YtnadmnhkfdkafaaDoor
